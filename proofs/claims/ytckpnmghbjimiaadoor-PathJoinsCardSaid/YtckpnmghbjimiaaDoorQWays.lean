/- Join, Relative and Common (pure). -/
import Derived.Test.YtckpnmghbjimiaaDoorQClean
import Derived.Test.YtckpnmghbjimiaaDoorG7
import Derived.Test.YtckpnmghbjimiaaDoorPxPathJoin
import Derived.Test.YtckpnmghbjimiaaDoorPxPathRelative
import Derived.Test.YtckpnmghbjimiaaDoorPxPathCommon
namespace Go.Proofs.YtckpnmghbjimiaaDoor.Pure
open Go.Proofs.YtckpnmghbjimiaaDoor Go.Proofs.YtckpnmghbjimiaaDoor.P Go.RowKit Go.Proofs.YtckpnmghbjimiaaDoorW.PrintWords

/-- How many names two lists begin with together. -/
def comN : List ByteArray → List ByteArray → Nat
  | a :: x, b :: y => if a = b then comN x y + 1 else 0
  | _, _ => 0
theorem comN_le : ∀ x y : List ByteArray, comN x y ≤ x.length ∧ comN x y ≤ y.length
  | [], _ => by simp [comN]
  | _ :: _, [] => by simp [comN]
  | a :: x, b :: y => by
    have ih := comN_le x y
    rw [comN]
    split
    · simp only [List.length_cons]; omega
    · simp
theorem comN_nil (x : List ByteArray) : comN x [] = 0 := by cases x <;> rfl

def bothA (s t : ByteArray) : List ByteArray × List ByteArray × Int × Int :=
  if (parseA s).2.2.2 = 0 then if (parseA t).2.2.2 = 0 then ((parseA s).1, (parseA t).1, (comN (parseA s).1 (parseA t).1 : Int), 0) else ([], [], 0, (parseA t).2.2.2) else ([], [], 0, (parseA s).2.2.2)

theorem both_loop (x y : List ByteArray) (a b : Bool) (hx : x.length ≤ 9223372036854775807) (d : Nat) : ∀ i : Nat, i + d = x.length → comN x y = i + comN (x.drop i) (y.drop i) →
    Ev (fun k => path_both.l0 k (i : Int) x a y b) (x, y, (comN x y : Int), 0) := by
  induction d with
  | zero =>
    intro i hi hc
    rw [List.drop_of_length_le (by omega : x.length ≤ i), show comN [] (y.drop i) = 0 from rfl] at hc
    refine Ev.step (f := fun _ => some _) (fun k => ?_) (Ev.now _)
    simp only [path_both.l0]
    rw [if_neg (by omega), hc]
    rfl
  | succ d ih =>
    intro i hi hc
    have hix : i < x.length := by omega
    by_cases hy : i < y.length
    · rw [drop_cons x i hix, drop_cons y i hy, comN] at hc
      by_cases he : x.getD i ByteArray.empty = y.getD i ByteArray.empty
      · rw [if_pos he] at hc
        refine Ev.step (fun k => ?_) (ih (i + 1) (by omega) (by omega))
        simp only [path_both.l0]
        rw [if_pos (by omega), if_pos (by omega), if_pos (by omega), rdOf_nat, rdOf_nat, if_pos (by rw [he]), wrap_succ (by omega) (by omega)]
        rfl
      · rw [if_neg he] at hc
        refine Ev.step (f := fun _ => some _) (fun k => ?_) (Ev.now _)
        simp only [path_both.l0]
        rw [if_pos (by omega), if_pos (by omega), if_pos (by omega), rdOf_nat, rdOf_nat, if_neg (fun g => he (toList_inj g)), hc]
        rfl
    · rw [List.drop_of_length_le (by omega : y.length ≤ i), comN_nil] at hc
      refine Ev.step (f := fun _ => some _) (fun k => ?_) (Ev.now _)
      simp only [path_both.l0]
      rw [if_pos (by omega), if_neg (by omega), hc]
      rfl

theorem both_ev (s t : ByteArray) : Ev (fun k => path_both.f k s t) (bothA s t) := by
  have h1 := parseA_len s
  unfold path_both.f path_Parse.f bothA
  simp only [Option.bind_some]
  by_cases hs : (parseA s).2.2.2 = 0
  · by_cases ht : (parseA t).2.2.2 = 0
    · simp only [if_pos hs, if_pos ht]
      exact both_loop _ _ _ _ (by omega) (parseA s).1.length 0 (Nat.zero_add _) (by simp)
    · simp only [if_pos hs, if_neg ht]
      exact Ev.now _
  · simp only [if_neg hs]
    exact Ev.now _

/-- The parts of the way. -/
abbrev dots : ByteArray := ⟨#[46, 46]⟩
def wayP (x y : List ByteArray) : List ByteArray := List.replicate (x.length - comN x y) dots ++ y.drop (comN x y)
def joinB (l : List ByteArray) : ByteArray := ofL (Lib.join (l.map (·.data.toList)) [47])
def wayB (x y : List ByteArray) : ByteArray := if wayP x y = [] then ⟨#[46]⟩ else joinB (wayP x y)
def relA (s t : ByteArray) : ByteArray × Int := if (parseA s).2.2.2 = 0 then if (parseA t).2.2.2 = 0 then (wayB (parseA s).1 (parseA t).1, 0) else (⟨#[]⟩, (parseA t).2.2.2) else (⟨#[]⟩, (parseA s).2.2.2)

theorem lensP_rep (n : Nat) : lensP (List.replicate n dots) = 3 * n := by
  induction n with
  | zero => rfl
  | succ n ih =>
    rw [List.replicate_succ]
    have : lensP (dots :: List.replicate n dots) = 3 + lensP (List.replicate n dots) := by simp [lensP, show dots.size = 2 from rfl]
    omega

theorem wayP_small (s t : ByteArray) : lensP (wayP (parseA s).1 (parseA t).1) ≤ 2000 ∧ (wayP (parseA s).1 (parseA t).1).length ≤ 64 := by
  have h1 := parseA_len s
  have h2 := parseA_len t
  have h3 := parseA_names t
  unfold wayP
  rw [lensP_append, lensP_rep]
  have h4 := lensP_small ((parseA t).1.drop (comN (parseA s).1 (parseA t).1)) (fun x hx => h3 x (List.mem_of_mem_drop hx))
  rw [List.length_drop] at h4
  refine ⟨by omega, ?_⟩
  rw [List.length_append, List.length_replicate, List.length_drop]
  omega

theorem join_len (l : List ByteArray) : (Lib.join (l.map (·.data.toList)) [47]).length ≤ lensP l := by
  by_cases h : l = []
  · subst h; simp [Lib.join]
  · have := congrArg List.length (fl_join l h)
    rw [fl_len, List.length_cons] at this
    omega

theorem relative_ev (s t : ByteArray) : Ev (fun k => path_Relative.f k s t) (relA s t) := by
  have h1 := parseA_len s
  have h2 := parseA_len t
  have hw := wayP_small s t
  unfold path_Relative.f
  refine Ev.bind (both_ev s t) ?_
  refine Ev.congr (fun k => ?_) (Ev.now _)
  unfold bothA relA
  by_cases hs : (parseA s).2.2.2 = 0
  · by_cases ht : (parseA t).2.2.2 = 0
    · simp only [if_pos hs, if_pos ht, if_true]
      generalize (parseA s).1 = x at *
      generalize (parseA t).1 = y at *
      have hc := comN_le x y
      have hwr : wrap64 ((x.length : Int) - (comN x y : Int)) = ((x.length - comN x y : Nat) : Int) := by unfold wrap64; omega
      have hrep : slices_Repeat_string_string.f [dots] ((x.length - comN x y : Nat) : Int) = some (List.replicate (x.length - comN x y) dots) := by
        unfold slices_Repeat_string_string.f
        simp only
        rw [if_pos (by omega)]
        rfl
      rw [hwr, hrep, Option.bind_some, if_pos (by omega), if_pos (by omega), Option.bind_some]
      have hd : y.drop ((comN x y : Nat) : Int).toNat = y.drop (comN x y) := rfl
      rw [hd, if_pos (by have := hw.2; unfold wayP at this; rw [List.length_append] at this; omega), Option.bind_some]
      show (if (((wayP x y).length : Int)) = 0 then some ((⟨#[46]⟩ : ByteArray), (0 : Int)) else (strings_Join.f (wayP x y) (⟨#[47]⟩ : ByteArray)).bind fun t202 => some (t202, 0)) = _
      unfold wayB
      by_cases h0 : wayP x y = []
      · rw [if_pos (by rw [h0]; rfl), if_pos h0]
      · have hn : 0 < (wayP x y).length := List.length_pos_iff.2 h0
        have hj := join_len (wayP x y)
        rw [if_neg (by omega), if_neg h0]
        unfold strings_Join.f
        rw [if_pos ⟨by omega, by show (Lib.join ((wayP x y).map (·.data.toList)) [47]).length ≤ _; omega⟩]
        rfl
    · simp only [if_pos hs, if_neg ht]
  · simp only [if_neg hs]

/-- Common. -/
def comA (s t : ByteArray) : ByteArray × Int := if (parseA s).2.2.2 = 0 then if (parseA t).2.2.2 = 0 then (formL ((parseA s).1.take (comN (parseA s).1 (parseA t).1)), 0) else (⟨#[]⟩, (parseA t).2.2.2) else (⟨#[]⟩, (parseA s).2.2.2)

theorem lensP_take (l : List ByteArray) (n : Nat) : lensP (l.take n) ≤ lensP l := prefix_lens (List.take_prefix n l)

theorem printA_take (s : ByteArray) (n : Nat) (h0 : (parseA s).2.2.2 = 0) : printA ((parseA s).1.take n) = (formL ((parseA s).1.take n), 0, 0) := by
  have h1 := parseA_len s
  have h2 := parseA_lens s h0
  have h3 := lensP_take (parseA s).1 n
  have h4 := (formL_le ((parseA s).1.take n) (by omega)).1
  unfold printA
  rw [badAt_all _ _ (fun x hx => parseA_names s x (List.mem_of_mem_take hx))]
  simp only
  rw [if_neg (by rw [List.length_take]; omega), if_neg (by omega)]

theorem common_ev (s t : ByteArray) : Ev (fun k => path_Common.f k s t) (comA s t) := by
  have h1 := parseA_len s
  unfold path_Common.f
  refine Ev.bind (both_ev s t) ?_
  unfold bothA comA
  by_cases hs : (parseA s).2.2.2 = 0
  · by_cases ht : (parseA t).2.2.2 = 0
    · have hc := comN_le (parseA s).1 (parseA t).1
      simp only [if_pos hs, if_pos ht, if_true]
      refine Ev.congr (f := fun k => (path_Print.f k ((parseA s).1.take (comN (parseA s).1 (parseA t).1))).bind fun bt447 => (some (bt447.1, bt447.2.2))) (fun k => ?_) ?_
      · rw [if_pos (by omega), if_pos (by omega)]
        rfl
      · refine Ev.bind (print_ev _ (by rw [List.length_take]; omega)) ?_
        rw [printA_take s _ hs]
        exact Ev.now _
    · simp only [if_pos hs, if_neg ht]
      exact Ev.now _
  · simp only [if_neg hs]
    exact Ev.now _

/-- Join. -/
def joinT (a b : ByteArray) : ByteArray := if b.data.toList.head? = some 47 then b else a ++ (⟨#[47]⟩ : ByteArray) ++ b
theorem prefix_f (b : ByteArray) : strings_HasPrefix.f b (⟨#[47]⟩ : ByteArray) = some (decide (b.data.toList.head? = some 47)) := by
  unfold strings_HasPrefix.f stringslite_HasPrefix.f
  have e1 : (⟨#[47]⟩ : ByteArray).size = 1 := rfl
  have hz := Lib.size_eq b
  rw [e1]
  by_cases h : b.size = 0
  · have hb : b.data.toList = [] := List.length_eq_zero_iff.1 (by omega)
    rw [if_neg (by omega), Option.bind_some, hb]
    rfl
  · rw [if_pos (by omega), if_pos (by omega), if_pos (by omega)]
    simp only [Option.bind_some]
    congr 1
    rw [Lib.toList_data, Lib.toList_data]
    have : (b.extract 0 ((1 : Nat) : Int).toNat).data.toList = b.data.toList.take 1 := by rw [Lib.extract_data]; rfl
    rw [this]
    cases hl : b.data.toList with
    | nil => rw [hl] at hz; exact absurd hz h
    | cons c l =>
      rw [Bool.eq_iff_iff]
      simp

theorem join_ev (a b : ByteArray) (ha : a.size ≤ 140737488351232) (hb : b.size ≤ 140737488351232) : Ev (fun k => path_Join.f k a b) (cleanA (joinT a b)) := by
  unfold path_Join.f joinT
  simp only [prefix_f, Option.bind_some, decide_eq_true_eq]
  by_cases h : b.data.toList.head? = some 47
  · simp only [if_pos h]
    exact Ev.bind (f := fun _ bt => some (bt.1, bt.2)) (clean_ev b) (Ev.now _)
  · simp only [if_neg h]
    refine Ev.congr (f := fun k => (path_Clean.f k ((a ++ (⟨#[47]⟩ : ByteArray)) ++ b)).bind fun bt367 => (some (bt367.1, bt367.2))) (fun k => ?_) (Ev.bind (f := fun _ bt => some (bt.1, bt.2)) (clean_ev _) (Ev.now _))
    rw [if_pos (by omega), if_pos (by rw [ByteArray.size_append, show (⟨#[47]⟩ : ByteArray).size = 1 from rfl]; omega)]

end Go.Proofs.YtckpnmghbjimiaaDoor.Pure
