/- The pure law of PathJoins: Join, Relative and Common are the document's. -/
import Derived.Test.YtckpnmghbjimiaaDoorQWays
import Derived.Test.YtckpnmghbjimiaaDoorPxSignetlaw18PathJoins
namespace Go.Proofs.YtckpnmghbjimiaaDoor.Pure
open Go.Proofs.YtckpnmghbjimiaaDoor Go.Proofs.YtckpnmghbjimiaaDoor.P Go.RowKit Go.Proofs.YtckpnmghbjimiaaDoorW.PrintWords

theorem rcommon_loop (x y : List ByteArray) (hx : x.length ≤ 9223372036854775807) (d : Nat) : ∀ i : Nat, i + d = x.length → comN x y = i + comN (x.drop i) (y.drop i) →
    Ev (fun k => signetref18_common.l0 k x y (i : Int)) (comN x y : Int) := by
  induction d with
  | zero =>
    intro i hi hc
    rw [List.drop_of_length_le (by omega : x.length ≤ i), show comN [] (y.drop i) = 0 from rfl] at hc
    refine Ev.step (f := fun _ => some _) (fun k => ?_) (Ev.now _)
    simp only [signetref18_common.l0]
    rw [if_neg (by omega), hc]
    rfl
  | succ d ih =>
    intro i hi hc
    have hix : i < x.length := by omega
    by_cases hy : i < y.length
    · rw [drop_cons x i hix, drop_cons y i hy, comN] at hc
      by_cases he : x.getD i ByteArray.empty = y.getD i ByteArray.empty
      · rw [if_pos he] at hc
        refine Ev.step (fun k => ?_) (ih (i + 1) (by omega) (by omega))
        simp only [signetref18_common.l0]
        rw [if_pos (by omega), if_pos (by omega), if_pos (by omega), rdOf_nat, rdOf_nat, if_pos (by rw [he]), wrap_succ (by omega) (by omega)]
        rfl
      · rw [if_neg he] at hc
        refine Ev.step (f := fun _ => some _) (fun k => ?_) (Ev.now _)
        simp only [signetref18_common.l0]
        rw [if_pos (by omega), if_pos (by omega), if_pos (by omega), rdOf_nat, rdOf_nat, if_neg (fun g => he (toList_inj g)), hc]
        rfl
    · rw [List.drop_of_length_le (by omega : y.length ≤ i), comN_nil] at hc
      refine Ev.step (f := fun _ => some _) (fun k => ?_) (Ev.now _)
      simp only [signetref18_common.l0]
      rw [if_pos (by omega), if_neg (by omega), hc]
      rfl
theorem rcommon_ev (x y : List ByteArray) (hx : x.length ≤ 9223372036854775807) : Ev (fun k => signetref18_common.f k x y) (comN x y : Int) :=
  rcommon_loop x y hx x.length 0 (Nat.zero_add _) (by simp)

theorem refcommon_ev (s t : ByteArray) : Ev (fun k => signetref18_Common.f k s t) (comA s t) := by
  have h1 := parseA_len s
  unfold signetref18_Common.f comA
  refine Ev.bind (parse_ev s) ?_
  by_cases hs : (parseA s).2.2.2 = 0
  · simp only [if_pos hs]
    refine Ev.bind (parse_ev t) ?_
    by_cases ht : (parseA t).2.2.2 = 0
    · have hc := comN_le (parseA s).1 (parseA t).1
      simp only [if_pos ht]
      refine Ev.bind (rcommon_ev _ _ (by omega)) ?_
      refine Ev.congr (f := fun k => (signetref18_Form.f k ((parseA s).1.take (comN (parseA s).1 (parseA t).1))).bind fun t469 => (some (t469, 0))) (fun k => ?_) ?_
      · rw [if_pos (by omega), if_pos (by omega)]
        rfl
      · have h2 := parseA_lens s hs
        have h3 := lensP_take (parseA s).1 (comN (parseA s).1 (parseA t).1)
        exact Ev.bind (form_ev _ (by rw [List.length_take]; omega) (by omega)) (Ev.now _)
    · simp only [if_neg ht]
      exact Ev.now _
  · simp only [if_neg hs]
    exact Ev.now _

theorem refjoin1_ev (u : ByteArray) : Ev (fun k => signetref18_Join.j1 k u) (cleanA u) := by
  refine Ev.step (f := fun k => (signetref18_Parse.f k u).bind fun bt369 => (if bt369.2.2.2 = 0 then ((signetref18_Form.f k bt369.1).bind fun t376 => (some (t376, 0))) else (some ((⟨#[]⟩ : ByteArray), bt369.2.2.2)))) (fun k => by simp only [signetref18_Join.j1]) ?_
  refine Ev.bind (parse_ev u) ?_
  unfold cleanA
  by_cases h : (parseA u).2.2.2 = 0
  · simp only [if_pos h]
    have h1 := parseA_len u
    have h2 := parseA_lens u h
    exact Ev.bind (form_ev _ (by omega) (by omega)) (Ev.now _)
  · simp only [if_neg h]
    exact Ev.now _

theorem refjoin_ev (a b : ByteArray) (ha : a.size ≤ 140737488351232) (hb : b.size ≤ 140737488351232) : Ev (fun k => signetref18_Join.f k a b) (cleanA (joinT a b)) := by
  have hz := Lib.size_eq b
  have e1 : (⟨#[47]⟩ : ByteArray).size = 1 := rfl
  unfold joinT
  cases hl : b.data.toList with
  | nil =>
    have h0 : b.toList = [] := by rw [Lib.toList_data, hl]
    rw [if_neg (by simp)]
    refine Ev.congr (f := fun k => signetref18_Join.j0 k b ((a ++ (⟨#[47]⟩ : ByteArray)) ++ b) false) (fun k => ?_) (Ev.step (fun k => ?_) (refjoin1_ev _))
    · unfold signetref18_Join.f
      rw [if_pos (by omega), if_pos (by rw [ByteArray.size_append, e1]; omega), if_pos h0]
    · simp [signetref18_Join.j0]
  | cons c l =>
    have h0 : ¬ b.toList = [] := by rw [Lib.toList_data, hl]; simp
    have hpos : 0 < b.size := by rw [hz, hl]; simp
    have hb0 : bt b 0 = (c.toNat : Int) := bt_nat b 0 c (by rw [hl]; rfl)
    refine Ev.congr (f := fun k => signetref18_Join.j0 k b ((a ++ (⟨#[47]⟩ : ByteArray)) ++ b) ((c.toNat : Int) == 47)) (fun k => ?_) ?_
    · unfold signetref18_Join.f
      rw [if_pos (by omega), if_pos (by rw [ByteArray.size_append, e1]; omega), if_neg h0, if_pos (by omega), hb0]
    · by_cases hc : c = 47
      · subst hc
        rw [if_pos (show (47 :: l).head? = some 47 from rfl)]
        exact Ev.step (fun k => by simp [signetref18_Join.j0]) (refjoin1_ev b)
      · rw [if_neg (by simpa using hc)]
        have : ((c.toNat : Int) == 47) = false := by
          rw [beq_eq_false_iff_ne]
          exact fun e => hc ((u8_eq (n := 47) (by omega)).1 e)
        rw [this]
        exact Ev.step (fun k => by simp [signetref18_Join.j0]) (refjoin1_ev _)

theorem rrel1_ev (y : List ByteArray) (b : Bool) (hy : y.length ≤ 9223372036854775806) (d : Nat) : ∀ (i : Nat) (acc : ByteArray), i + d = y.length → acc.size + lensP (y.drop i) ≤ 9223372036854775807 →
    Ev (fun k => signetref18_Relative.l1 k acc (i : Int) y b) (if acc ++ ofL (fl (y.drop i)) = (⟨#[]⟩ : ByteArray) then (⟨#[46]⟩, 0) else ((acc ++ ofL (fl (y.drop i))).extract 1 (acc ++ ofL (fl (y.drop i))).size, 0)) := by
  induction d with
  | zero =>
    intro i acc hi hb
    have e : acc ++ ofL (fl (y.drop i)) = acc := by
      rw [List.drop_of_length_le (by omega : y.length ≤ i)]
      refine ba_ext ?_
      rw [app_data, data_ofL]
      simp [fl]
    rw [e]
    refine Ev.step (f := fun _ => some _) (fun k => ?_) (Ev.now _)
    simp only [signetref18_Relative.l1]
    rw [if_neg (by omega)]
    by_cases h0 : acc = (⟨#[]⟩ : ByteArray)
    · rw [if_pos h0, if_pos (by rw [h0, Lib.toList_data])]
    · have hl : acc.toList ≠ [] := fun g => h0 (toList_inj (by rw [g, Lib.toList_data]))
      have hs : 0 < acc.size := by rw [Lib.size_eq, ← Lib.toList_data]; exact List.length_pos_iff.2 hl
      rw [if_neg h0, if_neg hl, if_pos (by omega)]
  | succ d ih =>
    intro i acc hi hb
    have hlt : i < y.length := by omega
    rw [drop_cons y i hlt] at hb ⊢
    have hsz : lensP (y.getD i ByteArray.empty :: y.drop (i + 1)) = (y.getD i ByteArray.empty).size + 1 + lensP (y.drop (i + 1)) := by simp [lensP]
    rw [hsz] at hb
    have hs1 : ((⟨#[47]⟩ : ByteArray) ++ y.getD i ByteArray.empty).size = 1 + (y.getD i ByteArray.empty).size := by rw [ByteArray.size_append]; rfl
    have e : acc ++ ofL (fl (y.getD i ByteArray.empty :: y.drop (i + 1))) = (acc ++ ((⟨#[47]⟩ : ByteArray) ++ y.getD i ByteArray.empty)) ++ ofL (fl (y.drop (i + 1))) := by
      refine ba_ext ?_
      simp only [app_data, data_ofL]
      simp [fl]
    rw [e]
    refine Ev.step (fun k => ?_) (ih (i + 1) _ (by omega) (by rw [ByteArray.size_append, hs1]; omega))
    simp only [signetref18_Relative.l1]
    rw [if_pos (by omega), if_pos (by omega), rdOf_nat, if_pos (by omega), if_pos (by rw [hs1]; omega), wrap_succ (by omega) (by omega)]
    rfl

theorem rrel0_ev (x y : List ByteArray) (n : Nat) (a b : Bool) (res : ByteArray × Int) (hx : x.length ≤ 1000) (h1 : Ev (fun k => signetref18_Relative.l1 k (ofL (fl (List.replicate (x.length - n) dots))) (n : Int) y b) res) (d : Nat) : ∀ (i : Nat), i + d = x.length → n ≤ i →
    Ev (fun k => signetref18_Relative.l0 k (n : Int) (ofL (fl (List.replicate (i - n) dots))) (i : Int) x a y b) res := by
  induction d with
  | zero =>
    intro i hi hni
    obtain rfl : i = x.length := by omega
    refine Ev.step (fun k => ?_) h1
    simp only [signetref18_Relative.l0]
    rw [if_neg (by omega)]
  | succ d ih =>
    intro i hi hni
    refine Ev.step (fun k => ?_) (ih (i + 1) (by omega) (by omega))
    have hs : (ofL (fl (List.replicate (i - n) dots))).size = 3 * (i - n) := by rw [size_ofL, fl_len, lensP_rep]
    have e : ofL (fl (List.replicate (i - n) dots)) ++ (⟨#[47, 46, 46]⟩ : ByteArray) = ofL (fl (List.replicate (i + 1 - n) dots)) := by
      refine ba_ext ?_
      rw [app_data, data_ofL, data_ofL, show i + 1 - n = (i - n) + 1 from by omega, List.replicate_succ', fl, fl, List.flatMap_append]
      simp
    simp only [signetref18_Relative.l0]
    rw [if_pos (by omega), if_pos (by rw [hs]; omega), e, wrap_succ (by omega) (by omega)]
    rfl

theorem refrel_ev (s t : ByteArray) : Ev (fun k => signetref18_Relative.f k s t) (relA s t) := by
  have h1 := parseA_len s
  have h2 := parseA_len t
  have h3 := parseA_names t
  unfold signetref18_Relative.f relA
  refine Ev.bind (parse_ev s) ?_
  by_cases hs : (parseA s).2.2.2 = 0
  · simp only [if_pos hs]
    refine Ev.bind (parse_ev t) ?_
    by_cases ht : (parseA t).2.2.2 = 0
    · simp only [if_pos ht]
      refine Ev.bind (rcommon_ev _ _ (by omega)) ?_
      generalize (parseA s).1 = x at *
      generalize (parseA t).1 = y at *
      have hc := comN_le x y
      have hsm := lensP_small (y.drop (comN x y)) (fun z hz => h3 z (List.mem_of_mem_drop hz))
      rw [List.length_drop] at hsm
      have hz : (ofL (fl (List.replicate (x.length - comN x y) dots))).size = 3 * (x.length - comN x y) := by rw [size_ofL, fl_len, lensP_rep]
      have hA := rrel1_ev y (parseA t).2.1 (by omega) (y.length - comN x y) (comN x y) (ofL (fl (List.replicate (x.length - comN x y) dots))) (by omega) (by rw [hz]; omega)
      have e : ofL (fl (List.replicate (x.length - comN x y) dots)) ++ ofL (fl (y.drop (comN x y))) = ofL (fl (wayP x y)) := by
        refine ba_ext ?_
        rw [app_data, data_ofL, data_ofL, data_ofL, wayP, fl, fl, fl, List.flatMap_append]
      rw [e] at hA
      have e2 : (if ofL (fl (wayP x y)) = (⟨#[]⟩ : ByteArray) then ((⟨#[46]⟩ : ByteArray), (0 : Int)) else ((ofL (fl (wayP x y))).extract 1 (ofL (fl (wayP x y))).size, 0)) = (wayB x y, 0) := by
        unfold wayB
        by_cases h0 : wayP x y = []
        · rw [h0, if_pos rfl, if_pos (show ofL (fl []) = (⟨#[]⟩ : ByteArray) from rfl)]
        · have hf := fl_join _ h0
          rw [if_neg (fun g => by have g2 := congrArg (fun z : ByteArray => z.data.toList) g; simp only [data_ofL] at g2; rw [hf] at g2; simp at g2), if_neg h0]
          congr 1
          refine ba_ext ?_
          rw [Lib.extract_to_end, data_ofL, hf]
          rfl
      rw [e2] at hA
      have hB := rrel0_ev x y (comN x y) (parseA s).2.1 (parseA t).2.1 _ (by omega) hA (x.length - comN x y) (comN x y) (by omega) (Nat.le_refl _)
      rw [Nat.sub_self] at hB
      exact hB
    · simp only [if_neg ht]
      exact Ev.now _
  · simp only [if_neg hs]
    exact Ev.now _

theorem PathJoins (a b : ByteArray) (ha : a.size ≤ 140737488351232) (hb : b.size ≤ 140737488351232) : ∃ k, signetlaw18_PathJoins.f k a b = some true := by
  refine Ev.rounds ?_
  unfold signetlaw18_PathJoins.f
  simp only [awake_true, Option.bind_some, if_true]
  refine Ev.bind (join_ev a b ha hb) (Ev.bind (refjoin_ev a b ha hb) (Ev.bind (relative_ev a b) (Ev.bind (refrel_ev a b) (Ev.bind (common_ev a b) (Ev.bind (refcommon_ev a b) ?_)))))
  simp only [if_true, beq_self_eq_true]
  exact Ev.now _

end Go.Proofs.YtckpnmghbjimiaaDoor.Pure
