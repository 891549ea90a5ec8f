/- Pure texts of this seat joined into one: QBase, QNames, QFacts0, QPrint, QClean, QPrefix, QWays, QRound, QFields, QNameMatch, QPMatch, QWayFacts, QPathWays. -/
import Derived.Test.YtckpnmghbjimiaaDoorS0
import Derived.Test.YtckpnmghbjimiaaDoorG2
import Derived.Test.YtckpnmghbjimiaaDoorPxNameCheck
import Derived.Test.YtckpnmghbjimiaaDoorPxSignetref18Form
import Derived.Test.YtckpnmghbjimiaaDoorG3
import Derived.Test.YtckpnmghbjimiaaDoorPxPathPrint
import Derived.Test.YtckpnmghbjimiaaDoorPxPathClean
import Derived.Test.YtckpnmghbjimiaaDoorPxStringsHasPrefix
import Derived.Test.YtckpnmghbjimiaaDoorG7
import Derived.Test.YtckpnmghbjimiaaDoorPxPathJoin
import Derived.Test.YtckpnmghbjimiaaDoorPxPathRelative
import Derived.Test.YtckpnmghbjimiaaDoorPxPathCommon
import Derived.Test.YtckpnmghbjimiaaDoorPxPathSame
import Derived.Test.YtckpnmghbjimiaaDoorG6
import Derived.Test.YtckpnmghbjimiaaDoorG4
import Derived.Test.YtckpnmghbjimiaaDoorPxNameMatch
import Derived.Test.YtckpnmghbjimiaaDoorPxPathMatch
import Derived.Test.YtckpnmghbjimiaaDoorG8
import Derived.Test.YtckpnmghbjimiaaDoorPxSignetlaw18PathWays

/- Bytes, names and parts of a text (pure). -/
namespace Go.Proofs.YtckpnmghbjimiaaDoor.Pure
open Go.Proofs.YtckpnmghbjimiaaDoor Go.Proofs.YtckpnmghbjimiaaDoor.P Go.RowKit Go.Proofs.YtckpnmghbjimiaaDoorW.PrintWords

theorem bt_nat (s : ByteArray) (i : Nat) (x : UInt8) (h : s.data.toList[i]? = some x) : bt s (i : Int) = (x.toNat : Int) := by
  have hl : i < s.size := by rw [Lib.size_eq]; exact (List.getElem?_eq_some_iff.1 h).1
  unfold bt
  have : (i : Int).toNat < s.size := by omega
  rw [dif_pos this]
  have h2 : s.data[i]? = some x := by rw [← Array.getElem?_toList]; exact h
  have := (Array.getElem?_eq_some_iff.1 h2).2
  rw [← this]
  rfl

theorem get_some (s : ByteArray) (i : Nat) (h : i < s.size) : ∃ x, s.data.toList[i]? = some x := by
  rw [Lib.size_eq] at h
  exact ⟨_, List.getElem?_eq_getElem h⟩

theorem u8_eq {x : UInt8} {n : Nat} (hn : n < 256) : ((x.toNat : Int) = (n : Int)) ↔ x = UInt8.ofNat n := by
  constructor
  · intro h
    have : x.toNat = n := by omega
    apply UInt8.toNat_inj.1
    rw [this, UInt8.toNat_ofNat']
    omega
  · rintro rfl
    rw [UInt8.toNat_ofNat']
    omega

def nameB (x : ByteArray) : Bool := decide (checkE x = 0)

theorem nameB_bad {x : ByteArray} (h : hasBad x = true) : nameB x = false := by
  unfold nameB checkE
  repeat' split
  all_goals first | rfl | (exfalso; simp_all)

theorem split_word : ∀ u : List UInt8, (∀ c ∈ u, c ≠ 47) → splitSlash u = [u]
  | [], _ => rfl
  | c :: u, h => by
    have ih := split_word u (fun x hx => h x (List.mem_cons_of_mem _ hx))
    unfold splitSlash
    rw [if_neg (h c List.mem_cons_self), ih]
theorem split_word_slash : ∀ (u v : List UInt8), (∀ c ∈ u, c ≠ 47) → splitSlash (u ++ 47 :: v) = u :: splitSlash v
  | [], v, _ => by
    rw [List.nil_append, splitSlash, if_pos rfl]
  | c :: u, v, h => by
    have ih := split_word_slash u v (fun x hx => h x (List.mem_cons_of_mem _ hx))
    rw [List.cons_append, splitSlash, if_neg (h c List.mem_cons_self), ih]

/-- A text's word at a place: the word, what is behind it. -/
theorem word_at (l : List UInt8) : ∃ u r, l = u ++ r ∧ (∀ c ∈ u, c ≠ 47) ∧ (r = [] ∨ ∃ v, r = 47 :: v) := by
  induction l with
  | nil => exact ⟨[], [], rfl, by simp, .inl rfl⟩
  | cons c l ih =>
    by_cases h : c = 47
    · subst h
      exact ⟨[], 47 :: l, rfl, by simp, .inr ⟨l, rfl⟩⟩
    · obtain ⟨u, r, rfl, hu, hr⟩ := ih
      refine ⟨c :: u, r, rfl, ?_, hr⟩
      intro x hx
      rcases List.mem_cons.1 hx with rfl | hx
      · exact h
      · exact hu x hx

theorem toList_ofL (l : List UInt8) : (ofL l).toList = l := by rw [Lib.toList_data]; rfl
theorem size_ofL (l : List UInt8) : (ofL l).size = l.length := by rw [Lib.size_eq]; rfl

end Go.Proofs.YtckpnmghbjimiaaDoor.Pure

/- Names and their one form (pure). -/
namespace Go.Proofs.YtckpnmghbjimiaaDoor.Pure
open Go.Proofs.YtckpnmghbjimiaaDoor Go.Proofs.YtckpnmghbjimiaaDoor.P Go.RowKit Go.Proofs.YtckpnmghbjimiaaDoorW.PrintWords

theorem check_ev (x : ByteArray) : name_Check.f x = some (checkE x) := by
  unfold name_Check.f checkE strings_ContainsAny.f
  by_cases h1 : x.toList = []
  · rw [if_pos h1, if_pos h1]
  · rw [if_neg h1, if_neg h1]
    by_cases h2 : 56 < x.size
    · rw [if_pos (by omega), if_pos h2]
    · rw [if_neg (by omega), if_neg h2, if_pos ⟨rfl, by omega⟩]
      simp only [Option.bind_some]
      repeat' split
      all_goals first | rfl | (exfalso; simp_all)

theorem checkE_cases (x : ByteArray) : checkE x = 0 ∨ checkE x = 130 := by
  unfold checkE
  repeat' split
  all_goals first | exact .inr rfl | exact .inl rfl
theorem checkE_size {x : ByteArray} (h : checkE x = 0) : x.size ≤ 56 := by
  refine Classical.byContradiction fun hn => ?_
  unfold checkE at h
  by_cases h1 : x.toList = []
  · rw [if_pos h1] at h; cases h
  · rw [if_neg h1, if_pos (by omega)] at h; cases h

theorem app_data (a b : ByteArray) : (a ++ b).data.toList = a.data.toList ++ b.data.toList := by
  rw [ByteArray.data_append, Array.toList_append]

/-- The names, each behind a slash. -/
def fl (l : List ByteArray) : List UInt8 := l.flatMap fun x => 47 :: x.data.toList
def formL (l : List ByteArray) : ByteArray := ofL (47 :: Lib.join (l.map (·.data.toList)) [47])
theorem fl_join : ∀ l : List ByteArray, l ≠ [] → fl l = 47 :: Lib.join (l.map (·.data.toList)) [47]
  | [], h => absurd rfl h
  | [x], _ => by simp [fl, Lib.join]
  | x :: y :: l, _ => by
    have ih := fl_join (y :: l) (by simp)
    rw [show fl (x :: y :: l) = (47 :: x.data.toList) ++ fl (y :: l) from rfl, ih]
    simp [Lib.join]
theorem fl_len : ∀ l : List ByteArray, (fl l).length = lensP l
  | [] => rfl
  | x :: l => by
    have ih := fl_len l
    rw [show fl (x :: l) = (47 :: x.data.toList) ++ fl l from rfl, List.length_append, ih, List.length_cons, ← Lib.size_eq]
    simp [lensP]

theorem form_loop (l : List ByteArray) (hl : l.length ≤ 9223372036854775806) (d : Nat) : ∀ (i : Nat) (acc : ByteArray), i + d = l.length → acc.size + lensP (l.drop i) ≤ 9223372036854775807 →
    Ev (fun k => signetref18_Form.l0 k acc l (l.length : Int) (i : Int)) (acc ++ ofL (fl (l.drop i))) := by
  induction d with
  | zero =>
    intro i acc hi _
    refine Ev.step (f := fun _ => some _) (fun k => ?_) (Ev.now _)
    simp only [signetref18_Form.l0]
    rw [if_neg (by omega), List.drop_of_length_le (by omega : l.length ≤ i)]
    congr 1
    refine ba_ext ?_
    rw [app_data, data_ofL]
    simp [fl]
  | succ d ih =>
    intro i acc hi hb
    have hlt : i < l.length := by omega
    rw [drop_cons l i hlt] at hb ⊢
    have hsz : lensP (l.getD i ByteArray.empty :: l.drop (i + 1)) = (l.getD i ByteArray.empty).size + 1 + lensP (l.drop (i + 1)) := by simp [lensP]
    rw [hsz] at hb
    have hs1 : ((⟨#[47]⟩ : ByteArray) ++ l.getD i ByteArray.empty).size = 1 + (l.getD i ByteArray.empty).size := by rw [ByteArray.size_append]; rfl
    have e : acc ++ ofL (fl (l.getD i ByteArray.empty :: l.drop (i + 1))) = (acc ++ ((⟨#[47]⟩ : ByteArray) ++ l.getD i ByteArray.empty)) ++ ofL (fl (l.drop (i + 1))) := by
      refine ba_ext ?_
      simp only [app_data, data_ofL]
      simp [fl]
    rw [e]
    refine Ev.step (fun k => ?_) (ih (i + 1) _ (by omega) (by rw [ByteArray.size_append, hs1]; omega))
    simp only [signetref18_Form.l0]
    rw [if_pos (by omega), if_pos (by omega), if_pos (by omega), rdOf_nat, if_pos (by omega), if_pos (by rw [hs1]; omega), wrap_succ (by omega) (by omega)]
    rfl

theorem form_ev (l : List ByteArray) (hl : l.length ≤ 9223372036854775806) (hb : lensP l ≤ 9223372036854775807) : Ev (fun k => signetref18_Form.f k l) (formL l) := by
  unfold signetref18_Form.f
  by_cases h : l = []
  · subst h
    exact Ev.congr (fun k => by simp; rfl) (Ev.now (formL []))
  · have hn : 0 < l.length := List.length_pos_iff.2 h
    refine Ev.congr (f := fun k => signetref18_Form.l0 k (⟨#[]⟩ : ByteArray) l (l.length : Int) 0) (fun k => by rw [if_neg (by omega)]) ?_
    have := form_loop l hl l.length 0 (⟨#[]⟩ : ByteArray) (by omega) (by rw [List.drop_zero]; show 0 + lensP l ≤ _; omega)
    rw [List.drop_zero] at this
    have e : (⟨#[]⟩ : ByteArray) ++ ofL (fl l) = formL l := by
      refine ba_ext ?_
      rw [app_data, formL, ← fl_join l h]
      rfl
    rw [e] at this
    exact this

theorem formL_size (l : List ByteArray) (h : l ≠ []) : (formL l).size = lensP l := by
  rw [formL, ← fl_join l h, size_ofL, fl_len]

theorem lensP_small : ∀ (l : List ByteArray), (∀ x ∈ l, checkE x = 0) → lensP l ≤ 57 * l.length
  | [], _ => by simp [lensP]
  | x :: l, h => by
    have ih := lensP_small l (fun y hy => h y (List.mem_cons_of_mem _ hy))
    have := checkE_size (h x List.mem_cons_self)
    simp only [lensP, List.map_cons, List.sum_cons, List.length_cons] at ih ⊢
    omega

/-- What strings.Join answers, behind a slash. -/
theorem join_form (l : List ByteArray) (hl : l.length ≤ 32) (h : ∀ x ∈ l, checkE x = 0) : ∃ t, strings_Join.f l (⟨#[47]⟩ : ByteArray) = some t ∧ (⟨#[47]⟩ : ByteArray) ++ t = formL l ∧ t.size ≤ 2000 := by
  have hb := lensP_small l h
  have hj : (Lib.join (l.map (·.data.toList)) [47]).length ≤ 2000 := by
    by_cases h0 : l = []
    · subst h0; simp [Lib.join]
    · have := congrArg List.length (fl_join l h0)
      rw [fl_len, List.length_cons] at this
      omega
  refine ⟨_, by unfold strings_Join.f; rw [if_pos ⟨by omega, by show (Lib.join (l.map (·.data.toList)) [47]).length ≤ _; omega⟩], ?_, ?_⟩
  · refine ba_ext ?_
    rw [app_data]
    rfl
  · rw [Lib.size_eq]
    exact hj

end Go.Proofs.YtckpnmghbjimiaaDoor.Pure

/- What is true of every answer of the parser (pure). -/
namespace Go.Proofs.YtckpnmghbjimiaaDoor.Pure
open Go.Proofs.YtckpnmghbjimiaaDoor Go.Proofs.YtckpnmghbjimiaaDoor.P Go.RowKit Go.Proofs.YtckpnmghbjimiaaDoorW.PrintWords

theorem stepP_names {st st' : PSt} {x : ByteArray} (h : stepP st x = .ok st') (hn : ∀ y ∈ st.1, checkE y = 0) : ∀ y ∈ st'.1, checkE y = 0 := by
  unfold stepP at h
  by_cases h1 : x.toList = []
  · rw [if_pos h1] at h; cases h; exact hn
  · rw [if_neg h1] at h
    by_cases h2 : x.toList = [46]
    · rw [if_pos h2] at h; cases h; exact hn
    · rw [if_neg h2] at h
      by_cases h3 : x.toList = [46, 46]
      · rw [if_pos h3] at h; cases h; exact fun y hy => hn y (List.dropLast_subset _ hy)
      · rw [if_neg h3] at h
        by_cases h4 : checkE x = 0
        · rw [if_neg (fun g => g h4)] at h
          by_cases h5 : st.1.length = 32
          · rw [if_pos h5] at h; cases h
          · rw [if_neg h5] at h
            cases h
            intro y hy
            rcases List.mem_append.1 hy with hy | hy
            · exact hn y hy
            · rw [List.mem_singleton.1 hy]; exact h4
        · rw [if_pos h4] at h; cases h

theorem runP_names : ∀ (a : List ByteArray) (st st' : PSt), runP st a = .ok st' → (∀ y ∈ st.1, checkE y = 0) → ∀ y ∈ st'.1, checkE y = 0
  | [], st, st', h, hn => by cases h; exact hn
  | x :: a, st, st', h, hn => by
    rw [runP] at h
    cases hs : stepP st x with
    | error e => rw [hs] at h; cases h
    | ok st1 =>
      rw [hs] at h
      exact runP_names a st1 st' h (stepP_names hs hn)

theorem parseA_names (s : ByteArray) : ∀ x ∈ (parseA s).1, checkE x = 0 := by
  unfold parseA
  split
  · simp
  · split
    · unfold parseR
      cases hr : runP ([], true, 1) (parts (s.extract 1 s.size)) with
      | ok st => exact runP_names _ _ _ hr (by simp)
      | error e => simp [finP]
    · simp

theorem parseA_len (s : ByteArray) : (parseA s).1.length ≤ 32 := by
  unfold parseA
  split
  · simp
  · split
    · unfold parseR
      cases hr : runP ([], true, 1) (parts (s.extract 1 s.size)) with
      | ok st => exact runP_len _ _ _ hr (by simp)
      | error e => simp [finP]
    · simp

theorem runP_ecode : ∀ (a : List ByteArray) (st : PSt) (e : Int × Int), runP st a = .error e → e.2 = 130 ∨ e.2 = 182
  | [], st, e, h => by cases h
  | x :: a, st, e, h => by
    rw [runP] at h
    cases hs : stepP st x with
    | ok st1 => rw [hs] at h; exact runP_ecode a st1 e h
    | error e2 =>
      rw [hs] at h
      cases h
      unfold stepP at hs
      by_cases h1 : x.toList = []
      · rw [if_pos h1] at hs; cases hs
      · rw [if_neg h1] at hs
        by_cases h2 : x.toList = [46]
        · rw [if_pos h2] at hs; cases hs
        · rw [if_neg h2] at hs
          by_cases h3 : x.toList = [46, 46]
          · rw [if_pos h3] at hs; cases hs
          · rw [if_neg h3] at hs
            by_cases h4 : checkE x = 0
            · rw [if_neg (fun g => g h4)] at hs
              by_cases h5 : st.1.length = 32
              · rw [if_pos h5] at hs; cases hs; exact .inr rfl
              · rw [if_neg h5] at hs; cases hs
            · rw [if_pos h4] at hs
              cases hs
              exact .inl ((checkE_cases x).resolve_left h4)

/-- An answer is an error, which says nothing more, or there is none. -/
theorem parseA_cases (s : ByteArray) : ((parseA s).2.2.2 = 0 ∧ (parseA s).2.2.1 = 0) ∨ ((parseA s).2.2.2 ≠ 0 ∧ (parseA s).1 = [] ∧ (parseA s).2.1 = false) := by
  unfold parseA
  split
  · exact .inr ⟨by decide, rfl, rfl⟩
  · split
    · unfold parseR
      cases hr : runP ([], true, 1) (parts (s.extract 1 s.size)) with
      | ok st => exact .inl ⟨rfl, rfl⟩
      | error e =>
        refine .inr ⟨?_, rfl, rfl⟩
        rcases runP_ecode _ _ _ hr with h | h <;> (show e.2 ≠ 0; rw [h]; decide)
    · exact .inr ⟨by decide, rfl, rfl⟩

end Go.Proofs.YtckpnmghbjimiaaDoor.Pure

/- Print (pure). -/
namespace Go.Proofs.YtckpnmghbjimiaaDoor.Pure
open Go.Proofs.YtckpnmghbjimiaaDoor Go.Proofs.YtckpnmghbjimiaaDoor.P Go.RowKit Go.Proofs.YtckpnmghbjimiaaDoorW.PrintWords

def badAt : List ByteArray → Int → Option Int
  | [], _ => none
  | x :: xs, i => if checkE x = 0 then badAt xs (i + 1) else some i
def printA (l : List ByteArray) : ByteArray × Int × Int :=
  match badAt l 0 with
  | some i => (⟨#[]⟩, i, 130)
  | none => if 32 < l.length then (⟨#[]⟩, 32, 182) else if 1024 < (formL l).size then (⟨#[]⟩, 0, 181) else (formL l, 0, 0)

theorem badAt_none : ∀ (l : List ByteArray) (i : Int), badAt l i = none → ∀ x ∈ l, checkE x = 0
  | [], _, _ => by simp
  | y :: l, i, h => by
    intro x hx
    rw [badAt] at h
    by_cases hc : checkE y = 0
    · rw [if_pos hc] at h
      rcases List.mem_cons.1 hx with rfl | hx
      · exact hc
      · exact badAt_none l _ h x hx
    · rw [if_neg hc] at h; cases h

theorem print_loop (l : List ByteArray) (hl : l.length ≤ 9223372036854775806) (d : Nat) : ∀ i : Nat, i + d = l.length → badAt l 0 = badAt (l.drop i) i →
    Ev (fun k => path_Print.l0 k l l (l.length : Int) (i : Int)) (printA l) := by
  induction d with
  | zero =>
    intro i hi hb
    rw [List.drop_of_length_le (by omega : l.length ≤ i)] at hb
    have hall := badAt_none l 0 hb
    refine Ev.step (f := fun _ => some _) (fun k => ?_) (Ev.now _)
    simp only [path_Print.l0]
    rw [if_neg (by omega)]
    unfold printA
    rw [hb]
    simp only [badAt]
    by_cases h : 32 < l.length
    · rw [if_pos (by omega), if_pos h]
    · rw [if_neg (by omega), if_neg h]
      obtain ⟨t, ht, hf, hsz⟩ := join_form l (by omega) hall
      rw [ht, Option.bind_some, if_pos (by omega), hf]
      by_cases h2 : 1024 < (formL l).size
      · rw [if_pos (by omega), if_pos h2]
      · rw [if_neg (by omega), if_neg h2]
  | succ d ih =>
    intro i hi hb
    have hlt : i < l.length := by omega
    rw [drop_cons l i hlt, badAt] at hb
    by_cases hc : checkE (l.getD i ByteArray.empty) = 0
    · rw [if_pos hc] at hb
      refine Ev.step (fun k => ?_) (ih (i + 1) (by omega) (by rw [hb]; rfl))
      simp only [path_Print.l0]
      rw [if_pos (by omega), if_pos (by omega), if_pos (by omega), rdOf_nat, check_ev, Option.bind_some, if_pos hc, wrap_succ (by omega) (by omega)]
      rfl
    · rw [if_neg hc] at hb
      refine Ev.step (f := fun _ => some _) (fun k => ?_) (Ev.now _)
      simp only [path_Print.l0]
      rw [if_pos (by omega), if_pos (by omega), if_pos (by omega), rdOf_nat, check_ev, Option.bind_some, if_neg hc]
      unfold printA
      rw [hb, (checkE_cases _).resolve_left hc]

theorem print_ev (l : List ByteArray) (hl : l.length ≤ 9223372036854775806) : Ev (fun k => path_Print.f k l) (printA l) := print_loop l hl l.length 0 (by omega) rfl

end Go.Proofs.YtckpnmghbjimiaaDoor.Pure

/- Clean (pure): the one form of a path. -/
namespace Go.Proofs.YtckpnmghbjimiaaDoor.Pure
open Go.Proofs.YtckpnmghbjimiaaDoor Go.Proofs.YtckpnmghbjimiaaDoor.P Go.RowKit Go.Proofs.YtckpnmghbjimiaaDoorW.PrintWords

theorem lensP_dropLast : ∀ l : List ByteArray, lensP l.dropLast ≤ lensP l
  | [] => Nat.le_refl _
  | [x] => by simp [lensP]
  | x :: y :: l => by
    have ih := lensP_dropLast (y :: l)
    simp only [List.dropLast_cons_cons, lensP, List.map_cons, List.sum_cons] at ih ⊢
    omega

theorem stepP_lens {st st' : PSt} {x : ByteArray} (h : stepP st x = .ok st') : lensP st'.1 ≤ lensP st.1 + (x.size + 1) := by
  unfold stepP at h
  by_cases h1 : x.toList = []
  · rw [if_pos h1] at h; cases h; exact Nat.le_add_right _ _
  · rw [if_neg h1] at h
    by_cases h2 : x.toList = [46]
    · rw [if_pos h2] at h; cases h; exact Nat.le_add_right _ _
    · rw [if_neg h2] at h
      by_cases h3 : x.toList = [46, 46]
      · rw [if_pos h3] at h; cases h; exact Nat.le_trans (lensP_dropLast _) (Nat.le_add_right _ _)
      · rw [if_neg h3] at h
        by_cases h4 : checkE x = 0
        · rw [if_neg (fun g => g h4)] at h
          by_cases h5 : st.1.length = 32
          · rw [if_pos h5] at h; cases h
          · rw [if_neg h5] at h
            cases h
            show lensP (st.1 ++ [x]) ≤ _
            rw [lensP_append]
            simp [lensP]
        · rw [if_pos h4] at h; cases h

theorem runP_lens : ∀ (a : List ByteArray) (st st' : PSt), runP st a = .ok st' → lensP st'.1 ≤ lensP st.1 + lensP a
  | [], st, st', h => by cases h; exact Nat.le_add_right _ _
  | x :: a, st, st', h => by
    rw [runP] at h
    cases hs : stepP st x with
    | error e => rw [hs] at h; cases h
    | ok st1 =>
      rw [hs] at h
      have h1 := runP_lens a st1 st' h
      have h2 := stepP_lens hs
      have h3 : lensP (x :: a) = x.size + 1 + lensP a := by simp [lensP]
      omega

/-- The names of a text are no longer than it. -/
theorem parseA_lens (s : ByteArray) (h0 : (parseA s).2.2.2 = 0) : lensP (parseA s).1 ≤ s.size ∧ s.size ≤ 1024 ∧ 1 ≤ s.size := by
  unfold parseA at h0 ⊢
  by_cases h1 : 1024 < s.size
  · rw [if_pos h1] at h0; cases h0
  · rw [if_neg h1] at h0 ⊢
    by_cases h2 : s.data.toList.head? = some 47
    · rw [if_pos h2] at h0 ⊢
      have hpos : 1 ≤ s.size := by
        rw [Lib.size_eq]
        cases hl : s.data.toList with
        | nil => rw [hl] at h2; cases h2
        | cons c l => simp
      refine ⟨?_, by omega, hpos⟩
      unfold parseR at h0 ⊢
      cases hr : runP ([], true, 1) (parts (s.extract 1 s.size)) with
      | ok st =>
        have := runP_lens _ _ _ hr
        have h3 := lensP_parts (s.extract 1 s.size)
        have h4 : (s.extract 1 s.size).size = s.size - 1 := by rw [Lib.size_eq, Lib.extract_to_end, List.length_drop, ← Lib.size_eq]
        rw [h3, h4] at this
        show lensP st.1 ≤ _
        simp only [lensP, List.map_nil, List.sum_nil] at this ⊢
        omega
      | error e =>
        rw [hr] at h0
        rcases runP_ecode _ _ _ hr with h | h <;> (exfalso; change e.2 = 0 at h0; rw [h] at h0; cases h0)
    · rw [if_neg h2] at h0; cases h0

theorem formL_le (l : List ByteArray) (h : lensP l ≤ 1024) : (formL l).size ≤ 1024 ∧ ∀ n, lensP l ≤ n → 1 ≤ n → (formL l).size ≤ n := by
  by_cases h0 : l = []
  · subst h0
    have : (formL []).size = 1 := rfl
    exact ⟨by omega, fun n _ _ => by omega⟩
  · rw [formL_size l h0]
    exact ⟨h, fun n hn _ => hn⟩

theorem badAt_all : ∀ (l : List ByteArray) (i : Int), (∀ x ∈ l, checkE x = 0) → badAt l i = none
  | [], _, _ => rfl
  | x :: l, i, h => by
    rw [badAt, if_pos (h x List.mem_cons_self)]
    exact badAt_all l _ (fun y hy => h y (List.mem_cons_of_mem _ hy))

theorem printA_names (s : ByteArray) (h0 : (parseA s).2.2.2 = 0) : printA (parseA s).1 = (formL (parseA s).1, 0, 0) := by
  unfold printA
  rw [badAt_all _ _ (parseA_names s)]
  have h1 := parseA_len s
  have h2 := parseA_lens s h0
  have h3 := (formL_le (parseA s).1 (by omega)).1
  simp only
  rw [if_neg (by omega), if_neg (by omega)]

def cleanA (s : ByteArray) : ByteArray × Int := if (parseA s).2.2.2 = 0 then (formL (parseA s).1, 0) else (⟨#[]⟩, (parseA s).2.2.2)
theorem clean_ev (s : ByteArray) : Ev (fun k => path_Clean.f k s) (cleanA s) := by
  unfold path_Clean.f path_Parse.f cleanA
  simp only [Option.bind_some]
  by_cases h : (parseA s).2.2.2 = 0
  · simp only [if_pos h]
    refine Ev.bind (print_ev _ (by have := parseA_len s; omega)) ?_
    simp only [printA_names s h]
    exact Ev.now _
  · simp only [if_neg h]
    exact Ev.now _

end Go.Proofs.YtckpnmghbjimiaaDoor.Pure

/- A text that begins with a slash (pure). -/
namespace Go.Proofs.YtckpnmghbjimiaaDoor.Pure
open Go.Proofs.YtckpnmghbjimiaaDoor Go.Proofs.YtckpnmghbjimiaaDoor.P Go.RowKit Go.Proofs.YtckpnmghbjimiaaDoorW.PrintWords

theorem prefix_f (b : ByteArray) : strings_HasPrefix.f b (⟨#[47]⟩ : ByteArray) = some (decide (b.data.toList.head? = some 47)) := by
  unfold strings_HasPrefix.f stringslite_HasPrefix.f
  have e1 : (⟨#[47]⟩ : ByteArray).size = 1 := rfl
  have hz := Lib.size_eq b
  rw [e1]
  by_cases h : b.size = 0
  · have hb : b.data.toList = [] := List.length_eq_zero_iff.1 (by omega)
    rw [if_neg (by omega), Option.bind_some, hb]
    rfl
  · rw [if_pos (by omega), if_pos (by omega), if_pos (by omega)]
    simp only [Option.bind_some]
    congr 1
    rw [Lib.toList_data, Lib.toList_data]
    have : (b.extract 0 ((1 : Nat) : Int).toNat).data.toList = b.data.toList.take 1 := by rw [Lib.extract_data]; rfl
    rw [this]
    cases hl : b.data.toList with
    | nil => rw [hl] at hz; exact absurd hz h
    | cons c l =>
      rw [Bool.eq_iff_iff]
      simp

end Go.Proofs.YtckpnmghbjimiaaDoor.Pure

/- Join, Relative and Common (pure). -/
namespace Go.Proofs.YtckpnmghbjimiaaDoor.Pure
open Go.Proofs.YtckpnmghbjimiaaDoor Go.Proofs.YtckpnmghbjimiaaDoor.P Go.RowKit Go.Proofs.YtckpnmghbjimiaaDoorW.PrintWords

/-- How many names two lists begin with together. -/
def comN : List ByteArray → List ByteArray → Nat
  | a :: x, b :: y => if a = b then comN x y + 1 else 0
  | _, _ => 0
theorem comN_le : ∀ x y : List ByteArray, comN x y ≤ x.length ∧ comN x y ≤ y.length
  | [], _ => by simp [comN]
  | _ :: _, [] => by simp [comN]
  | a :: x, b :: y => by
    have ih := comN_le x y
    rw [comN]
    split
    · simp only [List.length_cons]; omega
    · simp
theorem comN_nil (x : List ByteArray) : comN x [] = 0 := by cases x <;> rfl

def bothA (s t : ByteArray) : List ByteArray × List ByteArray × Int × Int :=
  if (parseA s).2.2.2 = 0 then if (parseA t).2.2.2 = 0 then ((parseA s).1, (parseA t).1, (comN (parseA s).1 (parseA t).1 : Int), 0) else ([], [], 0, (parseA t).2.2.2) else ([], [], 0, (parseA s).2.2.2)

theorem both_loop (x y : List ByteArray) (a b : Bool) (hx : x.length ≤ 9223372036854775807) (d : Nat) : ∀ i : Nat, i + d = x.length → comN x y = i + comN (x.drop i) (y.drop i) →
    Ev (fun k => path_both.l0 k (i : Int) x a y b) (x, y, (comN x y : Int), 0) := by
  induction d with
  | zero =>
    intro i hi hc
    rw [List.drop_of_length_le (by omega : x.length ≤ i), show comN [] (y.drop i) = 0 from rfl] at hc
    refine Ev.step (f := fun _ => some _) (fun k => ?_) (Ev.now _)
    simp only [path_both.l0]
    rw [if_neg (by omega), hc]
    rfl
  | succ d ih =>
    intro i hi hc
    have hix : i < x.length := by omega
    by_cases hy : i < y.length
    · rw [drop_cons x i hix, drop_cons y i hy, comN] at hc
      by_cases he : x.getD i ByteArray.empty = y.getD i ByteArray.empty
      · rw [if_pos he] at hc
        refine Ev.step (fun k => ?_) (ih (i + 1) (by omega) (by omega))
        simp only [path_both.l0]
        rw [if_pos (by omega), if_pos (by omega), if_pos (by omega), rdOf_nat, rdOf_nat, if_pos (by rw [he]), wrap_succ (by omega) (by omega)]
        rfl
      · rw [if_neg he] at hc
        refine Ev.step (f := fun _ => some _) (fun k => ?_) (Ev.now _)
        simp only [path_both.l0]
        rw [if_pos (by omega), if_pos (by omega), if_pos (by omega), rdOf_nat, rdOf_nat, if_neg (fun g => he (toList_inj g)), hc]
        rfl
    · rw [List.drop_of_length_le (by omega : y.length ≤ i), comN_nil] at hc
      refine Ev.step (f := fun _ => some _) (fun k => ?_) (Ev.now _)
      simp only [path_both.l0]
      rw [if_pos (by omega), if_neg (by omega), hc]
      rfl

theorem both_ev (s t : ByteArray) : Ev (fun k => path_both.f k s t) (bothA s t) := by
  have h1 := parseA_len s
  unfold path_both.f path_Parse.f bothA
  simp only [Option.bind_some]
  by_cases hs : (parseA s).2.2.2 = 0
  · by_cases ht : (parseA t).2.2.2 = 0
    · simp only [if_pos hs, if_pos ht]
      exact both_loop _ _ _ _ (by omega) (parseA s).1.length 0 (Nat.zero_add _) (by simp)
    · simp only [if_pos hs, if_neg ht]
      exact Ev.now _
  · simp only [if_neg hs]
    exact Ev.now _

/-- The parts of the way. -/
abbrev dots : ByteArray := ⟨#[46, 46]⟩
def wayP (x y : List ByteArray) : List ByteArray := List.replicate (x.length - comN x y) dots ++ y.drop (comN x y)
def joinB (l : List ByteArray) : ByteArray := ofL (Lib.join (l.map (·.data.toList)) [47])
def wayB (x y : List ByteArray) : ByteArray := if wayP x y = [] then ⟨#[46]⟩ else joinB (wayP x y)
def relA (s t : ByteArray) : ByteArray × Int := if (parseA s).2.2.2 = 0 then if (parseA t).2.2.2 = 0 then (wayB (parseA s).1 (parseA t).1, 0) else (⟨#[]⟩, (parseA t).2.2.2) else (⟨#[]⟩, (parseA s).2.2.2)

theorem lensP_rep (n : Nat) : lensP (List.replicate n dots) = 3 * n := by
  induction n with
  | zero => rfl
  | succ n ih =>
    rw [List.replicate_succ]
    have : lensP (dots :: List.replicate n dots) = 3 + lensP (List.replicate n dots) := by simp [lensP, show dots.size = 2 from rfl]
    omega

theorem wayP_small (s t : ByteArray) : lensP (wayP (parseA s).1 (parseA t).1) ≤ 2000 ∧ (wayP (parseA s).1 (parseA t).1).length ≤ 64 := by
  have h1 := parseA_len s
  have h2 := parseA_len t
  have h3 := parseA_names t
  unfold wayP
  rw [lensP_append, lensP_rep]
  have h4 := lensP_small ((parseA t).1.drop (comN (parseA s).1 (parseA t).1)) (fun x hx => h3 x (List.mem_of_mem_drop hx))
  rw [List.length_drop] at h4
  refine ⟨by omega, ?_⟩
  rw [List.length_append, List.length_replicate, List.length_drop]
  omega

theorem join_len (l : List ByteArray) : (Lib.join (l.map (·.data.toList)) [47]).length ≤ lensP l := by
  by_cases h : l = []
  · subst h; simp [Lib.join]
  · have := congrArg List.length (fl_join l h)
    rw [fl_len, List.length_cons] at this
    omega

theorem relative_ev (s t : ByteArray) : Ev (fun k => path_Relative.f k s t) (relA s t) := by
  have h1 := parseA_len s
  have h2 := parseA_len t
  have hw := wayP_small s t
  unfold path_Relative.f
  refine Ev.bind (both_ev s t) ?_
  refine Ev.congr (fun k => ?_) (Ev.now _)
  unfold bothA relA
  by_cases hs : (parseA s).2.2.2 = 0
  · by_cases ht : (parseA t).2.2.2 = 0
    · simp only [if_pos hs, if_pos ht, if_true]
      generalize (parseA s).1 = x at *
      generalize (parseA t).1 = y at *
      have hc := comN_le x y
      have hwr : wrap64 ((x.length : Int) - (comN x y : Int)) = ((x.length - comN x y : Nat) : Int) := by unfold wrap64; omega
      have hrep : slices_Repeat_string_string.f [dots] ((x.length - comN x y : Nat) : Int) = some (List.replicate (x.length - comN x y) dots) := by
        unfold slices_Repeat_string_string.f
        simp only
        rw [if_pos (by omega)]
        rfl
      rw [hwr, hrep, Option.bind_some, if_pos (by omega), if_pos (by omega), Option.bind_some]
      have hd : y.drop ((comN x y : Nat) : Int).toNat = y.drop (comN x y) := rfl
      rw [hd, if_pos (by have := hw.2; unfold wayP at this; rw [List.length_append] at this; omega), Option.bind_some]
      show (if (((wayP x y).length : Int)) = 0 then some ((⟨#[46]⟩ : ByteArray), (0 : Int)) else (strings_Join.f (wayP x y) (⟨#[47]⟩ : ByteArray)).bind fun t202 => some (t202, 0)) = _
      unfold wayB
      by_cases h0 : wayP x y = []
      · rw [if_pos (by rw [h0]; rfl), if_pos h0]
      · have hn : 0 < (wayP x y).length := List.length_pos_iff.2 h0
        have hj := join_len (wayP x y)
        rw [if_neg (by omega), if_neg h0]
        unfold strings_Join.f
        rw [if_pos ⟨by omega, by show (Lib.join ((wayP x y).map (·.data.toList)) [47]).length ≤ _; omega⟩]
        rfl
    · simp only [if_pos hs, if_neg ht]
  · simp only [if_neg hs]

/-- Common. -/
def comA (s t : ByteArray) : ByteArray × Int := if (parseA s).2.2.2 = 0 then if (parseA t).2.2.2 = 0 then (formL ((parseA s).1.take (comN (parseA s).1 (parseA t).1)), 0) else (⟨#[]⟩, (parseA t).2.2.2) else (⟨#[]⟩, (parseA s).2.2.2)

theorem lensP_take (l : List ByteArray) (n : Nat) : lensP (l.take n) ≤ lensP l := prefix_lens (List.take_prefix n l)

theorem printA_take (s : ByteArray) (n : Nat) (h0 : (parseA s).2.2.2 = 0) : printA ((parseA s).1.take n) = (formL ((parseA s).1.take n), 0, 0) := by
  have h1 := parseA_len s
  have h2 := parseA_lens s h0
  have h3 := lensP_take (parseA s).1 n
  have h4 := (formL_le ((parseA s).1.take n) (by omega)).1
  unfold printA
  rw [badAt_all _ _ (fun x hx => parseA_names s x (List.mem_of_mem_take hx))]
  simp only
  rw [if_neg (by rw [List.length_take]; omega), if_neg (by omega)]

theorem common_ev (s t : ByteArray) : Ev (fun k => path_Common.f k s t) (comA s t) := by
  have h1 := parseA_len s
  unfold path_Common.f
  refine Ev.bind (both_ev s t) ?_
  unfold bothA comA
  by_cases hs : (parseA s).2.2.2 = 0
  · by_cases ht : (parseA t).2.2.2 = 0
    · have hc := comN_le (parseA s).1 (parseA t).1
      simp only [if_pos hs, if_pos ht, if_true]
      refine Ev.congr (f := fun k => (path_Print.f k ((parseA s).1.take (comN (parseA s).1 (parseA t).1))).bind fun bt447 => (some (bt447.1, bt447.2.2))) (fun k => ?_) ?_
      · rw [if_pos (by omega), if_pos (by omega)]
        rfl
      · refine Ev.bind (print_ev _ (by rw [List.length_take]; omega)) ?_
        rw [printA_take s _ hs]
        exact Ev.now _
    · simp only [if_pos hs, if_neg ht]
      exact Ev.now _
  · simp only [if_neg hs]
    exact Ev.now _

/-- Join. -/
def joinT (a b : ByteArray) : ByteArray := if b.data.toList.head? = some 47 then b else a ++ (⟨#[47]⟩ : ByteArray) ++ b
theorem join_ev (a b : ByteArray) (ha : a.size ≤ 140737488351232) (hb : b.size ≤ 140737488351232) : Ev (fun k => path_Join.f k a b) (cleanA (joinT a b)) := by
  unfold path_Join.f joinT
  simp only [prefix_f, Option.bind_some, decide_eq_true_eq]
  by_cases h : b.data.toList.head? = some 47
  · simp only [if_pos h]
    exact Ev.bind (f := fun _ bt => some (bt.1, bt.2)) (clean_ev b) (Ev.now _)
  · simp only [if_neg h]
    refine Ev.congr (f := fun k => (path_Clean.f k ((a ++ (⟨#[47]⟩ : ByteArray)) ++ b)).bind fun bt367 => (some (bt367.1, bt367.2))) (fun k => ?_) (Ev.bind (f := fun _ bt => some (bt.1, bt.2)) (clean_ev _) (Ev.now _))
    rw [if_pos (by omega), if_pos (by rw [ByteArray.size_append, show (⟨#[47]⟩ : ByteArray).size = 1 from rfl]; omega)]

end Go.Proofs.YtckpnmghbjimiaaDoor.Pure

/- The one form of a path is read back (pure); Same and Within. -/
namespace Go.Proofs.YtckpnmghbjimiaaDoor.Pure
open Go.Proofs.YtckpnmghbjimiaaDoor Go.Proofs.YtckpnmghbjimiaaDoor.P Go.RowKit Go.Proofs.YtckpnmghbjimiaaDoorW.PrintWords

theorem indexAny_mem (chars : List UInt8) : ∀ (l : List UInt8) (b : UInt8), b ∈ l → chars.contains b = true → 0 ≤ Lib.indexAny l chars
  | [], b, h, _ => by simp at h
  | c :: l, b, h, hc => by
    rw [Lib.indexAny]
    split
    · exact Int.le_refl _
    · next hn =>
      rcases List.mem_cons.1 h with rfl | h
      · exact absurd hc hn
      · have ih := indexAny_mem chars l b h hc
        split
        · next e => rw [beq_iff_eq.1 e] at ih; omega
        · omega

theorem no47 {x : ByteArray} (h : checkE x = 0) : ∀ c ∈ x.data.toList, c ≠ 47 := by
  intro c hc e
  subst e
  have hb : hasBad x = true := decide_eq_true (indexAny_mem _ _ _ hc rfl)
  have := nameB_bad hb
  unfold nameB at this
  rw [h] at this
  cases this

theorem join_cons (x y : ByteArray) (l : List ByteArray) : Lib.join ((x :: y :: l).map (·.data.toList)) [47] = x.data.toList ++ 47 :: Lib.join ((y :: l).map (·.data.toList)) [47] := by
  simp [Lib.join, List.intercalate]

theorem split_join : ∀ l : List ByteArray, l ≠ [] → (∀ x ∈ l, checkE x = 0) → splitSlash (Lib.join (l.map (·.data.toList)) [47]) = l.map (·.data.toList)
  | [], h, _ => absurd rfl h
  | [x], _, h => by
    rw [show Lib.join ([x].map (·.data.toList)) [47] = x.data.toList from by simp [Lib.join, List.intercalate]]
    rw [split_word _ (no47 (h x List.mem_cons_self))]
    rfl
  | x :: y :: l, _, h => by
    have ih := split_join (y :: l) (by simp) (fun z hz => h z (List.mem_cons_of_mem _ hz))
    rw [join_cons, split_word_slash _ _ (no47 (h x List.mem_cons_self)), ih]
    rfl

theorem runP_form : ∀ (l N : List ByteArray) (D : Bool) (i : Int), (∀ x ∈ l, checkE x = 0) → N.length + l.length ≤ 32 → ∃ j, runP (N, D, i) l = .ok (N ++ l, if l = [] then D else false, j)
  | [], N, D, i, _, _ => ⟨i, by simp [runP]⟩
  | x :: l, N, D, i, h, hl => by
    have hx := h x List.mem_cons_self
    simp only [List.length_cons] at hl
    have hs : stepP (N, D, i) x = .ok (N ++ [x], false, i + (x.size + 1)) := by
      have h0 := hx
      unfold checkE at h0
      unfold stepP
      by_cases h1 : x.toList = []
      · rw [if_pos h1] at h0; cases h0
      · rw [if_neg h1] at h0 ⊢
        by_cases h2 : 56 < x.size
        · rw [if_pos h2] at h0; cases h0
        · rw [if_neg h2] at h0
          by_cases h3 : hasBad x = true
          · rw [if_pos h3] at h0; cases h0
          · rw [if_neg h3] at h0
            by_cases h4 : x.toList = [46]
            · rw [if_pos h4] at h0; cases h0
            · rw [if_neg h4] at h0 ⊢
              by_cases h5 : x.toList = [46, 46]
              · rw [if_pos h5] at h0; cases h0
              · rw [if_neg h5, if_neg (fun g => g hx), if_neg (by show ¬ N.length = 32; omega)]
    obtain ⟨j, hj⟩ := runP_form l (N ++ [x]) false (i + (x.size + 1)) (fun y hy => h y (List.mem_cons_of_mem _ hy)) (by simp; omega)
    refine ⟨j, ?_⟩
    rw [runP, hs]
    simp only
    rw [hj]
    simp

theorem parse_form (l : List ByteArray) (h : ∀ x ∈ l, checkE x = 0) (hl : l.length ≤ 32) (hs : (formL l).size ≤ 1024) : parseA (formL l) = (l, decide (l = []), 0, 0) := by
  unfold parseA
  rw [if_neg (by omega), if_pos (by rw [formL, data_ofL]; rfl)]
  unfold parseR parts
  rw [Lib.extract_to_end, formL, data_ofL]
  simp only [List.drop_succ_cons, List.drop_zero]
  by_cases h0 : l = []
  · subst h0
    have e : (splitSlash (Lib.join (([] : List ByteArray).map (·.data.toList)) [47])).map ofL = [ofL []] := rfl
    rw [e, runP]
    have : stepP ([], true, 1) (ofL []) = .ok ([], true, 1 + ((ofL []).size + 1)) := by
      unfold stepP
      rw [if_pos (toList_ofL [])]
    rw [this]
    rfl
  · rw [split_join l h0 h]
    have e : (l.map (·.data.toList)).map ofL = l := by
      rw [List.map_map]
      conv => rhs; rw [← List.map_id l]
      exact List.map_congr_left (fun x _ => ofL_data x)
    obtain ⟨j, hj⟩ := runP_form l [] true 1 h (by simpa using hl)
    rw [e, hj]
    simp [finP, h0]

theorem equal_loop (x y : List ByteArray) (hx : x.length ≤ 9223372036854775807) (hl : x.length = y.length) (d : Nat) : ∀ i : Nat, i + d = x.length →
    Ev (fun k => slices_Equal_string_string.l0 k x y (x.length : Int) (i : Int)) (decide (x.drop i = y.drop i)) := by
  induction d with
  | zero =>
    intro i hi
    refine Ev.step (f := fun _ => some _) (fun k => ?_) (Ev.now _)
    simp only [slices_Equal_string_string.l0]
    rw [if_neg (by omega), List.drop_of_length_le (by omega : x.length ≤ i), List.drop_of_length_le (by omega : y.length ≤ i)]
    rfl
  | succ d ih =>
    intro i hi
    have h1 : (i : Int) < (x.length : Int) := by omega
    have h0 : (0 : Int) ≤ (i : Int) := by omega
    have h2 : (i : Int) < (y.length : Int) := by omega
    rw [drop_cons x i (by omega), drop_cons y i (by omega)]
    by_cases he : (x.getD i ByteArray.empty).toList = (y.getD i ByteArray.empty).toList
    · have e : decide (x.getD i ByteArray.empty :: x.drop (i + 1) = y.getD i ByteArray.empty :: y.drop (i + 1)) = decide (x.drop (i + 1) = y.drop (i + 1)) := by rw [toList_inj he]; simp
      rw [e]
      refine Ev.step (fun k => ?_) (ih (i + 1) (by omega))
      simp only [slices_Equal_string_string.l0]
      rw [if_pos h1, if_pos h0, if_pos h1, if_pos h2, rdOf_nat, rdOf_nat, if_pos he, wrap_succ h0 (by omega)]
      rfl
    · have e : decide (x.getD i ByteArray.empty :: x.drop (i + 1) = y.getD i ByteArray.empty :: y.drop (i + 1)) = false := decide_eq_false (fun g => he (by rw [(List.cons.inj g).1]))
      rw [e]
      refine Ev.step (f := fun _ => some _) (fun k => ?_) (Ev.now _)
      simp only [slices_Equal_string_string.l0]
      rw [if_pos h1, if_pos h0, if_pos h1, if_pos h2, rdOf_nat, rdOf_nat, if_neg he]

theorem equal_ev (x y : List ByteArray) (hx : x.length ≤ 9223372036854775807) : Ev (fun k => slices_Equal_string_string.f k x y) (decide (x = y)) := by
  by_cases hl : x.length = y.length
  · have := equal_loop x y hx hl x.length 0 (by omega)
    simp only [List.drop_zero] at this
    refine Ev.congr (fun k => ?_) this
    simp only [slices_Equal_string_string.f]
    rw [if_pos (by omega)]
    rfl
  · have e : decide (x = y) = false := decide_eq_false (fun h => hl (by rw [h]))
    rw [e]
    refine Ev.congr (f := fun _ => some false) (fun k => ?_) (Ev.now _)
    simp only [slices_Equal_string_string.f]
    rw [if_neg (by omega)]

/-- Same: two texts that are paths of the same names. -/
def sameA (s t : ByteArray) : Bool := decide ((parseA s).2.2.2 = 0) && decide ((parseA t).2.2.2 = 0) && decide ((parseA s).1 = (parseA t).1)
theorem psame_ev (s t : ByteArray) : Ev (fun k => path_Same.f k s t) (sameA s t) := by
  unfold path_Same.f path_Parse.f sameA
  simp only [Option.bind_some]
  have h1 := parseA_len s
  by_cases h : (parseA s).2.2.2 = 0
  · by_cases h2 : (parseA t).2.2.2 = 0
    · simp only [if_pos h, if_pos h2]
      simp only [h, h2, decide_true, Bool.true_and]
      exact Ev.bind (f := fun _ t => some t) (equal_ev _ _ (by omega)) (Ev.now _)
    · simp only [if_pos h, if_neg h2]
      simp only [h2, decide_false, Bool.and_false, Bool.false_and]
      exact Ev.now _
  · simp only [if_neg h]
    simp only [h, decide_false, Bool.false_and]
    exact Ev.now _

/-- Within: the names begin with others. -/
theorem within_ev (x y : List ByteArray) (a b : Bool) (hx : x.length ≤ 9223372036854775807) : Ev (fun k => path_Within.f k x a y b) (decide (y.length ≤ x.length) && decide (x.take y.length = y)) := by
  unfold path_Within.f
  by_cases h : y.length ≤ x.length
  · simp only [if_pos h]
    simp only [h, decide_true, Bool.true_and]
    exact equal_ev _ _ (by rw [List.length_take]; omega)
  · simp only [if_neg h]
    simp only [h, decide_false, Bool.false_and]
    exact Ev.now _

end Go.Proofs.YtckpnmghbjimiaaDoor.Pure

/- strings.FieldsFunc at the slash: the parts that are not empty (pure). -/
namespace Go.Proofs.YtckpnmghbjimiaaDoor.Pure
open Go.Proofs.YtckpnmghbjimiaaDoor Go.Proofs.YtckpnmghbjimiaaDoor.P Go.RowKit Go.Proofs.YtckpnmghbjimiaaDoorW.PrintWords

def fieldsL (l : List UInt8) : List (List UInt8) := (splitSlash l).filter (· ≠ [])
theorem fieldsL_word {w : List UInt8} (h : ∀ c ∈ w, c ≠ 47) : fieldsL w = if w = [] then [] else [w] := by
  unfold fieldsL
  rw [split_word w h]
  by_cases h0 : w = [] <;> simp [h0]
theorem fieldsL_slash {w v : List UInt8} (h : ∀ c ∈ w, c ≠ 47) : fieldsL (w ++ 47 :: v) = (if w = [] then [] else [w]) ++ fieldsL v := by
  unfold fieldsL
  rw [split_word_slash w v h]
  by_cases h0 : w = [] <;> simp [h0]

def piece (s : ByteArray) (x : Nat × Nat) : ByteArray := s.extract x.1 x.2

theorem spans_none (s : ByteArray) (f pos : Nat) (acc : List (Nat × Nat)) (h : pos < s.size) : Lib.spansFromP isSlash s (f + 1) pos none acc = if isSlash (Utf8.decode s pos).1 = true then Lib.spansFromP isSlash s f (pos + (Utf8.decode s pos).2) none acc else Lib.spansFromP isSlash s f (pos + (Utf8.decode s pos).2) (some pos) acc := by
  show (if pos < s.size then _ else _) = _
  rw [if_pos h]
theorem spans_some (s : ByteArray) (f pos a : Nat) (acc : List (Nat × Nat)) (h : pos < s.size) : Lib.spansFromP isSlash s (f + 1) pos (some a) acc = if isSlash (Utf8.decode s pos).1 = true then Lib.spansFromP isSlash s f (pos + (Utf8.decode s pos).2) none (acc ++ [(a, pos)]) else Lib.spansFromP isSlash s f (pos + (Utf8.decode s pos).2) (some a) acc := by
  show (if pos < s.size then _ else _) = _
  rw [if_pos h]

theorem no_slash (s : ByteArray) (a b : Nat) (h : ∀ j, a ≤ j → j < b → s.data.toList[j]? ≠ some 47) : ∀ c ∈ (s.data.toList.drop a).take (b - a), c ≠ 47 := by
  intro c hc e
  subst e
  obtain ⟨j, hj, hj2⟩ := List.mem_take_iff_getElem.1 hc
  rw [List.getElem_drop] at hj2
  exact h (a + j) (by omega) (by omega) (by rw [List.getElem?_eq_getElem (by rw [List.length_drop] at hj; omega), hj2])

theorem spans_slash (s : ByteArray) : ∀ (f pos a : Nat) (st : Option Nat) (acc : List (Nat × Nat)), ((st = none ∧ a = pos) ∨ (st = some a ∧ a < pos)) → (∀ j, a ≤ j → j < pos → s.data.toList[j]? ≠ some 47) → pos ≤ s.size → s.size - pos ≤ f →
    (Lib.closeSpans s (Lib.spansFromP isSlash s f pos st acc)).map (piece s) = acc.map (piece s) ++ (fieldsL (s.data.toList.drop a)).map ofL := by
  have hz := Lib.size_eq s
  -- the end
  have hend : ∀ (a : Nat) (st : Option Nat) (acc : List (Nat × Nat)), ((st = none ∧ a = s.size) ∨ (st = some a ∧ a < s.size)) → (∀ j, a ≤ j → j < s.size → s.data.toList[j]? ≠ some 47) →
      (Lib.closeSpans s (acc, st)).map (piece s) = acc.map (piece s) ++ (fieldsL (s.data.toList.drop a)).map ofL := by
    intro a st acc hst hno
    rcases hst with ⟨rfl, rfl⟩ | ⟨rfl, hlt⟩
    · rw [List.drop_of_length_le (by omega)]
      simp [Lib.closeSpans, fieldsL, splitSlash]
    · have hw := no_slash s a s.size hno
      rw [List.take_of_length_le (by rw [List.length_drop]; omega)] at hw
      have h0 : s.data.toList.drop a ≠ [] := fun e => by have := congrArg List.length e; rw [List.length_drop] at this; simp at this; omega
      rw [fieldsL_word hw, if_neg h0]
      simp only [Lib.closeSpans, List.map_append, List.map_cons, List.map_nil]
      congr 2
      refine ba_ext ?_
      rw [piece, Lib.extract_to_end, data_ofL]
  intro f
  induction f with
  | zero =>
    intro pos a st acc hst hno hps hf
    obtain rfl : pos = s.size := by omega
    exact hend a st acc hst hno
  | succ f ih =>
    intro pos a st acc hst hno hps hf
    by_cases hlt : pos < s.size
    · obtain ⟨x, hx⟩ := get_some s pos hlt
      have hxg : s[pos]'hlt = x := by
        have h2 : s.data[pos]? = some x := by rw [← Array.getElem?_toList]; exact hx
        exact (Array.getElem?_eq_some_iff.1 h2).2
      have hap : a ≤ pos := by rcases hst with h | h <;> omega
      by_cases h47 : x = 47
      · subst h47
        have hd : Utf8.decode s pos = (47, 1) := by rw [decode_ascii s pos hlt (by rw [hxg]; decide), hxg]; rfl
        have hw := no_slash s a pos hno
        have hsplit : s.data.toList.drop a = (s.data.toList.drop a).take (pos - a) ++ 47 :: s.data.toList.drop (pos + 1) := by
          conv => lhs; rw [← List.take_append_drop (pos - a) (s.data.toList.drop a)]
          rw [List.drop_drop, show a + (pos - a) = pos from by omega, Lib.drop_at hx]
        have hnext := fun acc' => ih (pos + 1) (pos + 1) none acc' (.inl ⟨rfl, rfl⟩) (fun j h1 h2 => by omega) (by omega) (by omega)
        rw [hsplit, fieldsL_slash hw]
        rcases hst with ⟨rfl, rfl⟩ | ⟨rfl, hlt2⟩
        · rw [spans_none s f _ acc hlt, hd, if_pos (show isSlash ((47, 1) : Nat × Nat).1 = true from rfl)]
          show List.map (piece s) (Lib.closeSpans s (Lib.spansFromP isSlash s f (a + 1) none acc)) = _
          rw [hnext]
          simp
        · have h0 : (s.data.toList.drop a).take (pos - a) ≠ [] := fun e => by have := congrArg List.length e; rw [List.length_take, List.length_drop] at this; simp at this; omega
          rw [spans_some s f pos a acc hlt, hd, if_pos (show isSlash ((47, 1) : Nat × Nat).1 = true from rfl)]
          show List.map (piece s) (Lib.closeSpans s (Lib.spansFromP isSlash s f (pos + 1) none (acc ++ [(a, pos)]))) = _
          rw [hnext, if_neg h0]
          have hpc : piece s (a, pos) = ofL ((s.data.toList.drop a).take (pos - a)) := by
            refine ba_ext ?_
            rw [piece, Lib.extract_data, data_ofL]
          simp [hpc]
      · have hdec : (Utf8.decode s pos).1 ≠ 47 ∧ (∀ j, pos ≤ j → j < pos + (Utf8.decode s pos).2 → s.data.toList[j]? ≠ some 47) := by
          by_cases hasc : x.toNat < 128
          · have hd : Utf8.decode s pos = (x.toNat, 1) := by rw [decode_ascii s pos hlt (by rw [hxg]; exact hasc), hxg]
            rw [hd]
            refine ⟨fun e => h47 (UInt8.toNat_inj.1 (by rw [show x.toNat = 47 from e]; rfl)), fun j h1 h2 => ?_⟩
            obtain rfl : j = pos := by simp only at h2; omega
            rw [hx]
            exact fun e => h47 (Option.some.inj e)
          · have hh := dec_at_high s pos (by rw [get_at s pos x hx]; omega)
            refine ⟨by omega, fun j h1 h2 e => ?_⟩
            have := hh.2 j 47 h1 h2 e
            exact absurd this (by decide)
        have hwd := Lib.width_pos s pos
        have hwn : pos + (Utf8.decode s pos).2 ≤ s.size := by
          have := Lib.decodeN_le_n' (s.size - pos) (s.get! pos).toNat (s.get! (pos + 1)).toNat (s.get! (pos + 2)).toNat (s.get! (pos + 3)).toNat (by omega)
          rw [← Lib.decode_at] at this
          omega
        have hns : isSlash (Utf8.decode s pos).1 = false := decide_eq_false hdec.1
        have hno2 : ∀ j, a ≤ j → j < pos + (Utf8.decode s pos).2 → s.data.toList[j]? ≠ some 47 := by
          intro j h1 h2
          by_cases hj : j < pos
          · exact hno j h1 hj
          · exact hdec.2 j (by omega) h2
        have hnext := ih (pos + (Utf8.decode s pos).2) a (some a) acc (.inr ⟨rfl, by omega⟩) hno2 hwn (by omega)
        rw [← hnext]
        rcases hst with ⟨rfl, rfl⟩ | ⟨rfl, hlt2⟩
        · rw [spans_none s f _ acc hlt, hns, if_neg (by simp)]
        · rw [spans_some s f pos a acc hlt, hns, if_neg (by simp)]
    · obtain rfl : pos = s.size := by omega
      rw [Lib.spansFromP_end _ _ _ _ _ _ hlt]
      exact hend a st acc hst hno

theorem goFields_slash (s : ByteArray) : Lib.goFieldsP isSlash s = (fieldsL s.data.toList).map ofL := by
  have := spans_slash s s.size 0 0 none [] (.inl ⟨rfl, rfl⟩) (fun j h1 h2 => by omega) (Nat.zero_le _) (by omega)
  simp only [List.map_nil, List.nil_append, List.drop_zero] at this
  exact this

end Go.Proofs.YtckpnmghbjimiaaDoor.Pure

/- Patterns of '?' and '*' (pure): what it is to match; parts that are joined; the last sign. -/

namespace Go.Proofs.YtckpnmghbjimiaaDoor.Pure

/-- What one sign of a pattern may stand for. -/
def One (c : UInt8) (s : List UInt8) : Prop := c = 42 ∨ ∃ d, s = [d] ∧ (c = 63 ∨ c = d)
/-- A text is what a pattern says. -/
def Mat : List UInt8 → List UInt8 → Prop
  | [], s => s = []
  | c :: p, s => ∃ s1 s2, s = s1 ++ s2 ∧ One c s1 ∧ Mat p s2

theorem Mat_append : ∀ (p q s : List UInt8), Mat (p ++ q) s ↔ ∃ s1 s2, s = s1 ++ s2 ∧ Mat p s1 ∧ Mat q s2
  | [], q, s => by
    constructor
    · intro h; exact ⟨[], s, rfl, rfl, h⟩
    · rintro ⟨s1, s2, rfl, h1, h2⟩
      cases h1
      exact h2
  | c :: p, q, s => by
    constructor
    · rintro ⟨s1, s2, rfl, h1, h2⟩
      obtain ⟨t1, t2, rfl, h3, h4⟩ := (Mat_append p q s2).1 h2
      exact ⟨s1 ++ t1, t2, by simp, ⟨s1, t1, rfl, h1, h3⟩, h4⟩
    · rintro ⟨s1, s2, rfl, ⟨t1, t2, rfl, h1, h3⟩, h4⟩
      exact ⟨t1, t2 ++ s2, by simp, h1, (Mat_append p q (t2 ++ s2)).2 ⟨t2, s2, rfl, h3, h4⟩⟩

theorem Mat_one (c : UInt8) (s : List UInt8) : Mat [c] s ↔ One c s := by
  constructor
  · rintro ⟨s1, s2, rfl, h1, h2⟩
    cases h2
    simpa using h1
  · intro h
    exact ⟨s, [], by simp, h, rfl⟩

/-- The first sign. -/
theorem Mat_star (p s : List UInt8) : Mat (42 :: p) s ↔ ∃ s1 s2, s = s1 ++ s2 ∧ Mat p s2 := by
  constructor
  · rintro ⟨s1, s2, h, _, h2⟩; exact ⟨s1, s2, h, h2⟩
  · rintro ⟨s1, s2, h, h2⟩; exact ⟨s1, s2, h, .inl rfl, h2⟩
theorem Mat_sign {c : UInt8} (hc : c ≠ 42) (p s : List UInt8) : Mat (c :: p) s ↔ ∃ d t, s = d :: t ∧ (c = 63 ∨ c = d) ∧ Mat p t := by
  constructor
  · rintro ⟨s1, s2, rfl, h1, h2⟩
    rcases h1 with h1 | ⟨d, rfl, h1⟩
    · exact absurd h1 hc
    · exact ⟨d, s2, rfl, h1, h2⟩
  · rintro ⟨d, t, rfl, h1, h2⟩
    exact ⟨[d], t, rfl, .inr ⟨d, rfl, h1⟩, h2⟩

/-- A star takes more. -/
theorem Mat_star_more {p s : List UInt8} (t : List UInt8) (h : Mat (42 :: p) s) : Mat (42 :: p) (t ++ s) := by
  obtain ⟨s1, s2, rfl, h2⟩ := (Mat_star p s).1 h
  exact (Mat_star p _).2 ⟨t ++ s1, s2, by simp, h2⟩

/-- Signs that are no star take just as many. -/
theorem Mat_plain_len : ∀ {w s : List UInt8}, (∀ c ∈ w, c ≠ 42) → Mat w s → s.length = w.length
  | [], s, _, h => by cases h; rfl
  | c :: w, s, hw, h => by
    obtain ⟨d, t, rfl, _, h2⟩ := (Mat_sign (hw c List.mem_cons_self) w s).1 h
    have := Mat_plain_len (fun x hx => hw x (List.mem_cons_of_mem _ hx)) h2
    simp [this]

theorem Mat_empty : ∀ p : List UInt8, Mat p [] ↔ ∀ c ∈ p, c = 42
  | [] => by simp [Mat]
  | c :: p => by
    by_cases hc : c = 42
    · subst hc
      rw [Mat_star]
      constructor
      · rintro ⟨s1, s2, h, h2⟩
        obtain ⟨rfl, rfl⟩ : s1 = [] ∧ s2 = [] := by simpa using h.symm
        intro x hx
        rcases List.mem_cons.1 hx with rfl | hx
        · rfl
        · exact (Mat_empty p).1 h2 x hx
      · intro h
        exact ⟨[], [], rfl, (Mat_empty p).2 fun x hx => h x (List.mem_cons_of_mem _ hx)⟩
    · rw [Mat_sign hc]
      constructor
      · rintro ⟨d, t, h, _⟩; cases h
      · intro h; exact absurd (h c List.mem_cons_self) hc

/-- The last sign. -/
theorem Mat_snoc_star (p s : List UInt8) (d : UInt8) : Mat (p ++ [42]) (s ++ [d]) ↔ Mat p (s ++ [d]) ∨ Mat (p ++ [42]) s := by
  rw [Mat_append, Mat_append]
  constructor
  · rintro ⟨s1, s2, h, h1, _⟩
    rcases List.eq_nil_or_concat s2 with rfl | ⟨t, e, rfl⟩
    · rw [List.append_nil] at h
      exact .inl (h ▸ h1)
    · rw [List.concat_eq_append, ← List.append_assoc] at h
      have := List.append_inj' h rfl
      exact .inr ⟨s1, t, this.1, h1, (Mat_one 42 t).2 (.inl rfl)⟩
  · rintro (h | ⟨s1, s2, rfl, h1, _⟩)
    · exact ⟨s ++ [d], [], by simp, h, (Mat_one 42 []).2 (.inl rfl)⟩
    · exact ⟨s1, s2 ++ [d], by simp, h1, (Mat_one 42 _).2 (.inl rfl)⟩
theorem Mat_snoc_sign {c : UInt8} (hc : c ≠ 42) (p s : List UInt8) (d : UInt8) : Mat (p ++ [c]) (s ++ [d]) ↔ Mat p s ∧ (c = 63 ∨ c = d) := by
  rw [Mat_append]
  constructor
  · rintro ⟨s1, s2, h, h1, h2⟩
    rcases (Mat_one c s2).1 h2 with h3 | ⟨e, rfl, h3⟩
    · exact absurd h3 hc
    · have := List.append_inj' h rfl
      obtain ⟨rfl, h5⟩ := this
      cases h5
      exact ⟨h1, h3⟩
  · rintro ⟨h1, h2⟩
    exact ⟨s, [d], rfl, h1, (Mat_one c [d]).2 (.inr ⟨d, rfl, h2⟩)⟩
theorem Mat_nil_pat (s : List UInt8) : Mat [] s ↔ s = [] := Iff.rfl

end Go.Proofs.YtckpnmghbjimiaaDoor.Pure

namespace Go.Proofs.YtckpnmghbjimiaaDoor.Pure

section
variable (L T : List UInt8)

/-- What the walk knows: the star st (where there is one), where what it stands for ends, and the signs taken since. -/
structure Star (st back p i : Nat) : Prop where
  hst : L[st]? = some 42
  whole : Mat L T ↔ Mat (L.drop st) (T.drop back)
  cur : Mat (L.drop (st + 1)) (T.drop back) ↔ Mat (L.drop p) (T.drop i)
  hp : st + 1 ≤ p
  hpl : p ≤ L.length
  hil : i ≤ T.length
  hi : i = back + (p - (st + 1))
  plain : ∀ c ∈ (L.take p).drop (st + 1), c ≠ 42

variable {L T}

theorem drop_at {l : List UInt8} {n : Nat} {c : UInt8} (h : l[n]? = some c) : l.drop n = c :: l.drop (n + 1) := by
  obtain ⟨hl, rfl⟩ := List.getElem?_eq_some_iff.1 h
  exact List.drop_eq_getElem_cons hl

theorem star_step {p s : List UInt8} : Mat (42 :: p) s ↔ Mat p s ∨ ∃ d t, s = d :: t ∧ Mat (42 :: p) t := by
  rw [Mat_star]
  constructor
  · rintro ⟨s1, s2, rfl, h⟩
    cases s1 with
    | nil => exact .inl h
    | cons d s1 => exact .inr ⟨d, s1 ++ s2, rfl, (Mat_star p _).2 ⟨s1, s2, rfl, h⟩⟩
  · rintro (h | ⟨d, t, rfl, h⟩)
    · exact ⟨[], s, rfl, h⟩
    · obtain ⟨s1, s2, rfl, h2⟩ := (Mat_star p t).1 h
      exact ⟨d :: s1, s2, rfl, h2⟩

/-- The signs behind the star, and the rest. -/
theorem Star.split {st back p i : Nat} (h : Star L T st back p i) : L.drop (st + 1) = (L.take p).drop (st + 1) ++ L.drop p ∧ ((L.take p).drop (st + 1)).length = i - back := by
  have e : L.take p ++ L.drop p = L := List.take_append_drop p L
  have hl : (L.take p).length = p := by rw [List.length_take]; have := h.hpl; omega
  constructor
  · conv => lhs; rw [← e]
    rw [List.drop_append_of_le_length (by rw [hl]; exact h.hp)]
  · rw [List.length_drop, hl]
    have := h.hi
    omega

/-- Where the star goes back: any later place behaves as one where more is taken. -/
theorem Star.later {st back p i : Nat} (h : Star L T st back p i) {s2 : List UInt8} (h2 : Mat (L.drop (st + 1)) s2) : ∃ u v, s2 = u ++ v ∧ u.length = i - back ∧ Mat (L.drop p) v := by
  obtain ⟨e, hl⟩ := h.split
  rw [e, Mat_append] at h2
  obtain ⟨u, v, rfl, h3, h4⟩ := h2
  exact ⟨u, v, rfl, by rw [Mat_plain_len h.plain h3, hl], h4⟩

/-- Another star. -/
theorem Star.again {st back p i : Nat} (h : Star L T st back p i) (hc : L[p]? = some 42) : Star L T p i (p + 1) i := by
  have hpl := (List.getElem?_eq_some_iff.1 hc).1
  refine ⟨hc, ?_, Iff.rfl, Nat.le_refl _, hpl, h.hil, by omega, ?_⟩
  · rw [h.whole, drop_at h.hst]
    constructor
    · intro h1
      obtain ⟨s1, s2, hs, h2⟩ := (Mat_star _ _).1 h1
      obtain ⟨u, v, rfl, hu, hv⟩ := h.later h2
      rw [drop_at hc] at hv ⊢
      have hT : T.drop i = (T.drop back).drop (i - back) := by rw [List.drop_drop]; congr 1; have := h.hi; omega
      rw [hT, hs, ← List.append_assoc, List.drop_append_of_le_length (by rw [List.length_append]; omega)]
      exact Mat_star_more _ hv
    · intro h1
      exact star_step.2 (.inl (h.cur.2 h1))
  · intro c hcm
    rw [List.drop_of_length_le (by rw [List.length_take]; omega)] at hcm
    cases hcm

theorem star_first {p i : Nat} (whole : Mat L T ↔ Mat (L.drop p) (T.drop i)) (hil : i ≤ T.length) (hc : L[p]? = some 42) : Star L T p i (p + 1) i := by
  have hpl := (List.getElem?_eq_some_iff.1 hc).1
  refine ⟨hc, whole, Iff.rfl, Nat.le_refl _, hpl, hil, by omega, ?_⟩
  intro c hcm
  rw [List.drop_of_length_le (by rw [List.length_take]; omega)] at hcm
  cases hcm

/-- One sign more. -/
theorem Star.sign {st back p i : Nat} (h : Star L T st back p i) {c d : UInt8} (hc : L[p]? = some c) (hd : T[i]? = some d) (h42 : c ≠ 42) (hm : c = 63 ∨ c = d) : Star L T st back (p + 1) (i + 1) := by
  have hpl := (List.getElem?_eq_some_iff.1 hc).1
  have hil := (List.getElem?_eq_some_iff.1 hd).1
  have h1 := h.hp
  have h2 := h.hi
  refine ⟨h.hst, h.whole, ?_, by omega, hpl, hil, by omega, ?_⟩
  · rw [h.cur, drop_at hc, drop_at hd, Mat_sign h42]
    constructor
    · rintro ⟨d', t, he, _, h5⟩
      cases he
      exact h5
    · intro h5
      exact ⟨d, _, rfl, hm, h5⟩
  · intro x hx
    have e : L.take (p + 1) = L.take p ++ [c] := by
      obtain ⟨hl, rfl⟩ := List.getElem?_eq_some_iff.1 hc
      exact List.take_succ_eq_append_getElem hl
    rw [e, List.drop_append_of_le_length (by rw [List.length_take]; omega)] at hx
    rcases List.mem_append.1 hx with hx | hx
    · exact h.plain x hx
    · rw [List.mem_singleton.1 hx]; exact h42

/-- Back to the star. -/
theorem Star.back {st back p i : Nat} (h : Star L T st back p i) (hno : ¬ Mat (L.drop p) (T.drop i)) (hi : i < T.length) : Star L T st (back + 1) (st + 1) (back + 1) := by
  have h1 := h.hp
  have h2 := h.hi
  have h3 := h.hpl
  have hb : back < T.length := by omega
  refine ⟨h.hst, ?_, Iff.rfl, Nat.le_refl _, by omega, by omega, by omega, ?_⟩
  · rw [h.whole, drop_at h.hst, star_step, h.cur, List.drop_eq_getElem_cons hb]
    constructor
    · rintro (h4 | ⟨d, t, he, h5⟩)
      · exact absurd h4 hno
      · cases he; exact h5
    · intro h5
      exact .inr ⟨_, _, rfl, h5⟩
  · intro c hcm
    rw [List.drop_of_length_le (by rw [List.length_take]; omega)] at hcm
    cases hcm

/-- The end of the text. -/
theorem Star.last {st back p i : Nat} (h : Star L T st back p i) (hi : i = T.length) : Mat L T ↔ Mat (L.drop p) [] := by
  have hT : T.drop i = [] := List.drop_of_length_le (by omega)
  have hcur := h.cur
  rw [hT] at hcur
  rw [h.whole, drop_at h.hst]
  constructor
  · intro h1
    obtain ⟨s1, s2, hs, h2⟩ := (Mat_star _ _).1 h1
    obtain ⟨u, v, rfl, hu, hv⟩ := h.later h2
    have hlen := congrArg List.length hs
    rw [List.length_drop, List.length_append, List.length_append, hu] at hlen
    have hv0 : v = [] := List.length_eq_zero_iff.1 (by have := h.hi; omega)
    rw [← hv0]
    exact hv
  · intro h1
    exact star_step.2 (.inl (hcur.2 h1))

end

end Go.Proofs.YtckpnmghbjimiaaDoor.Pure

namespace Go.Proofs.YtckpnmghbjimiaaDoor.Pure
open Go.Proofs.YtckpnmghbjimiaaDoor Go.Proofs.YtckpnmghbjimiaaDoor.P Go.RowKit Go.Proofs.YtckpnmghbjimiaaDoorW.PrintWords

theorem dw_nil (f : UInt8 → Bool) : ∀ l : List UInt8, l.dropWhile f = [] ↔ ∀ x ∈ l, f x = true
  | [] => by simp
  | y :: l => by
    have ih := dw_nil f l
    rw [List.dropWhile_cons]
    by_cases h : f y = true
    · rw [if_pos h, ih]; simp [h]
    · rw [if_neg h]; simp [h]

theorem dw_head (f : UInt8 → Bool) : ∀ (l : List UInt8) (y : UInt8) (ys : List UInt8), l.dropWhile f = y :: ys → f y = false
  | [], _, _, h => by simp at h
  | x :: l, y, ys, h => by
    rw [List.dropWhile_cons] at h
    by_cases hx : f x = true
    · rw [if_pos hx] at h; exact dw_head f l y ys h
    · rw [if_neg hx] at h
      cases h
      simpa using hx

theorem trimB_nil (l : List UInt8) (c : UInt8) : Lib.trimB l c = [] ↔ ∀ x ∈ l, x = c := by
  unfold Lib.trimB Lib.trimLeftB Lib.trimRightB
  rw [dw_nil]
  constructor
  · intro h
    have h0 : l.reverse.dropWhile (· == c) = [] := by
      cases hd : l.reverse.dropWhile (· == c) with
      | nil => rfl
      | cons y ys =>
        have h1 := h y (by rw [List.mem_reverse, hd]; exact List.mem_cons_self)
        have h2 : ¬ (y == c) = true := by rw [dw_head _ _ _ _ hd]; simp
        exact absurd h1 h2
    intro x hx
    have := (dw_nil _ _).1 h0 x (List.mem_reverse.2 hx)
    simpa using this
  · intro h x hx
    have : x ∈ l := List.mem_reverse.1 ((List.dropWhile_sublist _).subset (List.mem_reverse.1 hx))
    simpa using h x this

theorem trim_stars (P : ByteArray) (p : Nat) (hP : P.size ≤ 9223372036854775807) : ∃ t, strings_Trim.f (P.extract p P.size) (⟨#[42]⟩ : ByteArray) = some t ∧ ((t.toList == ([] : List UInt8)) = true ↔ Mat (P.data.toList.drop p) []) := by
  have hs : (P.extract p P.size).size ≤ 9223372036854775807 := by
    rw [Lib.size_eq, Lib.extract_to_end, List.length_drop, ← Lib.size_eq]; omega
  refine ⟨_, by unfold strings_Trim.f; simp only; rw [if_pos ⟨by decide, hs⟩], ?_⟩
  rw [Lib.toList_data, Lib.extract_to_end, Mat_empty, beq_iff_eq]
  exact trimB_nil _ _

section
variable (P S : ByteArray) (hP : P.size ≤ 4611686018427387904) (hS : S.size ≤ 4611686018427387904) (b : Bool) (hb : b = true ↔ Mat P.data.toList S.data.toList)
include hP hS hb

theorem loop_end (st back : Int) (p i : Nat) (hp : p ≤ P.size) (hi : i = S.size) (h : Mat P.data.toList S.data.toList ↔ Mat (P.data.toList.drop p) []) :
    Ev (fun k => name_Match.l0 k P S st back (p : Int) (i : Int)) b := by
  have _u1 := hP
  have _u2 := hS
  have _u3 := hb
  obtain ⟨t, ht, htm⟩ := trim_stars P p (by omega)
  have e : (t.toList == ([] : List UInt8)) = b := by
    rw [Bool.eq_iff_iff, htm, hb, h]
  refine Ev.step (f := fun _ => some b) (fun k => ?_) (Ev.now _)
  simp only [name_Match.l0]
  rw [if_neg (by omega), if_pos (by omega), if_pos (by omega), Int.toNat_natCast, ht, Option.bind_some, e]

theorem step_star (st back : Int) (p i : Nat) (hi : i < S.size) (hc : P.data.toList[p]? = some 42) (r : Ev (fun k => name_Match.l0 k P S (p : Int) (i : Int) ((p + 1 : Nat) : Int) (i : Int)) b) :
    Ev (fun k => name_Match.l0 k P S st back (p : Int) (i : Int)) b := by
  have _u1 := hP
  have _u2 := hS
  have _u3 := hb
  have hpl := (List.getElem?_eq_some_iff.1 hc).1
  rw [← Lib.size_eq] at hpl
  refine Ev.step (f := fun k => name_Match.j1 k P S st back (p : Int) (i : Int) true) (fun k => ?_) (Ev.step (fun k => ?_) r)
  · simp only [name_Match.l0]
    rw [if_pos (by omega), if_pos (by omega), if_pos (by omega), bt_nat P p 42 hc]
    rfl
  · simp only [name_Match.j1, if_true]
    rw [wrap_succ (by omega) (by omega)]
    rfl

theorem step_sign (st back : Int) (p i : Nat) {c d : UInt8} (hc : P.data.toList[p]? = some c) (hd : S.data.toList[i]? = some d) (h42 : c ≠ 42) (hm : c = 63 ∨ c = d) (r : Ev (fun k => name_Match.l0 k P S st back ((p + 1 : Nat) : Int) ((i + 1 : Nat) : Int)) b) :
    Ev (fun k => name_Match.l0 k P S st back (p : Int) (i : Int)) b := by
  have _u1 := hP
  have _u2 := hS
  have _u3 := hb
  have hpl := (List.getElem?_eq_some_iff.1 hc).1
  have hil := (List.getElem?_eq_some_iff.1 hd).1
  rw [← Lib.size_eq] at hpl hil
  have hcf : ((c.toNat : Int) == 42) = false := by rw [beq_eq_false_iff_ne]; exact fun e => h42 ((u8_eq (n := 42) (by omega)).1 e)
  refine Ev.step (f := fun k => name_Match.j1 k P S st back (p : Int) (i : Int) false) (fun k => ?_) (Ev.step (f := fun k => name_Match.j2 k P S st back (p : Int) (i : Int) true) (fun k => ?_) (Ev.step (fun k => ?_) r))
  · simp only [name_Match.l0]
    rw [if_pos (by omega), if_pos (by omega), if_pos (by omega), bt_nat P p c hc, hcf]
  · simp only [name_Match.j1, Bool.false_eq_true, if_false]
    rw [if_pos (by omega), if_pos (by omega), bt_nat P p c hc]
    by_cases h63 : c = 63
    · subst h63
      rfl
    · rw [if_neg (show ¬ ((c.toNat : Int) = 63) from fun e => h63 ((u8_eq (n := 63) (by omega)).1 e)), if_pos (by omega), if_pos (by omega), bt_nat S i d hd]
      obtain rfl := hm.resolve_left h63
      simp
  · simp only [name_Match.j2, if_true]
    rw [wrap_succ (by omega) (by omega), wrap_succ (by omega) (by omega)]
    rfl

/-- No sign fits. -/
theorem step_miss (st back : Int) (p i : Nat) (hi : i < S.size) (hno : P.size ≤ p ∨ ∃ c d, P.data.toList[p]? = some c ∧ S.data.toList[i]? = some d ∧ c ≠ 42 ∧ c ≠ 63 ∧ c ≠ d) (r : Ev (fun k => name_Match.j2 k P S st back (p : Int) (i : Int) false) b) :
    Ev (fun k => name_Match.l0 k P S st back (p : Int) (i : Int)) b := by
  have _u1 := hP
  have _u2 := hS
  have _u3 := hb
  refine Ev.step (f := fun k => name_Match.j1 k P S st back (p : Int) (i : Int) false) (fun k => ?_) (Ev.step (fun k => ?_) r)
  · simp only [name_Match.l0]
    rw [if_pos (by omega)]
    rcases hno with h | ⟨c, d, hc, hd, h42, _⟩
    · rw [if_neg (by omega)]
    · have hpl := (List.getElem?_eq_some_iff.1 hc).1
      rw [← Lib.size_eq] at hpl
      have hcf : ((c.toNat : Int) == 42) = false := by rw [beq_eq_false_iff_ne]; exact fun e => h42 ((u8_eq (n := 42) (by omega)).1 e)
      rw [if_pos (by omega), if_pos (by omega), bt_nat P p c hc, hcf]
  · simp only [name_Match.j1, Bool.false_eq_true, if_false]
    rcases hno with h | ⟨c, d, hc, hd, h42, h63, hne⟩
    · rw [if_neg (by omega)]
    · have hpl := (List.getElem?_eq_some_iff.1 hc).1
      rw [← Lib.size_eq] at hpl
      have hcf : ((c.toNat : Int) == (d.toNat : Int)) = false := by
        rw [beq_eq_false_iff_ne]
        exact fun e => hne (UInt8.toNat_inj.1 (by omega))
      rw [if_pos (by omega), if_pos (by omega), bt_nat P p c hc, if_neg (show ¬ ((c.toNat : Int) = 63) from fun e => h63 ((u8_eq (n := 63) (by omega)).1 e)), if_pos (by omega), if_pos (by omega), bt_nat S i d hd, hcf]

theorem cases_at (p i : Nat) (hi : i < S.size) : P.data.toList[p]? = some 42 ∨ (∃ c d, P.data.toList[p]? = some c ∧ S.data.toList[i]? = some d ∧ c ≠ 42 ∧ (c = 63 ∨ c = d)) ∨ (P.size ≤ p ∨ ∃ c d, P.data.toList[p]? = some c ∧ S.data.toList[i]? = some d ∧ c ≠ 42 ∧ c ≠ 63 ∧ c ≠ d) := by
  have _u1 := hP
  have _u2 := hS
  have _u3 := hb
  obtain ⟨d, hd⟩ := get_some S i hi
  by_cases hp : p < P.size
  · obtain ⟨c, hc⟩ := get_some P p hp
    by_cases h42 : c = 42
    · exact .inl (h42 ▸ hc)
    · by_cases hm : c = 63 ∨ c = d
      · exact .inr (.inl ⟨c, d, hc, hd, h42, hm⟩)
      · exact .inr (.inr (.inr ⟨c, d, hc, hd, h42, fun e => hm (.inl e), fun e => hm (.inr e)⟩))
  · exact .inr (.inr (.inl (by omega)))

theorem miss_no (p i : Nat) (hi : i < S.size) (hno : P.size ≤ p ∨ ∃ c d, P.data.toList[p]? = some c ∧ S.data.toList[i]? = some d ∧ c ≠ 42 ∧ c ≠ 63 ∧ c ≠ d) : ¬ Mat (P.data.toList.drop p) (S.data.toList.drop i) := by
  have _u1 := hP
  have _u2 := hS
  have _u3 := hb
  obtain ⟨d', hd'⟩ := get_some S i hi
  intro h
  rcases hno with hp | ⟨c, d, hc, hd, h42, h63, hne⟩
  · rw [List.drop_of_length_le (by rw [← Lib.size_eq]; exact hp), drop_at hd'] at h
    cases h
  · rw [drop_at hc, drop_at hd, Mat_sign h42] at h
    obtain ⟨e, t, he, h1, _⟩ := h
    cases he
    rcases h1 with h1 | h1
    · exact h63 h1
    · exact hne h1

theorem loopS (st back p i : Nat) (h : Star P.data.toList S.data.toList st back p i) : Ev (fun k => name_Match.l0 k P S (st : Int) (back : Int) (p : Int) (i : Int)) b := by
  have hpl := h.hpl
  have hil := h.hil
  have h1 := h.hp
  have h2 := h.hi
  rw [← Lib.size_eq] at hpl hil
  by_cases hi : i < S.size
  · rcases cases_at P S hP hS b hb p i hi with hc | ⟨c, d, hc, hd, h42, hm⟩ | hno
    · have hpl := (List.getElem?_eq_some_iff.1 hc).1
      rw [← Lib.size_eq] at hpl
      exact step_star P S hP hS b hb _ _ p i hi hc (loopS p i (p + 1) i (h.again hc))
    · exact step_sign P S hP hS b hb _ _ p i hc hd h42 hm (loopS st back (p + 1) (i + 1) (h.sign hc hd h42 hm))
    · have H := loopS st (back + 1) (st + 1) (back + 1) (h.back (miss_no P S hP hS b hb p i hi hno) (by rw [← Lib.size_eq]; exact hi))
      refine step_miss P S hP hS b hb _ _ p i hi hno (Ev.step (fun k => ?_) H)
      simp only [name_Match.j2, Bool.false_eq_true, if_false]
      rw [if_pos (by omega), wrap_succ (by omega) (by omega), wrap_succ (by omega) (by omega)]
      rfl
  · exact loop_end P S hP hS b hb _ _ p i hpl (by omega) (h.last (by rw [← Lib.size_eq]; omega))
termination_by (P.size - st, S.size + 1 - back, S.size - i)
decreasing_by
  · have g := (List.getElem?_eq_some_iff.1 hc).1
    rw [← Lib.size_eq] at g
    exact Prod.Lex.left _ _ (by omega)
  · exact Prod.Lex.right _ (Prod.Lex.right _ (by omega))
  · exact Prod.Lex.right _ (Prod.Lex.left _ _ (by omega))

theorem loopN (p i : Nat) (hpl : p ≤ P.size) (hil : i ≤ S.size) (h : Mat P.data.toList S.data.toList ↔ Mat (P.data.toList.drop p) (S.data.toList.drop i)) : Ev (fun k => name_Match.l0 k P S (-1) 0 (p : Int) (i : Int)) b := by
  by_cases hi : i < S.size
  · rcases cases_at P S hP hS b hb p i hi with hc | ⟨c, d, hc, hd, h42, hm⟩ | hno
    · exact step_star P S hP hS b hb _ _ p i hi hc (loopS P S hP hS b hb p i (p + 1) i (star_first h (by rw [← Lib.size_eq]; exact hil) hc))
    · have hpl2 := (List.getElem?_eq_some_iff.1 hc).1
      rw [← Lib.size_eq] at hpl2
      refine step_sign P S hP hS b hb _ _ p i hc hd h42 hm (loopN (p + 1) (i + 1) hpl2 hi ?_)
      rw [h, drop_at hc, drop_at hd, Mat_sign h42]
      constructor
      · rintro ⟨d', t, he, _, h5⟩
        cases he
        exact h5
      · intro h5
        exact ⟨d, _, rfl, hm, h5⟩
    · have hf : b = false := by
        have := mt hb.1 (fun g => miss_no P S hP hS b hb p i hi hno (h.1 g))
        simpa using this
      refine step_miss P S hP hS b hb _ _ p i hi hno (Ev.step (f := fun _ => some b) (fun k => ?_) (Ev.now _))
      simp only [name_Match.j2, Bool.false_eq_true, if_false]
      rw [if_neg (by omega), hf]
  · refine loop_end P S hP hS b hb _ _ p i hpl (by omega) ?_
    rw [h, List.drop_of_length_le (by rw [← Lib.size_eq]; omega : S.data.toList.length ≤ i)]
termination_by S.size - i
end

end Go.Proofs.YtckpnmghbjimiaaDoor.Pure

/- path.Match (pure): name by name. -/
namespace Go.Proofs.YtckpnmghbjimiaaDoor.Pure
open Go.Proofs.YtckpnmghbjimiaaDoor Go.Proofs.YtckpnmghbjimiaaDoor.P Go.RowKit Go.Proofs.YtckpnmghbjimiaaDoorW.PrintWords

open Classical in
/-- Is each text what its pattern says? -/
noncomputable def allM : List ByteArray → List ByteArray → Bool
  | p :: ps, x :: xs => decide (Mat p.data.toList x.data.toList) && allM ps xs
  | _, _ => true

open Classical in
theorem nameMatch_ev (P S : ByteArray) (hP : P.size ≤ 4611686018427387904) (hS : S.size ≤ 4611686018427387904) : Ev (fun k => name_Match.f k P S) (decide (Mat P.data.toList S.data.toList)) := by
  unfold name_Match.f
  exact loopN P S hP hS _ (by simp) 0 0 (Nat.zero_le _) (Nat.zero_le _) Iff.rfl

open Classical in
theorem pm_loop (l y : List ByteArray) (yd : Bool) (hl : l.length = y.length) (h1 : l.length ≤ 1000000) (hls : ∀ x ∈ l, x.size ≤ 100000) (hys : ∀ x ∈ y, x.size ≤ 100000) (d : Nat) : ∀ i : Nat, i + d = l.length →
    Ev (fun k => path_Match.l0 k l (l.length : Int) (i : Int) y yd) (allM (l.drop i) (y.drop i)) := by
  induction d with
  | zero =>
    intro i hi
    refine Ev.step (f := fun _ => some _) (fun k => ?_) (Ev.now _)
    simp only [path_Match.l0]
    rw [if_neg (by omega), List.drop_of_length_le (by omega : l.length ≤ i)]
    rfl
  | succ d ih =>
    intro i hi
    have h2 : i < l.length := by omega
    have h3 : i < y.length := by omega
    rw [drop_cons l i h2, drop_cons y i h3, allM]
    have hm := nameMatch_ev (l.getD i ByteArray.empty) (y.getD i ByteArray.empty) (by have := hls (l.getD i ByteArray.empty) (by rw [List.getD_eq_getElem?_getD, List.getElem?_eq_getElem h2]; exact List.getElem_mem _); omega) (by have := hys (y.getD i ByteArray.empty) (by rw [List.getD_eq_getElem?_getD, List.getElem?_eq_getElem h3]; exact List.getElem_mem _); omega)
    refine Ev.step (f := fun k => (name_Match.f k (l.getD i ByteArray.empty) (y.getD i ByteArray.empty)).bind fun t126 => (if t126 = true then (path_Match.l0 k l (l.length : Int) ((i + 1 : Nat) : Int) y yd) else (some false))) (fun k => ?_) (Ev.bind hm ?_)
    · simp only [path_Match.l0]
      rw [if_pos (by omega), if_pos (by omega), if_pos (by omega), if_pos (by omega), rdOf_nat, rdOf_nat, wrap_succ (by omega) (by omega)]
      rfl
    · by_cases hM : Mat (l.getD i ByteArray.empty).data.toList (y.getD i ByteArray.empty).data.toList
      · simp only [hM, decide_true, if_true, Bool.true_and]
        exact ih (i + 1) (by omega)
      · simp only [hM, decide_false, Bool.false_eq_true, if_false, Bool.false_and]
        exact Ev.now _

/-- A path of patterns held against a text. -/
noncomputable def matchA (P s : ByteArray) : Bool :=
  decide ((parseA s).2.2.2 = 0) && (decide (P.data.toList.head? = some 47) && (decide (((fieldsL P.data.toList).map ofL).length = (parseA s).1.length) && allM ((fieldsL P.data.toList).map ofL) (parseA s).1))

theorem splitSlash_mem : ∀ (l p : List UInt8), p ∈ splitSlash l → p.length ≤ l.length
  | [], p, h => by simp [splitSlash] at h; simp [h]
  | c :: l, p, h => by
    have ih := splitSlash_mem l
    rw [splitSlash] at h
    split at h
    · rcases List.mem_cons.1 h with rfl | h
      · simp
      · have := ih p h; simp; omega
    · cases hs : splitSlash l with
      | nil => exact absurd hs (splitSlash_ne l)
      | cons q qs =>
        rw [hs] at h
        simp only at h
        rcases List.mem_cons.1 h with rfl | h
        · have := ih q (by rw [hs]; exact List.mem_cons_self)
          simp; exact this
        · have := ih p (by rw [hs]; exact List.mem_cons_of_mem _ h)
          simp; omega

theorem fields_size (P : ByteArray) : ∀ x ∈ (fieldsL P.data.toList).map ofL, x.size ≤ P.size := by
  intro x hx
  obtain ⟨p, hp, rfl⟩ := List.mem_map.1 hx
  rw [size_ofL, Lib.size_eq]
  exact splitSlash_mem _ _ (List.mem_filter.1 hp).1

theorem splitSlash_length : ∀ l : List UInt8, (splitSlash l).length ≤ l.length + 1
  | [] => by simp [splitSlash]
  | c :: l => by
    have ih := splitSlash_length l
    rw [splitSlash]
    split
    · simp; exact ih
    · cases hs : splitSlash l with
      | nil => simp
      | cons q qs => rw [hs] at ih; simp at ih ⊢; omega

theorem pmatch_ev (P s : ByteArray) (hP : P.size ≤ 3000) : Ev (fun k => path_Match.f k P s) (matchA P s) := by
  have hlen := parseA_len s
  have hnames := parseA_names s
  have hfl : ((fieldsL P.data.toList).map ofL).length ≤ 1000000 := by
    rw [List.length_map]
    have h1 := List.length_filter_le (fun x => decide (x ≠ [])) (splitSlash P.data.toList)
    have h2 := splitSlash_length P.data.toList
    rw [← Lib.size_eq] at h2
    unfold fieldsL
    simp only [ne_eq] at h1 ⊢
    omega
  have hff : strings_FieldsFunc.f P 48 = some ((fieldsL P.data.toList).map ofL) := by
    unfold strings_FieldsFunc.f
    rw [if_pos ⟨rfl, by omega⟩, goFields_slash]
  have hbad : Ev (fun k => path_Match.j0 k P true (parseA s).1 (parseA s).2.1) false :=
    Ev.step (f := fun _ => some false) (fun k => by simp [path_Match.j0]) (Ev.now _)
  unfold path_Match.f path_Parse.f matchA
  simp only [Option.bind_some, prefix_f]
  by_cases h0 : (parseA s).2.2.2 = 0
  · simp only [if_pos h0]
    simp only [h0, decide_true, Bool.true_and]
    by_cases h47 : P.data.toList.head? = some 47
    · simp only [h47, decide_true, Bool.not_true, Bool.true_and]
      refine Ev.step (f := fun k => if (((fieldsL P.data.toList).map ofL).length : Int) = ((parseA s).1.length : Int) then (path_Match.l0 k ((fieldsL P.data.toList).map ofL) (((fieldsL P.data.toList).map ofL).length : Int) 0 (parseA s).1 (parseA s).2.1) else (some false)) (fun k => ?_) ?_
      · simp only [path_Match.j0, Bool.false_eq_true, if_false, hff, Option.bind_some]
      · by_cases hl : ((fieldsL P.data.toList).map ofL).length = (parseA s).1.length
        · simp only [hl, decide_true, Bool.true_and, if_true]
          have := pm_loop ((fieldsL P.data.toList).map ofL) (parseA s).1 (parseA s).2.1 hl hfl (fun x hx => by have := fields_size P x hx; omega) (fun x hx => by have := checkE_size (hnames x hx); omega) _ 0 (Nat.zero_add _)
          rw [hl] at this
          exact this
        · have hl' : ¬ ((((fieldsL P.data.toList).map ofL).length : Int) = ((parseA s).1.length : Int)) := by omega
          simp only [hl, hl', decide_false, Bool.false_and, if_false]
          exact Ev.now _
    · simp only [h47, decide_false, Bool.not_false, Bool.false_and]
      exact hbad
  · simp only [if_neg h0]
    simp only [h0, decide_false, Bool.false_and]
    exact hbad

theorem fields_cons47 (v : List UInt8) : fieldsL (47 :: v) = fieldsL v := by
  have := fieldsL_slash (w := []) (v := v) (by simp)
  simpa using this

end Go.Proofs.YtckpnmghbjimiaaDoor.Pure

/- What PathWays needs (pure): the way, joined, is read as the other path; the fields of a form; patterns without signs. -/
namespace Go.Proofs.YtckpnmghbjimiaaDoor.Pure
open Go.Proofs.YtckpnmghbjimiaaDoor Go.Proofs.YtckpnmghbjimiaaDoor.P Go.RowKit Go.Proofs.YtckpnmghbjimiaaDoorW.PrintWords

theorem comN_take : ∀ x y : List ByteArray, x.take (comN x y) = y.take (comN x y)
  | [], y => by simp [comN]
  | a :: x, [] => by simp [comN]
  | a :: x, b :: y => by
    have ih := comN_take x y
    rw [comN]
    split
    · next h => rw [List.take_succ_cons, List.take_succ_cons, ih, h]
    · simp

theorem splitSlash_append : ∀ u v : List UInt8, splitSlash (u ++ 47 :: v) = splitSlash u ++ splitSlash v
  | [], v => by simp [splitSlash]
  | c :: u, v => by
    have ih := splitSlash_append u v
    rw [List.cons_append, splitSlash, splitSlash]
    by_cases hc : c = 47
    · rw [if_pos hc, if_pos hc, ih]; rfl
    · rw [if_neg hc, if_neg hc, ih]
      cases hs : splitSlash u with
      | nil => exact absurd hs (splitSlash_ne u)
      | cons p ps => rfl

theorem split_joinW : ∀ l : List ByteArray, l ≠ [] → (∀ x ∈ l, ∀ c ∈ x.data.toList, c ≠ 47) → splitSlash (Lib.join (l.map (·.data.toList)) [47]) = l.map (·.data.toList)
  | [], h, _ => absurd rfl h
  | [x], _, h => by
    rw [show Lib.join ([x].map (·.data.toList)) [47] = x.data.toList from by simp [Lib.join, List.intercalate]]
    rw [split_word _ (h x List.mem_cons_self)]
    rfl
  | x :: y :: l, _, h => by
    have ih := split_joinW (y :: l) (by simp) (fun z hz => h z (List.mem_cons_of_mem _ hz))
    rw [join_cons, split_word_slash _ _ (h x List.mem_cons_self), ih]
    rfl

theorem map_ofL (l : List ByteArray) : (l.map (·.data.toList)).map ofL = l := by
  rw [List.map_map]
  conv => rhs; rw [← List.map_id l]
  exact List.map_congr_left (fun x _ => ofL_data x)

theorem parts_joinB (l : List ByteArray) (h0 : l ≠ []) (h : ∀ x ∈ l, ∀ c ∈ x.data.toList, c ≠ 47) : parts (joinB l) = l := by
  unfold parts joinB
  rw [data_ofL, split_joinW l h0 h, map_ofL]

theorem name_ne {x : ByteArray} (h : checkE x = 0) : x.data.toList ≠ [] := by
  intro e
  unfold checkE at h
  rw [if_pos (by rw [Lib.toList_data, e])] at h
  cases h

theorem way_plain (x y : List ByteArray) (hy : ∀ z ∈ y, checkE z = 0) : ∀ z ∈ wayP x y, z.data.toList ≠ [] ∧ ∀ c ∈ z.data.toList, c ≠ 47 := by
  intro z hz
  unfold wayP at hz
  rcases List.mem_append.1 hz with h | h
  · obtain rfl := List.eq_of_mem_replicate h
    refine ⟨by decide, fun c hc => ?_⟩
    have : c = 46 := by simpa using hc
    subst this
    decide
  · have := hy z (List.mem_of_mem_drop h)
    exact ⟨name_ne this, no47 this⟩

theorem way_head (x y : List ByteArray) (hy : ∀ z ∈ y, checkE z = 0) : (wayB x y).data.toList.head? ≠ some 47 := by
  have hp := way_plain x y hy
  unfold wayB
  by_cases h : wayP x y = []
  · rw [if_pos h]; decide
  · rw [if_neg h]
    unfold joinB
    rw [data_ofL]
    intro he
    have hs := split_joinW (wayP x y) h (fun z hz => (hp z hz).2)
    cases hj : Lib.join ((wayP x y).map (·.data.toList)) [47] with
    | nil => rw [hj] at he; cases he
    | cons c r =>
      rw [hj] at he hs
      obtain rfl : c = 47 := by simpa using he
      rw [splitSlash, if_pos rfl] at hs
      cases hw : wayP x y with
      | nil => exact h hw
      | cons z l =>
        rw [hw] at hs hp
        exact (hp z List.mem_cons_self).1 (List.cons.inj hs).1.symm

theorem runP_dots : ∀ (n : Nat) (N : List ByteArray) (D : Bool) (i : Int), ∃ D' j, runP (N, D, i) (List.replicate n dots) = .ok (N.take (N.length - n), D', j)
  | 0, N, D, i => ⟨D, i, by simp [runP]⟩
  | n + 1, N, D, i => by
    have hs : stepP (N, D, i) dots = .ok (N.dropLast, true, i + (dots.size + 1)) := by
      unfold stepP
      rw [if_neg (by rw [Lib.toList_data]; decide), if_neg (by rw [Lib.toList_data]; decide), if_pos (by rw [Lib.toList_data])]
    obtain ⟨D', j, hj⟩ := runP_dots n N.dropLast true (i + (dots.size + 1))
    refine ⟨D', j, ?_⟩
    rw [List.replicate_succ, runP, hs]
    simp only
    rw [hj, List.dropLast_eq_take, List.take_take, List.length_take]
    congr 3
    omega

theorem way_run (x y : List ByteArray) (D : Bool) (i : Int) (hy : ∀ z ∈ y, checkE z = 0) (hl : y.length ≤ 32) : ∃ D' j, runP (x, D, i) (parts (wayB x y)) = .ok (y, D', j) := by
  have hc := comN_le x y
  have ht := comN_take x y
  have hp := way_plain x y hy
  unfold wayB
  by_cases h : wayP x y = []
  · rw [if_pos h]
    unfold wayP at h
    obtain ⟨h1, h2⟩ := List.append_eq_nil_iff.1 h
    have h3 : x.length ≤ comN x y := by
      have := congrArg List.length h1
      rw [List.length_replicate] at this
      simp at this
      omega
    have h4 : y.length ≤ comN x y := by
      have := congrArg List.length h2
      rw [List.length_drop] at this
      simp at this
      omega
    rw [List.take_of_length_le h3, List.take_of_length_le h4] at ht
    subst ht
    have e : parts (⟨#[46]⟩ : ByteArray) = [⟨#[46]⟩] := rfl
    have hs : stepP (x, D, i) (⟨#[46]⟩ : ByteArray) = .ok (x, true, i + ((⟨#[46]⟩ : ByteArray).size + 1)) := by
      unfold stepP
      rw [if_neg (by rw [Lib.toList_data]; decide), if_pos (by rw [Lib.toList_data])]
    refine ⟨true, i + ((⟨#[46]⟩ : ByteArray).size + 1), ?_⟩
    rw [e, runP, hs]
    rfl
  · rw [if_neg h, parts_joinB _ h (fun z hz => (hp z hz).2)]
    unfold wayP
    obtain ⟨D1, j1, h1⟩ := runP_dots (x.length - comN x y) x D i
    have e1 : x.length - (x.length - comN x y) = comN x y := by omega
    obtain ⟨j, hj⟩ := runP_form (y.drop (comN x y)) (x.take (comN x y)) D1 j1 (fun z hz => hy z (List.mem_of_mem_drop hz)) (by rw [List.length_take, List.length_drop]; omega)
    rw [runP_append, h1, e1]
    simp only
    rw [hj, ht, List.take_append_drop]
    exact ⟨_, _, rfl⟩

theorem parse_ok (s : ByteArray) (h : (parseA s).2.2.2 = 0) : s.data.toList.head? = some 47 ∧ s.size ≤ 1024 ∧ ∃ D j, runP ([], true, 1) (parts (s.extract 1 s.size)) = .ok ((parseA s).1, D, j) := by
  unfold parseA at h ⊢
  by_cases h1 : 1024 < s.size
  · rw [if_pos h1] at h; cases h
  · rw [if_neg h1] at h ⊢
    by_cases h2 : s.data.toList.head? = some 47
    · rw [if_pos h2] at h ⊢
      refine ⟨h2, by omega, ?_⟩
      unfold parseR at h ⊢
      cases hr : runP ([], true, 1) (parts (s.extract 1 s.size)) with
      | ok st => exact ⟨st.2.1, st.2.2, rfl⟩
      | error e =>
        rw [hr] at h
        exfalso
        rcases runP_ecode _ _ _ hr with g | g <;> (change e.2 = 0 at h; rw [g] at h; cases h)
    · rw [if_neg h2] at h; cases h

theorem parse_of_run (s : ByteArray) (h47 : s.data.toList.head? = some 47) (hs : s.size ≤ 1024) {st : PSt} (h : runP ([], true, 1) (parts (s.extract 1 s.size)) = .ok st) : parseA s = (st.1, st.2.1, 0, 0) := by
  unfold parseA
  rw [if_neg (by omega), if_pos h47]
  unfold parseR
  rw [h]
  rfl

theorem join_way (a b : ByteArray) (ha : (parseA a).2.2.2 = 0) (hb : (parseA b).2.2.2 = 0) :
    cleanA (joinT a (wayB (parseA a).1 (parseA b).1)) = (formL (parseA b).1, 0) ∨ cleanA (joinT a (wayB (parseA a).1 (parseA b).1)) = (⟨#[]⟩, 181) := by
  obtain ⟨ha47, has, D, j, hrun⟩ := parse_ok a ha
  have hy := parseA_names b
  have hh := way_head (parseA a).1 (parseA b).1 hy
  obtain ⟨D', j', hw⟩ := way_run (parseA a).1 (parseA b).1 D j hy (parseA_len b)
  generalize wayB (parseA a).1 (parseA b).1 = way at *
  unfold joinT
  rw [if_neg hh]
  have hdata : (a ++ (⟨#[47]⟩ : ByteArray) ++ way).data.toList = a.data.toList ++ 47 :: way.data.toList := by
    rw [app_data, app_data]
    simp
  have h47 : (a ++ (⟨#[47]⟩ : ByteArray) ++ way).data.toList.head? = some 47 := by
    rw [hdata, List.head?_append, ha47]; rfl
  have hex : ((a ++ (⟨#[47]⟩ : ByteArray) ++ way).extract 1 (a ++ (⟨#[47]⟩ : ByteArray) ++ way).size).data.toList = (a.extract 1 a.size).data.toList ++ 47 :: way.data.toList := by
    rw [Lib.extract_to_end, Lib.extract_to_end, hdata]
    cases hl : a.data.toList with
    | nil => rw [hl] at ha47; cases ha47
    | cons c l => rfl
  generalize a ++ (⟨#[47]⟩ : ByteArray) ++ way = t at *
  by_cases hs : t.size ≤ 1024
  · left
    have hr : runP ([], true, 1) (parts (t.extract 1 t.size)) = .ok ((parseA b).1, D', j') := by
      rw [show parts (t.extract 1 t.size) = parts (a.extract 1 a.size) ++ parts way from by
        unfold parts
        rw [hex, splitSlash_append, List.map_append]]
      rw [runP_append, hrun]
      exact hw
    have hp := parse_of_run t h47 hs hr
    unfold cleanA
    rw [hp]
    rfl
  · right
    have hp : parseA t = ([], false, 1024, 181) := by
      unfold parseA
      rw [if_pos (by omega)]
    unfold cleanA
    rw [hp]
    rfl

theorem fields_form (l : List ByteArray) (h : ∀ x ∈ l, checkE x = 0) : (fieldsL (formL l).data.toList).map ofL = l := by
  rw [formL, data_ofL, fields_cons47]
  by_cases h0 : l = []
  · subst h0; rfl
  · unfold fieldsL
    rw [split_join l h0 h, List.filter_eq_self.2, map_ofL]
    intro p hp
    obtain ⟨x, hx, rfl⟩ := List.mem_map.1 hp
    exact decide_eq_true (name_ne (h x hx))

theorem Mat_plain : ∀ {p s : List UInt8}, (∀ c ∈ p, c ≠ 42 ∧ c ≠ 63) → (Mat p s ↔ p = s)
  | [], s, _ => by rw [Mat_nil_pat]; exact eq_comm
  | c :: p, s, h => by
    have hr : ∀ x ∈ p, x ≠ 42 ∧ x ≠ 63 := fun x hx => h x (List.mem_cons_of_mem _ hx)
    rw [Mat_sign (h c List.mem_cons_self).1]
    constructor
    · rintro ⟨d, t, rfl, h1, h2⟩
      rcases h1 with h1 | h1
      · exact absurd h1 (h c List.mem_cons_self).2
      · rw [h1, (Mat_plain hr).1 h2]
    · rintro rfl
      exact ⟨c, p, rfl, .inr rfl, (Mat_plain hr).2 rfl⟩

theorem allM_plain : ∀ (l y : List ByteArray), l.length = y.length → (∀ x ∈ l, ∀ c ∈ x.data.toList, c ≠ 42 ∧ c ≠ 63) → allM l y = decide (l = y)
  | [], [], _, _ => rfl
  | [], _ :: _, h, _ => by simp at h
  | _ :: _, [], h, _ => by simp at h
  | p :: l, x :: y, h, hp => by
    have ih := allM_plain l y (by simpa using h) (fun z hz => hp z (List.mem_cons_of_mem _ hz))
    rw [allM, ih, Bool.eq_iff_iff]
    simp only [Bool.and_eq_true, decide_eq_true_eq, List.cons.injEq, Mat_plain (hp p List.mem_cons_self)]
    exact ⟨fun ⟨h1, h2⟩ => ⟨ba_ext h1, h2⟩, fun ⟨h1, h2⟩ => ⟨by rw [h1], h2⟩⟩

theorem no_sign (l : List ByteArray) (h : Star.hasSign (formL l) = false) : ∀ x ∈ l, ∀ c ∈ x.data.toList, c ≠ 42 ∧ c ≠ 63 := by
  intro x hx c hc
  have hl : l ≠ [] := List.ne_nil_of_mem hx
  have hm : c ∈ (formL l).data.toList := by
    rw [formL, data_ofL, ← fl_join l hl]
    exact List.mem_flatMap.2 ⟨x, hx, List.mem_cons_of_mem _ hc⟩
  have hn := of_decide_eq_false h
  constructor
  · rintro rfl
    exact hn (indexAny_mem _ _ _ hm rfl)
  · rintro rfl
    exact hn (indexAny_mem _ _ _ hm rfl)

theorem match_form (l : List ByteArray) (s : ByteArray) (h : ∀ x ∈ l, checkE x = 0) (hs : ∀ x ∈ l, ∀ c ∈ x.data.toList, c ≠ 42 ∧ c ≠ 63) (h0 : (parseA s).2.2.2 = 0) :
    matchA (formL l) s = decide (l = (parseA s).1) := by
  unfold matchA
  rw [fields_form l h, h0]
  have e : (formL l).data.toList.head? = some 47 := rfl
  rw [e]
  simp only [decide_true, Bool.true_and]
  by_cases hl : l.length = (parseA s).1.length
  · rw [allM_plain l _ hl hs]
    simp [hl]
  · have : l ≠ (parseA s).1 := fun g => hl (by rw [g])
    simp [hl, this]

end Go.Proofs.YtckpnmghbjimiaaDoor.Pure

/- The pure law of PathWays. -/
namespace Go.Proofs.YtckpnmghbjimiaaDoor.Pure
open Go.Proofs.YtckpnmghbjimiaaDoor Go.Proofs.YtckpnmghbjimiaaDoor.P Go.RowKit Go.Proofs.YtckpnmghbjimiaaDoorW.PrintWords

theorem ways3 (a b : ByteArray) (ha : (parseA a).2.2.2 = 0) (hb : (parseA b).2.2.2 = 0) : Ev (fun k => signetlaw18_PathWays.j3 k false a b) true := by
  have h1 := parseA_len a
  have h2 := parseA_lens a ha
  have hn := parseA_names a
  have h3 := (formL_le (parseA a).1 (by omega)).1
  refine Ev.step (f := fun k => (path_Clean.f k a).bind fun bt322 => ((strings_ContainsAnyStar.f bt322.1 (⟨#[42, 63]⟩ : ByteArray)).bind fun t324 => (if t324 = true then (some true) else ((path_Match.f k bt322.1 a).bind fun t325 => (if t325 = true then ((path_Match.f k bt322.1 b).bind fun t326 => ((path_Same.f k a b).bind fun t327 => (some (t326 == t327)))) else (some false)))))) (fun k => ?_) ?_
  · simp only [signetlaw18_PathWays.j3, Bool.false_eq_true, if_false]
  · refine Ev.bind (clean_ev a) ?_
    unfold cleanA
    simp only [if_pos ha]
    have hc : strings_ContainsAnyStar.f (formL (parseA a).1) (⟨#[42, 63]⟩ : ByteArray) = some (Star.hasSign (formL (parseA a).1)) := by
      unfold strings_ContainsAnyStar.f
      rw [if_pos ⟨rfl, by omega⟩]
    simp only [hc, Option.bind_some]
    cases hsg : Star.hasSign (formL (parseA a).1) with
    | true => simp only [if_true]; exact Ev.now _
    | false =>
      simp only [Bool.false_eq_true, if_false]
      have hs := no_sign _ hsg
      refine Ev.bind (pmatch_ev _ a (by omega)) ?_
      rw [match_form _ a hn hs ha]
      simp only [decide_true, if_true]
      refine Ev.bind (pmatch_ev _ b (by omega)) (Ev.bind (psame_ev a b) ?_)
      rw [match_form _ b hn hs hb]
      have : (decide ((parseA a).1 = (parseA b).1) == sameA a b) = true := by
        unfold sameA
        simp [ha, hb]
      rw [this]
      exact Ev.now _

theorem ways2 (a b : ByteArray) (ha : (parseA a).2.2.2 = 0) (hb : (parseA b).2.2.2 = 0) :
    Ev (fun k => signetlaw18_PathWays.j2 k (formL ((parseA a).1.take (comN (parseA a).1 (parseA b).1))) a b (parseA a).1 (parseA a).2.1 (parseA b).1 (parseA b).2.1) true := by
  have h1 := parseA_len a
  have h1b := parseA_len b
  have h2 := parseA_lens a ha
  have hn := parseA_names a
  have hc := comN_le (parseA a).1 (parseA b).1
  have ht := comN_take (parseA a).1 (parseA b).1
  have hlt := lensP_take (parseA a).1 (comN (parseA a).1 (parseA b).1)
  have h3 := (formL_le ((parseA a).1.take (comN (parseA a).1 (parseA b).1)) (by omega)).1
  have hp := parse_form ((parseA a).1.take (comN (parseA a).1 (parseA b).1)) (fun x hx => hn x (List.mem_of_mem_take hx)) (by rw [List.length_take]; omega) h3
  have w1 := within_ev (parseA a).1 ((parseA a).1.take (comN (parseA a).1 (parseA b).1)) (parseA a).2.1 (decide ((parseA a).1.take (comN (parseA a).1 (parseA b).1) = [])) (by omega)
  have w2 := within_ev (parseA b).1 ((parseA a).1.take (comN (parseA a).1 (parseA b).1)) (parseA b).2.1 (decide ((parseA a).1.take (comN (parseA a).1 (parseA b).1) = [])) (by omega)
  have hl : ((parseA a).1.take (comN (parseA a).1 (parseA b).1)).length = comN (parseA a).1 (parseA b).1 := by rw [List.length_take]; omega
  rw [hl, ht] at w1 w2
  rw [show (decide (comN (parseA a).1 (parseA b).1 ≤ (parseA a).1.length) && decide ((parseA b).1.take (comN (parseA a).1 (parseA b).1) = (parseA b).1.take (comN (parseA a).1 (parseA b).1))) = true from by simp [hc.1]] at w1
  rw [show (decide (comN (parseA a).1 (parseA b).1 ≤ (parseA b).1.length) && decide ((parseA b).1.take (comN (parseA a).1 (parseA b).1) = (parseA b).1.take (comN (parseA a).1 (parseA b).1))) = true from by simp [hc.2]] at w2
  rw [ht] at hp ⊢
  refine Ev.step (f := fun k => (path_Within.f k (parseA a).1 (parseA a).2.1 ((parseA b).1.take (comN (parseA a).1 (parseA b).1)) (decide ((parseA b).1.take (comN (parseA a).1 (parseA b).1) = []))).bind fun t320 => (if t320 = true then ((path_Within.f k (parseA b).1 (parseA b).2.1 ((parseA b).1.take (comN (parseA a).1 (parseA b).1)) (decide ((parseA b).1.take (comN (parseA a).1 (parseA b).1) = []))).bind fun t321 => (signetlaw18_PathWays.j3 k (!t321) a b)) else (signetlaw18_PathWays.j3 k true a b))) (fun k => ?_) ?_
  · simp only [signetlaw18_PathWays.j2, path_Parse.f, Option.bind_some, hp, if_true]
  · refine Ev.bind w1 ?_
    simp only [if_true]
    refine Ev.bind w2 ?_
    exact ways3 a b ha hb

theorem ways1 (a b : ByteArray) (hsa : a.size ≤ 140737488351232) (ha : (parseA a).2.2.2 = 0) (hb : (parseA b).2.2.2 = 0) :
    Ev (fun k => signetlaw18_PathWays.j1 k (wayB (parseA a).1 (parseA b).1) 0 (formL ((parseA a).1.take (comN (parseA a).1 (parseA b).1))) 0 true false a b (parseA a).1 (parseA a).2.1 (parseA b).1 (parseA b).2.1) true := by
  have hw : (wayB (parseA a).1 (parseA b).1).size ≤ 140737488351232 := by
    have h1 := wayP_small a b
    have h2 := join_len (wayP (parseA a).1 (parseA b).1)
    unfold wayB
    split
    · decide
    · unfold joinB
      rw [size_ofL]
      omega
  have hj := join_ev a (wayB (parseA a).1 (parseA b).1) hsa hw
  have H2 := ways2 a b ha hb
  refine Ev.step (f := fun k => (path_Join.f k a (wayB (parseA a).1 (parseA b).1)).bind fun bt309 => (if bt309.2 = 0 then ((path_Clean.f k b).bind fun bt311 => (if bt309.1.toList = bt311.1.toList then (signetlaw18_PathWays.j2 k (formL ((parseA a).1.take (comN (parseA a).1 (parseA b).1))) a b (parseA a).1 (parseA a).2.1 (parseA b).1 (parseA b).2.1) else (some false))) else (if bt309.2 = 181 then (signetlaw18_PathWays.j2 k (formL ((parseA a).1.take (comN (parseA a).1 (parseA b).1))) a b (parseA a).1 (parseA a).2.1 (parseA b).1 (parseA b).2.1) else (some false)))) (fun k => ?_) ?_
  · simp only [signetlaw18_PathWays.j1, Bool.false_eq_true, if_false]
  · refine Ev.bind hj ?_
    rcases join_way a b ha hb with h | h
    · rw [h]
      simp only [if_true]
      refine Ev.bind (clean_ev b) ?_
      unfold cleanA
      simp only [if_pos hb, if_true]
      exact H2
    · rw [h]
      have e : ¬ ((181 : Int) = 0) := by decide
      simp only [e, if_false, if_true]
      exact H2

theorem ways_bad (e f : Int) (a b : ByteArray) (x y : List ByteArray) (c d : Bool) (he : e ≠ 0) (hf : f ≠ 0) : Ev (fun k => signetlaw18_PathWays.j0 k (⟨#[]⟩ : ByteArray) e (⟨#[]⟩ : ByteArray) f false a b x c y d) true := by
  have he' : (e == 0) = false := beq_eq_false_iff_ne.2 he
  have hf' : (f == 0) = false := beq_eq_false_iff_ne.2 hf
  have hnil : (⟨#[]⟩ : ByteArray).toList = [] := by rw [Lib.toList_data]
  refine Ev.step (f := fun k => signetlaw18_PathWays.j1 k (⟨#[]⟩ : ByteArray) e (⟨#[]⟩ : ByteArray) f false true a b x c y d) (fun k => ?_) (Ev.step (f := fun _ => some true) (fun k => ?_) (Ev.now _))
  · simp [signetlaw18_PathWays.j0, he', hf']
  · simp [signetlaw18_PathWays.j1, he', hf', hnil]

theorem PathWays (a b : ByteArray) (ha : a.size ≤ 140737488351232) (_hb : b.size ≤ 140737488351232) : ∃ k, signetlaw18_PathWays.f k a b = some true := by
  refine Ev.rounds ?_
  unfold signetlaw18_PathWays.f path_Parse.f
  simp only [awake_true, Option.bind_some, if_true]
  refine Ev.bind (relative_ev a b) (Ev.bind (common_ev a b) ?_)
  unfold relA comA
  by_cases h0 : (parseA a).2.2.2 = 0
  · by_cases h1 : (parseA b).2.2.2 = 0
    · simp only [if_pos h0, if_pos h1]
      have e : ((parseA b).2.2.2 == 0) = true := by rw [h1]; rfl
      rw [e]
      refine Ev.step (fun k => ?_) (ways1 a b ha h0 h1)
      simp [signetlaw18_PathWays.j0]
    · simp only [if_pos h0, if_neg h1]
      have e : ((parseA b).2.2.2 == 0) = false := beq_eq_false_iff_ne.2 h1
      rw [e]
      exact ways_bad _ _ a b _ _ _ _ h1 h1
  · simp only [if_neg h0]
    exact ways_bad _ _ a b _ _ _ _ h0 h0

end Go.Proofs.YtckpnmghbjimiaaDoor.Pure
