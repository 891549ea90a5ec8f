/- The pure law of NameChecks: what is a name; two compared. -/
import Derived.Test.YtgciocgdppaaiaaS0
import Derived.Test.YtgciocgdppaaiaaPxSignetlaw13NameChecks
namespace Go.Proofs.Ytgciocgdppaaiaa.Pure
open Go.Proofs.Ytgciocgdppaaiaa Go.Proofs.Ytgciocgdppaaiaa.P Go.RowKit Go.Proofs.YtgciocgdppaaiaaW.PrintWords Go.Proofs.YtgciocgdppaaiaaW.PrintLast

/-! ### what is a name -/
def nameB (x : ByteArray) : Bool := decide (checkE x = 0)

theorem nameB_bad {x : ByteArray} (h : hasBad x = true) : nameB x = false := by
  unfold nameB checkE
  repeat' split
  all_goals first | rfl | (exfalso; simp_all)

theorem is_loop (x : ByteArray) (hx : x.size ≤ 9223372036854775807) (h0 : x.toList ≠ []) (h56 : ¬ 56 < x.size) (hd : x.toList ≠ [46]) (hdd : x.toList ≠ [46, 46]) (d : Nat) : ∀ i : Nat, i + d = x.size → Lib.NoAny x.data.toList [0, 47] i →
    Ev (fun k => signetref13_Is.l0 k x (i : Int)) (nameB x) := by
  induction d with
  | zero =>
    intro i hi hno
    refine Ev.step (f := fun _ => some (nameB x)) (fun k => ?_) (Ev.now _)
    have h1 : ¬ ((i : Int) < (x.size : Int)) := by omega
    have hb : hasBad x = false := by
      unfold hasBad
      rw [Lib.indexAny_none (by rw [← Lib.size_eq, ← hi]; exact hno)]
      rfl
    simp only [signetref13_Is.l0]
    rw [if_neg h1]
    unfold nameB checkE
    simp [hb, h0, h56, hd, hdd]
  | succ d ih =>
    intro i hi hno
    have h1 : (i : Int) < (x.size : Int) := by omega
    have h0' : (0 : Int) ≤ (i : Int) := by omega
    obtain ⟨c, hc⟩ := get_some x i (by omega)
    have hbt := bt_nat x i c hc
    by_cases hm : [(0 : UInt8), 47].contains c = true
    · have hbad : hasBad x = true := by
        unfold hasBad
        rw [Lib.indexAny_hit hno hc hm]
        exact decide_eq_true (by omega)
      refine Ev.step (f := fun _ => some (nameB x)) (fun k => ?_) (Ev.now _)
      simp only [signetref13_Is.l0]
      rw [if_pos h1, if_pos h0', hbt, nameB_bad hbad]
      have : c = 0 ∨ c = 47 := by simpa using hm
      rcases this with rfl | rfl
      · rfl
      · rfl
    · have hm' : [(0 : UInt8), 47].contains c = false := by simpa using hm
      have hn := hno.succ hc hm'
      refine Ev.step (fun k => ?_) (ih (i + 1) (by omega) hn)
      have hne : c ≠ 0 ∧ c ≠ 47 := by simpa using hm
      simp only [signetref13_Is.l0]
      rw [if_pos h1, if_pos h0', hbt, if_neg (show ¬ ((c.toNat : Int) = 0) from fun e => hne.1 ((u8_eq (n := 0) (by omega)).1 e)), if_neg (show ¬ ((c.toNat : Int) = 47) from fun e => hne.2 ((u8_eq (n := 47) (by omega)).1 e)), wrap_succ h0' (by omega)]
      rfl

theorem is_ev (x : ByteArray) (hx : x.size ≤ 9223372036854775807) : Ev (fun k => signetref13_Is.f k x) (nameB x) := by
  have hz : x.toList = [] ↔ x.size = 0 := by
    rw [Lib.toList_data, Lib.size_eq]
    exact List.length_eq_zero_iff.symm
  have bad : checkE x ≠ 0 → Ev (fun k => signetref13_Is.j0 k x true) (nameB x) := by
    intro h
    refine Ev.step (f := fun _ => some (nameB x)) (fun k => ?_) (Ev.now _)
    unfold nameB
    simp [signetref13_Is.j0, h]
  by_cases e1 : x.size = 0
  · refine Ev.congr (fun k => ?_) (bad (by unfold checkE; rw [if_pos (hz.2 e1)]; decide))
    simp only [signetref13_Is.f]
    rw [if_pos (by omega)]
  · have e1' : x.toList ≠ [] := fun g => e1 (hz.1 g)
    by_cases e2 : 56 < x.size
    · refine Ev.congr (fun k => ?_) (bad (by unfold checkE; rw [if_neg e1', if_pos e2]; decide))
      simp only [signetref13_Is.f]
      rw [if_neg (by omega), if_pos (by omega)]
    · by_cases e3 : x.toList = [46]
      · refine Ev.congr (fun k => ?_) (bad (by unfold checkE; simp [e3]))
        simp only [signetref13_Is.f]
        rw [if_neg (by omega), if_neg (by omega), if_pos e3]
      · by_cases e4 : x.toList = [46, 46]
        · refine Ev.congr (fun k => ?_) (bad (by unfold checkE; simp [e4]))
          simp only [signetref13_Is.f]
          rw [if_neg (by omega), if_neg (by omega), if_neg e3, e4]
          rfl
        · refine Ev.congr (f := fun k => signetref13_Is.j0 k x false) (fun k => ?_) (Ev.step (fun k => ?_) (is_loop x hx e1' e2 e3 e4 x.size 0 (Nat.zero_add _) (Lib.NoAny.zero _ _)))
          · simp only [signetref13_Is.f]
            rw [if_neg (by omega), if_neg (by omega), if_neg e3, beq_eq_false_iff_ne.2 e4]
          · simp [signetref13_Is.j0]

theorem compareBytes_cB : ∀ a b : List UInt8, Lib.compareBytes a b = cB a b
  | [], [] => rfl
  | [], _ :: _ => rfl
  | _ :: _, [] => rfl
  | x :: a, y :: b => by
    have ih := compareBytes_cB a b
    rw [cB_lex] at ih ⊢
    rw [Lib.compareBytes, lexC, ← ih]
    unfold orC u8C
    split
    · rfl
    · split <;> rfl

/-- The document's Compare. -/
theorem refCompare_loop (a b : ByteArray) (ha : a.size ≤ 9223372036854775806) (d : Nat) : ∀ i : Nat, i + d = a.size → i ≤ b.size →
    Ev (fun k => signetref13_Compare.l0 k a b (i : Int)) (lexC u8C (a.data.toList.drop i) (b.data.toList.drop i)) := by
  have hza := Lib.size_eq a
  have hzb := Lib.size_eq b
  have fin : ∀ i : Nat, i ≤ a.size → i ≤ b.size → (i = a.size ∨ i = b.size) → Ev (fun k => signetref13_Compare.j1 k a b (i : Int) false) (lexC u8C (a.data.toList.drop i) (b.data.toList.drop i)) := by
    intro i h1 h2 h3
    refine Ev.step (f := fun _ => some (lexC u8C (a.data.toList.drop i) (b.data.toList.drop i))) (fun k => ?_) (Ev.now _)
    simp only [signetref13_Compare.j1, Bool.false_eq_true, if_false]
    by_cases hA : i = a.size
    · rw [List.drop_of_length_le (by omega : a.data.toList.length ≤ i)]
      by_cases hB : i = b.size
      · rw [List.drop_of_length_le (by omega : b.data.toList.length ≤ i), if_neg (by omega), if_neg (by omega)]
        rfl
      · obtain ⟨x, hx⟩ := get_some b i (by omega)
        rw [drop_at hx, if_pos (by omega)]
        rfl
    · have hB : i = b.size := h3.resolve_left hA
      obtain ⟨x, hx⟩ := get_some a i (by omega)
      rw [drop_at hx, List.drop_of_length_le (by omega : b.data.toList.length ≤ i), if_neg (by omega), if_pos (by omega)]
      rfl
  induction d with
  | zero =>
    intro i hi hb
    refine Ev.step (fun k => ?_) (fin i (by omega) hb (.inl (by omega)))
    simp only [signetref13_Compare.l0]
    rw [if_neg (by omega)]
  | succ d ih =>
    intro i hi hb
    by_cases hB : i = b.size
    · refine Ev.step (fun k => ?_) (fin i (by omega) hb (.inr hB))
      simp only [signetref13_Compare.l0]
      rw [if_pos (by omega), decide_eq_false (by omega)]
    · obtain ⟨x, hx⟩ := get_some a i (by omega)
      obtain ⟨y, hy⟩ := get_some b i (by omega)
      have e1 := bt_nat a i x hx
      have e2 := bt_nat b i y hy
      have hr := ih (i + 1) (by omega) (by omega)
      rw [drop_at hx, drop_at hy, lexC]
      refine Ev.step (f := fun k => signetref13_Compare.j1 k a b (i : Int) true) (fun k => ?_) ?_
      · simp only [signetref13_Compare.l0]
        rw [if_pos (by omega), decide_eq_true (by omega)]
      · unfold orC
        rw [u8C_nat]
        unfold natC
        by_cases g1 : x.toNat < y.toNat
        · rw [if_pos g1, if_neg (by decide)]
          refine Ev.step (f := fun _ => some _) (fun k => ?_) (Ev.now _)
          simp only [signetref13_Compare.j1, if_true, e1, e2]
          rw [if_pos (by omega), if_pos (by omega), if_pos (by omega), if_pos (by omega)]
        · rw [if_neg g1]
          by_cases g2 : y.toNat < x.toNat
          · rw [if_pos g2, if_neg (by decide)]
            refine Ev.step (f := fun _ => some _) (fun k => ?_) (Ev.now _)
            simp only [signetref13_Compare.j1, if_true, e1, e2]
            rw [if_pos (by omega), if_pos (by omega), if_pos (by omega), if_neg (by omega), if_pos (by omega)]
          · rw [if_neg g2, if_pos rfl]
            refine Ev.step (fun k => ?_) hr
            simp only [signetref13_Compare.j1, if_true, e1, e2]
            rw [if_pos (by omega), if_pos (by omega), if_pos (by omega), if_neg (by omega), if_neg (by omega), wrap_succ (by omega) (by omega)]
            rfl
theorem refCompare_ev (a b : ByteArray) (ha : a.size ≤ 9223372036854775806) : Ev (fun k => signetref13_Compare.f k a b) (cB a.data.toList b.data.toList) := by
  rw [cB_lex]
  exact refCompare_loop a b ha a.size 0 (Nat.zero_add _) (Nat.zero_le _)


theorem check_ev (x : ByteArray) : name_Check.f x = some (checkE x) := by
  unfold name_Check.f checkE
  by_cases h1 : x.toList = []
  · rw [if_pos h1, if_pos h1]
  · rw [if_neg h1, if_neg h1]
    by_cases h2 : 56 < x.size
    · rw [if_pos (by omega), if_pos h2]
    · rw [if_neg (by omega), if_neg h2]
      have hca : strings_ContainsAny.f x (⟨#[0, 47]⟩ : ByteArray) = some (hasBad x) := if_pos ⟨rfl, by omega⟩
      rw [hca]
      simp only [Option.bind_some]
      repeat' split
      all_goals rfl

theorem checks_j0 (s t : ByteArray) (hs : s.size ≤ 140737488351232) (e : Int) (he : e = checkE s) : Ev (fun k => signetlaw13_NameChecks.j0 k s t e) true := by
  have hsym := cB_ordered.sym s.data.toList t.data.toList
  have hr := cB_ordered.rng s.data.toList t.data.toList
  have hw : wrap64 (-cB s.data.toList t.data.toList) = -cB s.data.toList t.data.toList := by unfold wrap64; omega
  have c1 : name_Compare.f s t = some (cB s.data.toList t.data.toList) := by
    unfold name_Compare.f strings_Compare.f
    rw [compareBytes_cB]
    rfl
  have c2 : name_Compare.f t s = some (cB t.data.toList s.data.toList) := by
    unfold name_Compare.f strings_Compare.f
    rw [compareBytes_cB]
    rfl
  have hc := refCompare_ev s t (by omega)
  refine Ev.step (f := fun k => (signetref13_Compare.f k s t).bind fun t115 => (if cB s.data.toList t.data.toList = t115 then ((signetref13_Compare.f k s t).bind fun t117 => (some (cB t.data.toList s.data.toList == (wrap64 (-t117))))) else (some false))) (fun k => ?_) (Ev.bind hc ?_)
  · simp only [signetlaw13_NameChecks.j0, awake_true, Option.bind_some, if_true, check_ev, c1, c2, he]
  · simp only [if_true]
    refine Ev.bind hc ?_
    rw [hw, hsym]
    simp only [beq_self_eq_true]
    exact Ev.now _

theorem NameChecks : signetlaw13_NameChecks.Pure := by
  intro s t hs _
  refine Ev.rounds ?_
  unfold signetlaw13_NameChecks.f
  refine Ev.bind (is_ev s (by omega)) ?_
  unfold nameB
  by_cases h : checkE s = 0
  · simp only [h, decide_true, if_true]
    exact checks_j0 s t hs 0 h.symm
  · simp only [h, decide_false, Bool.false_eq_true, if_false]
    exact checks_j0 s t hs 130 ((checkE_cases s).resolve_left h).symm

end Go.Proofs.Ytgciocgdppaaiaa.Pure
