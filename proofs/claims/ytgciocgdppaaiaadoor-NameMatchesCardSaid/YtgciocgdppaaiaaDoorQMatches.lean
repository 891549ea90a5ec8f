/- The pure law of NameMatches: the greedy walk and the document's rows say what it is to match. -/
import Derived.Test.YtgciocgdppaaiaaDoorQNameMatch
import Derived.Test.YtgciocgdppaaiaaDoorPxSignetlaw13NameMatches
namespace Go.Proofs.YtgciocgdppaaiaaDoor.Pure
open Go.Proofs.YtgciocgdppaaiaaDoor Go.Proofs.YtgciocgdppaaiaaDoor.P Go.RowKit Go.Proofs.YtgciocgdppaaiaaDoorW.PrintWords

open Classical in
theorem nameMatch_ev (P S : ByteArray) (hP : P.size ≤ 4611686018427387904) (hS : S.size ≤ 4611686018427387904) : Ev (fun k => name_Match.f k P S) (decide (Mat P.data.toList S.data.toList)) := by
  unfold name_Match.f
  exact loopN P S hP hS _ (by simp) 0 0 (Nat.zero_le _) (Nat.zero_le _) Iff.rfl

/-- A row says of each beginning of the text whether the pattern's first k signs match it. -/
def RowIs (P S : ByteArray) (A : List Bool) (k m : Nat) : Prop := A.length = m + 1 ∧ ∀ j, j ≤ m → (A.getD j false = true ↔ Mat (P.data.toList.take k) (S.data.toList.take j))

theorem rdOf_b (l : List Bool) (i : Nat) : rdOf false l (i : Int) = l.getD i false := rfl
theorem take_at {l : List UInt8} {i : Nat} {c : UInt8} (h : l[i]? = some c) : l.take (i + 1) = l.take i ++ [c] := by
  rw [List.take_add_one, h]
  rfl
theorem getD_snoc (l : List Bool) (b : Bool) (j : Nat) : (l ++ [b]).getD j false = if j < l.length then l.getD j false else if j = l.length then b else false := by
  rw [List.getD_eq_getElem?_getD, List.getD_eq_getElem?_getD]
  by_cases h : j < l.length
  · rw [if_pos h, List.getElem?_append_left h]
  · rw [if_neg h, List.getElem?_append_right (by omega)]
    by_cases h2 : j = l.length
    · subst h2
      rw [if_pos rfl, Nat.sub_self]
      rfl
    · rw [if_neg h2, List.getElem?_eq_none (by simp; omega)]
      rfl

theorem RowIs.snoc {P S : ByteArray} {A : List Bool} {k m : Nat} {b : Bool} (h : RowIs P S A k m) (hb : b = true ↔ Mat (P.data.toList.take k) (S.data.toList.take (m + 1))) : RowIs P S (A ++ [b]) k (m + 1) := by
  obtain ⟨h1, h2⟩ := h
  refine ⟨by simp [h1], fun j hj => ?_⟩
  rw [getD_snoc, h1]
  by_cases hlt : j < m + 1
  · rw [if_pos hlt]
    exact h2 j (by omega)
  · have : j = m + 1 := by omega
    subst this
    rw [if_neg hlt, if_pos rfl]
    exact hb

theorem Mat_snoc_nil (p : List UInt8) (c : UInt8) : Mat (p ++ [c]) [] ↔ c = 42 ∧ Mat p [] := by
  rw [Mat_append]
  constructor
  · rintro ⟨s1, s2, h, h1, h2⟩
    obtain ⟨rfl, rfl⟩ := List.append_eq_nil_iff.1 h.symm
    refine ⟨?_, h1⟩
    rcases (Mat_one c []).1 h2 with h3 | ⟨d, h3, _⟩
    · exact h3
    · cases h3
  · rintro ⟨rfl, h1⟩
    exact ⟨[], [], rfl, h1, (Mat_one 42 []).2 (.inl rfl)⟩

/-- One row out of the last one. -/
theorem rm_l2 (P S : ByteArray) (hP : P.size ≤ 140737488351232) (hS : S.size ≤ 140737488351232) (A : List Bool) (k : Nat) (c : UInt8) (hc : P.data.toList[k]? = some c) (hA : RowIs P S A k S.size) (r : Bool)
    (hnext : ∀ B, RowIs P S B (k + 1) S.size → Ev (fun q => signetref13_Match.l1 q P S B ((k + 1 : Nat) : Int)) r) (d : Nat) : ∀ (i : Nat) (B : List Bool), i + d = S.size → RowIs P S B (k + 1) i →
    Ev (fun q => signetref13_Match.l2 q P S A (k : Int) B (i : Int)) r := by
  have hk : k < P.size := by rw [Lib.size_eq]; exact (List.getElem?_eq_some_iff.1 hc).1
  have hbc := bt_nat P k c hc
  have h42 : (c.toNat : Int) = 42 ↔ c = 42 := ⟨fun h => UInt8.toNat_inj.1 (by show c.toNat = 42; omega), fun h => by rw [h]; rfl⟩
  have h63 : (c.toNat : Int) = 63 ↔ c = 63 := ⟨fun h => UInt8.toNat_inj.1 (by show c.toNat = 63; omega), fun h => by rw [h]; rfl⟩
  have hwk : Aside0 (wrap64 ((k : Int) + 1) = ((k + 1 : Nat) : Int)) := ⟨wrap_succ (by omega) (by omega)⟩
  induction d with
  | zero =>
    intro i B hi hB
    obtain rfl : i = S.size := by omega
    refine Ev.step (fun q => ?_) (hnext B hB)
    simp only [signetref13_Match.l2]
    rw [if_neg (by omega), hwk.out]
  | succ d ih =>
    intro i B hi hB
    obtain ⟨e, he⟩ := get_some S i (by omega)
    have hbe := bt_nat S i e he
    have hwi : Aside0 (wrap64 ((i : Int) + 1) = ((i + 1 : Nat) : Int)) := ⟨wrap_succ (by omega) (by omega)⟩
    have hAl := hA.1
    have hBl := hB.1
    have ts := take_at he
    have tp := take_at hc
    by_cases g : c = 42
    · subst g
      have key : (A.getD (i + 1) false = true ∨ B.getD i false = true) ↔ Mat (P.data.toList.take (k + 1)) (S.data.toList.take (i + 1)) := by
        rw [tp, ts, Mat_snoc_star, ← ts, ← tp, hA.2 (i + 1) (by omega), hB.2 i (Nat.le_refl _)]
      by_cases h1 : A.getD (i + 1) false = true
      · refine Ev.step (fun q => ?_) (ih (i + 1) (B ++ [true]) (by omega) (hB.snoc ⟨fun _ => key.1 (.inl h1), fun _ => rfl⟩))
        simp only [signetref13_Match.l2]
        rw [if_pos (by omega), if_pos (by omega), if_pos (by omega), hbc, if_pos (h42.2 rfl), hwi.out, if_pos (by omega), if_pos (by omega), rdOf_b, if_pos h1, if_pos (by omega)]
      · refine Ev.step (fun q => ?_) (ih (i + 1) (B ++ [B.getD i false]) (by omega) (hB.snoc ⟨fun h => key.1 (.inr h), fun h => (key.2 h).resolve_left h1⟩))
        simp only [signetref13_Match.l2]
        rw [if_pos (by omega), if_pos (by omega), if_pos (by omega), hbc, if_pos (h42.2 rfl), hwi.out, if_pos (by omega), if_pos (by omega), rdOf_b, if_neg h1, if_pos (by omega), if_pos (by omega), if_pos (by omega), rdOf_b]
    · have key : (A.getD i false = true ∧ (c = 63 ∨ c = e)) ↔ Mat (P.data.toList.take (k + 1)) (S.data.toList.take (i + 1)) := by
        rw [tp, ts, Mat_snoc_sign g, hA.2 i (by omega)]
      by_cases h1 : A.getD i false = true
      · by_cases h2 : c = 63
        · refine Ev.step (fun q => ?_) (ih (i + 1) (B ++ [true]) (by omega) (hB.snoc ⟨fun _ => key.1 ⟨h1, .inl h2⟩, fun _ => rfl⟩))
          simp only [signetref13_Match.l2]
          rw [if_pos (by omega), if_pos (by omega), if_pos (by omega), hbc, if_neg (fun x => g (h42.1 x)), if_pos (by omega), if_pos (by omega), rdOf_b, if_pos h1, if_pos (h63.2 h2), if_pos (by omega), hwi.out]
        · have hbb : ((c.toNat : Int) == (e.toNat : Int)) = decide (c = e) := by
            rw [Bool.eq_iff_iff, beq_iff_eq, decide_eq_true_eq]
            exact ⟨fun x => UInt8.toNat_inj.1 (by omega), fun x => by rw [x]⟩
          refine Ev.step (fun q => ?_) (ih (i + 1) (B ++ [decide (c = e)]) (by omega) (hB.snoc ⟨fun h => key.1 ⟨h1, .inr (of_decide_eq_true h)⟩, fun h => decide_eq_true ((key.2 h).2.resolve_left h2)⟩))
          simp only [signetref13_Match.l2]
          rw [if_pos (by omega), if_pos (by omega), if_pos (by omega), hbc, if_neg (fun x => g (h42.1 x)), if_pos (by omega), if_pos (by omega), rdOf_b, if_pos h1, if_neg (fun x => h2 (h63.1 x)), if_pos (by omega), hwi.out, hbe, hbb]
      · refine Ev.step (fun q => ?_) (ih (i + 1) (B ++ [false]) (by omega) (hB.snoc ⟨fun h => (by cases h), fun h => absurd (key.2 h).1 h1⟩))
        simp only [signetref13_Match.l2]
        rw [if_pos (by omega), if_pos (by omega), if_pos (by omega), hbc, if_neg (fun x => g (h42.1 x)), if_pos (by omega), if_pos (by omega), rdOf_b, if_neg h1, if_pos (by omega), hwi.out]

/-- All rows. -/
theorem rm_l1 (P S : ByteArray) (hP : P.size ≤ 140737488351232) (hS : S.size ≤ 140737488351232) (r : Bool) (hr : r = true ↔ Mat P.data.toList S.data.toList) (d : Nat) : ∀ (k : Nat) (A : List Bool), k + d = P.size → RowIs P S A k S.size →
    Ev (fun q => signetref13_Match.l1 q P S A (k : Int)) r := by
  induction d with
  | zero =>
    intro k A hk hA
    have hAl := hA.1
    have h := hA.2 S.size (Nat.le_refl _)
    rw [List.take_of_length_le (by rw [← Lib.size_eq]; omega), List.take_of_length_le (by rw [← Lib.size_eq]; omega), ← hr] at h
    have hb : A.getD S.size false = r := by rw [Bool.eq_iff_iff]; exact h
    refine Ev.step (f := fun _ => some r) (fun q => ?_) (Ev.now _)
    simp only [signetref13_Match.l1]
    rw [if_neg (by omega), if_pos (by omega), if_pos (by omega), rdOf_b, hb]
  | succ d ih =>
    intro k A hk hA
    obtain ⟨c, hc⟩ := get_some P k (by omega)
    have hbc := bt_nat P k c hc
    have h42 : (c.toNat : Int) = 42 ↔ c = 42 := ⟨fun h => UInt8.toNat_inj.1 (by show c.toNat = 42; omega), fun h => by rw [h]; rfl⟩
    have hAl := hA.1
    have start : ∀ b : Bool, (b = true ↔ Mat (P.data.toList.take (k + 1)) (S.data.toList.take 0)) → Ev (fun q => signetref13_Match.j2 q P S A (k : Int) [b]) r := by
      intro b hb
      refine Ev.step (fun q => ?_) (rm_l2 P S hP hS A k c hc hA r (fun B hB => ih (k + 1) B (by omega) hB) S.size 0 [b] (Nat.zero_add _) ⟨rfl, fun j hj => ?_⟩)
      · simp only [signetref13_Match.j2]
        rfl
      · obtain rfl : j = 0 := by omega
        exact hb
    have h0 := hA.2 0 (Nat.zero_le _)
    have hz : Mat (P.data.toList.take (k + 1)) (S.data.toList.take 0) ↔ c = 42 ∧ Mat (P.data.toList.take k) (S.data.toList.take 0) := by
      rw [take_at hc, List.take_zero, Mat_snoc_nil]
    by_cases g : c = 42
    · refine Ev.step (fun q => ?_) (start (A.getD 0 false) (by rw [hz, ← h0]; exact ⟨fun h => ⟨g, h⟩, fun h => h.2⟩))
      simp only [signetref13_Match.l1]
      rw [if_pos (by omega), if_pos (by omega), hbc, if_pos (h42.2 g), if_pos (by omega)]
      rfl
    · refine Ev.step (fun q => ?_) (start false (by rw [hz]; exact ⟨fun h => (by cases h), fun h => absurd h.1 g⟩))
      simp only [signetref13_Match.l1]
      rw [if_pos (by omega), if_pos (by omega), hbc, if_neg (fun x => g (h42.1 x))]

/-- The first row. -/
theorem rm_l0 (P S : ByteArray) (hS : S.size ≤ 140737488351232) (r : Bool) (H : ∀ A, RowIs P S A 0 S.size → Ev (fun q => signetref13_Match.l1 q P S A 0) r) (d : Nat) : ∀ (i : Nat) (A : List Bool), i + d = S.size → RowIs P S A 0 i →
    Ev (fun q => signetref13_Match.l0 q P S A (i : Int)) r := by
  induction d with
  | zero =>
    intro i A hi hA
    obtain rfl : i = S.size := by omega
    refine Ev.step (fun q => ?_) (H A hA)
    simp only [signetref13_Match.l0]
    rw [if_neg (by omega)]
  | succ d ih =>
    intro i A hi hA
    have hAl := hA.1
    obtain ⟨e, he⟩ := get_some S i (by omega)
    refine Ev.step (fun q => ?_) (ih (i + 1) (A ++ [false]) (by omega) (hA.snoc ⟨fun h => (by cases h), fun h => ?_⟩))
    · simp only [signetref13_Match.l0]
      rw [if_pos (by omega), if_pos (by omega), wrap_succ (by omega) (by omega)]
      rfl
    · rw [List.take_zero, Mat_nil_pat, take_at he] at h
      simp at h

theorem refMatch_ev (P S : ByteArray) (hP : P.size ≤ 140737488351232) (hS : S.size ≤ 140737488351232) (r : Bool) (hr : r = true ↔ Mat P.data.toList S.data.toList) : Ev (fun k => signetref13_Match.f k P S) r := by
  refine rm_l0 P S hS r (fun A hA => rm_l1 P S hP hS r hr P.size 0 A (Nat.zero_add _) hA) S.size 0 [true] (Nat.zero_add _) ⟨rfl, fun j hj => ?_⟩
  obtain rfl : j = 0 := by omega
  rw [List.take_zero, List.take_zero, Mat_nil_pat]
  exact ⟨fun _ => rfl, fun _ => rfl⟩

theorem Mat_refl : ∀ s : List UInt8, Mat s s
  | [] => rfl
  | c :: s => ⟨[c], s, rfl, .inr ⟨c, rfl, .inr rfl⟩, Mat_refl s⟩

open Classical in
theorem NameMatches (P S : ByteArray) (hP : P.size ≤ 140737488351232) (hS : S.size ≤ 140737488351232) : ∃ k, signetlaw13_NameMatches.f k P S = some true := by
  refine Ev.rounds ?_
  unfold signetlaw13_NameMatches.f
  simp only [awake_true, Option.bind_some, if_true]
  refine Ev.bind (nameMatch_ev P S (by omega) (by omega)) (Ev.bind (refMatch_ev P S hP hS (decide (Mat P.data.toList S.data.toList)) decide_eq_true_iff) ?_)
  simp only [beq_self_eq_true, if_true]
  have h1 : Mat (⟨#[42]⟩ : ByteArray).data.toList S.data.toList := (Mat_one 42 _).2 (.inl rfl)
  have h2 : Mat (S ++ (⟨#[42]⟩ : ByteArray)).data.toList S.data.toList := by
    rw [show (S ++ (⟨#[42]⟩ : ByteArray)).data.toList = S.data.toList ++ [42] from by rw [ByteArray.data_append, Array.toList_append]]
    exact (Mat_append _ _ _).2 ⟨S.data.toList, [], by simp, Mat_refl _, (Mat_one 42 _).2 (.inl rfl)⟩
  have e1 := nameMatch_ev (⟨#[42]⟩ : ByteArray) S (by decide) (by omega)
  have e2 := nameMatch_ev (S ++ (⟨#[42]⟩ : ByteArray)) S (by rw [ByteArray.size_append]; show S.size + 1 ≤ _; omega) (by omega)
  rw [decide_eq_true h1] at e1
  rw [decide_eq_true h2] at e2
  refine Ev.bind e1 ?_
  simp only [if_true]
  have hsz : S.size + 1 ≤ 9223372036854775807 := by omega
  simp only [if_pos hsz]
  exact Ev.bind e2 (Ev.now _)

end Go.Proofs.YtgciocgdppaaiaaDoor.Pure
