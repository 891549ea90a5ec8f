/- The pure law of PathMatches: Match is the document's; its table of beginnings. -/
import Derived.Test.YtckpnmghbjimiaaDoorQNameMatch
import Derived.Test.YtckpnmghbjimiaaDoorQParse
import Derived.Test.YtckpnmghbjimiaaDoorPxSignetref18Matches
import Derived.Test.YtckpnmghbjimiaaDoorQPMatch
import Derived.Test.YtckpnmghbjimiaaDoorPxSignetlaw18PathMatches

namespace Go.Proofs.YtckpnmghbjimiaaDoor.Pure
open Go.Proofs.YtckpnmghbjimiaaDoor Go.Proofs.YtckpnmghbjimiaaDoor.P Go.RowKit Go.Proofs.YtckpnmghbjimiaaDoorW.PrintWords

theorem rdB (l : List Bool) (i : Nat) : rdOf false l (i : Int) = l.getD i false := rfl

section
variable (P S : ByteArray) (hP : P.size ≤ 4611686018427387904) (r : Bool) (A : List Bool) (k i : Nat) (hA : A.length = P.size + 1) (c : UInt8) (hc : P.data.toList[i]? = some c)
include hP hA hc

theorem j4_true (N : List Bool) (hN : N.length = P.size + 1) (h42 : c ≠ 42) (H : Ev (fun q => signetref18_matches.l2 q P S A (k : Int) (N.set (i + 1) true) ((i + 1 : Nat) : Int)) r) :
    Ev (fun q => signetref18_matches.j4 q P S A (k : Int) N (i : Int) true) r := by
  have _u1 := hP
  have _u2 := hA
  have _u3 := hc
  have hpl := (List.getElem?_eq_some_iff.1 hc).1
  rw [← Lib.size_eq] at hpl
  refine Ev.step (fun q => ?_) H
  simp only [signetref18_matches.j4, if_true]
  rw [wrap_succ (by omega) (by omega), if_pos (by omega), if_pos (by omega), Option.bind_some, if_pos (by omega), if_pos (by omega), bt_nat P i c hc, if_neg (show ¬ ((c.toNat : Int) = 42) from fun e => h42 ((u8_eq (n := 42) (by omega)).1 e))]
  rfl

theorem j4_false (N : List Bool) (hN : N.length = P.size + 1) (H : Ev (fun q => signetref18_matches.l2 q P S A (k : Int) (if c = 42 ∧ (A.getD i false = true ∨ A.getD (i + 1) false = true) then N.set (i + 1) true else N) ((i + 1 : Nat) : Int)) r) :
    Ev (fun q => signetref18_matches.j4 q P S A (k : Int) N (i : Int) false) r := by
  have _u1 := hP
  have _u2 := hA
  have _u3 := hc
  have hpl := (List.getElem?_eq_some_iff.1 hc).1
  rw [← Lib.size_eq] at hpl
  have e1 : ((i : Int) + 1) = ((i + 1 : Nat) : Int) := by omega
  refine Ev.step (fun q => ?_) H
  simp only [signetref18_matches.j4, Bool.false_eq_true, if_false]
  rw [wrap_succ (by omega) (by omega), if_pos (by omega), if_pos (by omega), bt_nat P i c hc, e1, rdB, rdB]
  by_cases h42 : c = 42
  · subst h42
    rw [if_pos (by rfl), if_pos (by omega)]
    by_cases h1 : A.getD i false = true
    · rw [if_pos h1, if_pos (by omega), if_pos (by omega), if_pos ⟨rfl, .inl h1⟩]
      rfl
    · rw [if_neg h1, if_pos (by omega), if_pos (by omega)]
      by_cases h2 : A.getD (i + 1) false = true
      · rw [if_pos h2, if_pos (by omega), if_pos ⟨rfl, .inr h2⟩]
        rfl
      · rw [if_neg h2, if_neg (by rintro ⟨_, h | h⟩; exact h1 h; exact h2 h)]
  · rw [if_neg (show ¬ ((c.toNat : Int) = 42) from fun e => h42 ((u8_eq (n := 42) (by omega)).1 e)), if_neg (fun h => h42 h.1)]

theorem l2_step (N : List Bool) (hN : N.length = P.size + 1) (d : UInt8) (hd : S.data.toList[k]? = some d)
    (H : Ev (fun q => signetref18_matches.l2 q P S A (k : Int) (if (c = 42 ∧ (A.getD i false = true ∨ A.getD (i + 1) false = true)) ∨ (c ≠ 42 ∧ A.getD i false = true ∧ (c = 63 ∨ c = d)) then N.set (i + 1) true else N) ((i + 1 : Nat) : Int)) r) :
    Ev (fun q => signetref18_matches.l2 q P S A (k : Int) N (i : Int)) r := by
  have _u1 := hP
  have _u2 := hA
  have _u3 := hc
  have hpl := (List.getElem?_eq_some_iff.1 hc).1
  have hkl := (List.getElem?_eq_some_iff.1 hd).1
  rw [← Lib.size_eq] at hpl hkl
  -- the three ways into j4
  have hgo : ∀ b : Bool, (∀ q, signetref18_matches.l2 (q + 1) P S A (k : Int) N (i : Int) = signetref18_matches.j4 q P S A (k : Int) N (i : Int) b) → (b = true ↔ (c ≠ 42 ∧ A.getD i false = true ∧ (c = 63 ∨ c = d))) → Ev (fun q => signetref18_matches.l2 q P S A (k : Int) N (i : Int)) r := by
    intro b hq hb
    refine Ev.step hq ?_
    cases b with
    | true =>
      have h := hb.1 rfl
      rw [if_pos (.inr h)] at H
      exact j4_true P S hP r A k i hA c hc N hN h.1 H
    | false =>
      have h : ¬ (c ≠ 42 ∧ A.getD i false = true ∧ (c = 63 ∨ c = d)) := fun g => by cases hb.2 g
      refine j4_false P S hP r A k i hA c hc N hN ?_
      have e : (if (c = 42 ∧ (A.getD i false = true ∨ A.getD (i + 1) false = true)) ∨ (c ≠ 42 ∧ A.getD i false = true ∧ (c = 63 ∨ c = d)) then N.set (i + 1) true else N) = (if c = 42 ∧ (A.getD i false = true ∨ A.getD (i + 1) false = true) then N.set (i + 1) true else N) := by
        by_cases g : c = 42 ∧ (A.getD i false = true ∨ A.getD (i + 1) false = true)
        · rw [if_pos (.inl g), if_pos g]
        · rw [if_neg (by rintro (g2 | g2); exact g g2; exact h g2), if_neg g]
      rw [e] at H
      exact H
  by_cases h1 : A.getD i false = true
  · by_cases h63 : c = 63
    · refine hgo true (fun q => ?_) ⟨fun _ => ⟨by rw [h63]; decide, h1, .inl h63⟩, fun _ => rfl⟩
      simp only [signetref18_matches.l2]
      rw [if_pos (by omega), if_pos (by omega), if_pos (by omega), rdB, if_pos h1, bt_nat P i c hc, if_pos (by rw [h63]; rfl)]
    · by_cases hcd : c = d
      · refine hgo ((c.toNat : Int) != 42) (fun q => ?_) ?_
        · simp only [signetref18_matches.l2]
          rw [if_pos (by omega), if_pos (by omega), if_pos (by omega), rdB, if_pos h1, bt_nat P i c hc, if_neg (show ¬ ((c.toNat : Int) = 63) from fun e => h63 ((u8_eq (n := 63) (by omega)).1 e)), if_pos (by omega), if_pos (by omega), bt_nat S k d hd, if_pos (by rw [hcd])]
        · rw [bne_iff_ne]
          constructor
          · intro g
            exact ⟨fun e => g ((u8_eq (n := 42) (by omega)).2 e), h1, .inr hcd⟩
          · rintro ⟨g, _⟩ e
            exact g ((u8_eq (n := 42) (by omega)).1 e)
      · refine hgo false (fun q => ?_) ⟨fun g => (by cases g), fun g => (by rcases g.2.2 with g | g; exact absurd g h63; exact absurd g hcd)⟩
        simp only [signetref18_matches.l2]
        rw [if_pos (by omega), if_pos (by omega), if_pos (by omega), rdB, if_pos h1, bt_nat P i c hc, if_neg (show ¬ ((c.toNat : Int) = 63) from fun e => h63 ((u8_eq (n := 63) (by omega)).1 e)), if_pos (by omega), if_pos (by omega), bt_nat S k d hd, if_neg (fun e => hcd (UInt8.toNat_inj.1 (by omega)))]
  · refine hgo false (fun q => ?_) ⟨fun g => (by cases g), fun g => absurd g.2.1 h1⟩
    simp only [signetref18_matches.l2]
    rw [if_pos (by omega), if_pos (by omega), if_pos (by omega), rdB, if_neg h1]

theorem l3_step (H : Ev (fun q => signetref18_matches.l3 q P S (k : Int) (if A.getD i false = true ∧ c = 42 then A.set (i + 1) true else A) ((i + 1 : Nat) : Int)) r) :
    Ev (fun q => signetref18_matches.l3 q P S (k : Int) A (i : Int)) r := by
  have _u1 := hP
  have _u2 := hA
  have _u3 := hc
  have hpl := (List.getElem?_eq_some_iff.1 hc).1
  rw [← Lib.size_eq] at hpl
  refine Ev.step (fun q => ?_) H
  simp only [signetref18_matches.l3]
  rw [wrap_succ (by omega) (by omega), if_pos (by omega), if_pos (by omega), if_pos (by omega), rdB, bt_nat P i c hc]
  by_cases h1 : A.getD i false = true
  · rw [if_pos h1]
    by_cases h42 : c = 42
    · rw [if_pos (by rw [h42]; rfl), if_pos (by omega), if_pos (by omega), if_pos ⟨h1, h42⟩]
      rfl
    · rw [if_neg (show ¬ ((c.toNat : Int) = 42) from fun e => h42 ((u8_eq (n := 42) (by omega)).1 e)), if_neg (fun g => h42 g.2)]
      rfl
  · rw [if_neg h1, if_neg (fun g => h1 g.1)]
    rfl
end

end Go.Proofs.YtckpnmghbjimiaaDoor.Pure

namespace Go.Proofs.YtckpnmghbjimiaaDoor.Pure
open Go.Proofs.YtckpnmghbjimiaaDoor Go.Proofs.YtckpnmghbjimiaaDoor.P Go.RowKit Go.Proofs.YtckpnmghbjimiaaDoorW.PrintWords

theorem getD_set (l : List Bool) (m j : Nat) (hm : m < l.length) : (l.set m true).getD j false = true ↔ j = m ∨ l.getD j false = true := by
  rw [List.getD_eq_getElem?_getD, List.getD_eq_getElem?_getD, List.getElem?_set]
  by_cases h : m = j
  · subst h
    simp [hm]
  · rw [if_neg h]
    constructor
    · exact fun g => .inr g
    · rintro (g | g)
      · exact absurd g.symm h
      · exact g

theorem take_u8 {l : List UInt8} {i : Nat} {c : UInt8} (h : l[i]? = some c) : l.take (i + 1) = l.take i ++ [c] := by
  obtain ⟨hl, rfl⟩ := List.getElem?_eq_some_iff.1 h
  exact List.take_succ_eq_append_getElem hl

section
variable (P S : ByteArray) (hP : P.size ≤ 281474976710000) (hS : S.size ≤ 4611686018427387904)

/-- A row of the table. -/
def RowOf (A : List Bool) (k : Nat) : Prop := A.length = P.size + 1 ∧ ∀ j, j ≤ P.size → (A.getD j false = true ↔ Mat (P.data.toList.take j) (S.data.toList.take k))
/-- What the first loop writes behind sign j. -/
def XOf (A : List Bool) (d : UInt8) (j : Nat) : Prop := ∃ c, P.data.toList[j]? = some c ∧ ((c = 42 ∧ (A.getD j false = true ∨ A.getD (j + 1) false = true)) ∨ (c ≠ 42 ∧ A.getD j false = true ∧ (c = 63 ∨ c = d)))

include hP in
theorem l3_loop (A : List Bool) (k : Nat) (d : UInt8) (hd : S.data.toList[k]? = some d) (hA : RowOf P S A k) (r : Bool) (hnext : ∀ N, RowOf P S N (k + 1) → Ev (fun q => signetref18_matches.l1 q P S N ((k + 1 : Nat) : Int)) r) (hk2 : k < 9223372036854775806) (e : Nat) :
    ∀ (i : Nat) (N : List Bool), i + e = P.size → N.length = P.size + 1 → (∀ j, j ≤ P.size → (N.getD j false = true ↔ if j ≤ i then Mat (P.data.toList.take j) (S.data.toList.take (k + 1)) else XOf P A d (j - 1))) →
    Ev (fun q => signetref18_matches.l3 q P S (k : Int) N (i : Int)) r := by
  induction e with
  | zero =>
    intro i N hi hN hinv
    refine Ev.step (fun q => ?_) (hnext N ⟨hN, fun j hj => by rw [hinv j hj, if_pos (by omega)]⟩)
    simp only [signetref18_matches.l3]
    rw [if_neg (by omega), wrap_succ (by omega) (by omega)]
    rfl
  | succ e ih =>
    intro i N hi hN hinv
    obtain ⟨c, hc⟩ := get_some P i (by omega)
    refine l3_step P S (by omega) r N k i hN c hc (ih (i + 1) _ (by omega) (by split <;> simp [hN]) ?_)
    intro j hj
    have hset : ((if N.getD i false = true ∧ c = 42 then N.set (i + 1) true else N).getD j false = true) ↔ ((j = i + 1 ∧ N.getD i false = true ∧ c = 42) ∨ N.getD j false = true) := by
      by_cases g : N.getD i false = true ∧ c = 42
      · rw [if_pos g, getD_set N (i + 1) j (by omega)]
        constructor
        · rintro (h | h)
          · exact .inl ⟨h, g⟩
          · exact .inr h
        · rintro (h | h)
          · exact .inl h.1
          · exact .inr h
      · rw [if_neg g]
        constructor
        · exact fun h => .inr h
        · rintro (h | h)
          · exact absurd h.2 g
          · exact h
    rw [hset, hinv j hj, hinv i (by omega), if_pos (Nat.le_refl i)]
    by_cases hji : j ≤ i
    · rw [if_pos hji, if_pos (by omega)]
      constructor
      · rintro (h | h)
        · omega
        · exact h
      · exact fun h => .inr h
    · rw [if_neg hji]
      by_cases hj1 : j = i + 1
      · subst hj1
        rw [if_pos (Nat.le_refl _), take_u8 hc, take_u8 hd, show i + 1 - 1 = i from rfl]
        have hAi := hA.2 i (by omega)
        have hAi1 := hA.2 (i + 1) (by omega)
        rw [take_u8 hc] at hAi1
        have hX : XOf P A d i ↔ ((c = 42 ∧ (A.getD i false = true ∨ A.getD (i + 1) false = true)) ∨ (c ≠ 42 ∧ A.getD i false = true ∧ (c = 63 ∨ c = d))) := by
          unfold XOf
          rw [hc]
          constructor
          · rintro ⟨c', he, h⟩; cases he; exact h
          · exact fun h => ⟨c, rfl, h⟩
        rw [hX, hAi, hAi1]
        by_cases h42 : c = 42
        · subst h42
          rw [Mat_snoc_star]
          constructor
          · rintro (h | h)
            · exact .inl h.2.1
            · rcases h with h | h
              · rcases h.2 with h | h
                · exact .inr ((Mat_append _ _ _).2 ⟨_, [], (List.append_nil _).symm, h, (Mat_one 42 []).2 (.inl rfl)⟩)
                · exact .inr h
              · exact absurd rfl h.1
          · rintro (h | h)
            · exact .inl ⟨rfl, h, rfl⟩
            · exact .inr (.inl ⟨rfl, .inr h⟩)
        · rw [Mat_snoc_sign h42]
          constructor
          · rintro (h | h)
            · exact absurd h.2.2 h42
            · rcases h with h | h
              · exact absurd h.1 h42
              · exact h.2
          · exact fun h => .inr (.inr ⟨h42, h⟩)
      · rw [if_neg (by omega)]
        constructor
        · rintro (h | h)
          · exact absurd h.1 hj1
          · exact h
        · exact fun h => .inr h

include hP in
theorem l2_loop (A : List Bool) (k : Nat) (d : UInt8) (hd : S.data.toList[k]? = some d) (hA : RowOf P S A k) (r : Bool) (hnext : ∀ N, RowOf P S N (k + 1) → Ev (fun q => signetref18_matches.l1 q P S N ((k + 1 : Nat) : Int)) r) (hk2 : k < 9223372036854775806) (e : Nat) :
    ∀ (i : Nat) (N : List Bool), i + e = P.size → N.length = P.size + 1 → (∀ j, j ≤ P.size → (N.getD j false = true ↔ (1 ≤ j ∧ j ≤ i ∧ XOf P A d (j - 1)))) →
    Ev (fun q => signetref18_matches.l2 q P S A (k : Int) N (i : Int)) r := by
  induction e with
  | zero =>
    intro i N hi hN hinv
    refine Ev.step (fun q => ?_) (l3_loop P S hP A k d hd hA r hnext hk2 P.size 0 N (Nat.zero_add _) hN ?_)
    · simp only [signetref18_matches.l2]
      rw [if_neg (by omega)]
      rfl
    · intro j hj
      rw [hinv j hj]
      by_cases h0 : j ≤ 0
      · obtain rfl : j = 0 := by omega
        rw [if_pos (Nat.le_refl 0), take_u8 hd]
        constructor
        · intro h; omega
        · intro h
          simp [Mat] at h
      · rw [if_neg h0]
        constructor
        · exact fun h => h.2.2
        · exact fun h => ⟨by omega, by omega, h⟩
  | succ e ih =>
    intro i N hi hN hinv
    obtain ⟨c, hc⟩ := get_some P i (by omega)
    refine l2_step P S (by omega) r A k i hA.1 c hc N hN d hd (ih (i + 1) _ (by omega) (by split <;> simp [hN]) ?_)
    intro j hj
    have hX : XOf P A d i ↔ ((c = 42 ∧ (A.getD i false = true ∨ A.getD (i + 1) false = true)) ∨ (c ≠ 42 ∧ A.getD i false = true ∧ (c = 63 ∨ c = d))) := by
      unfold XOf
      rw [hc]
      constructor
      · rintro ⟨c', he, h⟩; cases he; exact h
      · exact fun h => ⟨c, rfl, h⟩
    by_cases g : XOf P A d i
    · rw [if_pos (hX.1 g), getD_set N (i + 1) j (by omega), hinv j hj]
      constructor
      · rintro (h | h)
        · subst h; exact ⟨by omega, Nat.le_refl _, g⟩
        · exact ⟨h.1, by omega, h.2.2⟩
      · rintro ⟨h1, h2, h3⟩
        by_cases hj1 : j = i + 1
        · exact .inl hj1
        · exact .inr ⟨h1, by omega, h3⟩
    · rw [if_neg (fun h => g (hX.2 h)), hinv j hj]
      constructor
      · exact fun h => ⟨h.1, by omega, h.2.2⟩
      · rintro ⟨h1, h2, h3⟩
        refine ⟨h1, ?_, h3⟩
        by_cases hj1 : j = i + 1
        · subst hj1; exact absurd h3 g
        · omega


include hP hS in
theorem l1_loop (r : Bool) (hr : r = true ↔ Mat P.data.toList S.data.toList) (e : Nat) : ∀ (k : Nat) (A : List Bool), k + e = S.size → RowOf P S A k → Ev (fun q => signetref18_matches.l1 q P S A (k : Int)) r := by
  have hzP := Lib.size_eq P
  have hzS := Lib.size_eq S
  induction e with
  | zero =>
    intro k A hk hA
    have hv : A.getD P.size false = r := by
      rw [Bool.eq_iff_iff, hA.2 P.size (Nat.le_refl _), hr, List.take_of_length_le (by omega), List.take_of_length_le (by omega)]
    refine Ev.step (f := fun _ => some r) (fun q => ?_) (Ev.now _)
    have hl := hA.1
    simp only [signetref18_matches.l1]
    rw [if_neg (by omega), if_pos (by omega), if_pos (by omega), rdB, hv]
  | succ e ih =>
    intro k A hk hA
    obtain ⟨d, hd⟩ := get_some S k (by omega)
    have hw : wrap64 ((P.size : Int) + 1) = ((P.size + 1 : Nat) : Int) := by unfold wrap64; omega
    refine Ev.step (fun q => ?_) (l2_loop P S hP A k d hd hA r (fun N hN => ih (k + 1) N (by omega) hN) (by omega) P.size 0 (List.replicate (P.size + 1) false) (Nat.zero_add _) (by simp) ?_)
    · simp only [signetref18_matches.l1]
      rw [if_pos (by omega), hw, if_pos (by omega), if_pos (by omega)]
      rfl
    · intro j hj
      rw [List.getD_eq_getElem?_getD, List.getElem?_replicate, if_pos (by omega)]
      simp
      intro h1 h2
      omega

theorem mat_nil_take (j : Nat) (hj : j ≤ P.size) : Mat (P.data.toList.take j) (S.data.toList.take 0) ↔ ∀ m, m < j → P.data.toList[m]? = some 42 := by
  rw [List.take_zero, Mat_empty]
  have hz := Lib.size_eq P
  constructor
  · intro h m hm
    have hl : m < P.data.toList.length := by omega
    rw [List.getElem?_eq_getElem hl]
    congr 1
    refine h _ ?_
    rw [List.mem_take_iff_getElem]
    exact ⟨m, by omega, rfl⟩
  · intro h c hc
    rw [List.mem_take_iff_getElem] at hc
    obtain ⟨m, hm, rfl⟩ := hc
    have := h m (by omega)
    rw [List.getElem?_eq_getElem (by omega)] at this
    exact Option.some.inj this

include hP hS in
theorem l0_loop (r : Bool) (hr : r = true ↔ Mat P.data.toList S.data.toList) (e : Nat) : ∀ (i : Nat) (A : List Bool), i + e = P.size → A.length = P.size + 1 → (∀ m, m < i → P.data.toList[m]? = some 42) → (∀ j, j ≤ P.size → (A.getD j false = true ↔ j ≤ i)) →
    Ev (fun q => signetref18_matches.l0 q P S A (i : Int)) r := by
  have hdone : ∀ (i : Nat) (A : List Bool), i ≤ P.size → A.length = P.size + 1 → (∀ m, m < i → P.data.toList[m]? = some 42) → (∀ j, j ≤ P.size → (A.getD j false = true ↔ j ≤ i)) → (i = P.size ∨ P.data.toList[i]? ≠ some 42) → Ev (fun q => signetref18_matches.j1 q P S A) r := by
    intro i A hi hl hs hA hend
    refine Ev.step (fun q => ?_) (l1_loop P S hP hS r hr S.size 0 A (Nat.zero_add _) ⟨hl, fun j hj => ?_⟩)
    · simp only [signetref18_matches.j1]
      rfl
    · rw [hA j hj, mat_nil_take P S j hj]
      constructor
      · exact fun h m hm => hs m (by omega)
      · intro h
        refine Classical.byContradiction fun hn => ?_
        rcases hend with h2 | h2
        · omega
        · exact h2 (h i (by omega))
  induction e with
  | zero =>
    intro i A hi hl hs hA
    refine Ev.step (fun q => ?_) (hdone i A (by omega) hl hs hA (.inl (by omega)))
    simp only [signetref18_matches.l0]
    rw [if_neg (by omega)]
  | succ e ih =>
    intro i A hi hl hs hA
    obtain ⟨c, hc⟩ := get_some P i (by omega)
    by_cases h42 : c = 42
    · subst h42
      refine Ev.step (fun q => ?_) (ih (i + 1) (A.set (i + 1) true) (by omega) (by simp [hl]) (fun m hm => ?_) (fun j hj => ?_))
      · simp only [signetref18_matches.l0]
        rw [if_pos (by omega), if_pos (by omega), bt_nat P i 42 hc, wrap_succ (by omega) (by omega), if_pos (by rfl), if_pos (by omega), if_pos (by omega)]
        rfl
      · by_cases hm2 : m = i
        · subst hm2; exact hc
        · exact hs m (by omega)
      · rw [getD_set A (i + 1) j (by omega), hA j hj]
        omega
    · refine Ev.step (fun q => ?_) (hdone i A (by omega) hl hs hA (.inr (by rw [hc]; exact fun g => h42 (Option.some.inj g))))
      simp only [signetref18_matches.l0]
      rw [if_pos (by omega), if_pos (by omega), bt_nat P i c hc, if_neg (show ¬ ((c.toNat : Int) = 42) from fun e => h42 ((u8_eq (n := 42) (by omega)).1 e))]

include hP hS in
theorem matches_ev (r : Bool) (hr : r = true ↔ Mat P.data.toList S.data.toList) : Ev (fun q => signetref18_matches.f q P S) r := by
  have hw : wrap64 ((P.size : Int) + 1) = ((P.size + 1 : Nat) : Int) := by unfold wrap64; omega
  refine Ev.congr (fun q => ?_) (l0_loop P S hP hS r hr P.size 0 ((List.replicate (P.size + 1) false).set 0 true) (Nat.zero_add _) (by simp) (fun m hm => by omega) (fun j hj => ?_))
  · unfold signetref18_matches.f
    rw [hw, if_pos (by omega), if_pos (by omega), Option.bind_some, if_pos (by simp)]
    rfl
  · rw [getD_set _ 0 j (by simp), List.getD_eq_getElem?_getD, List.getElem?_replicate, if_pos (by omega)]
    simp

end

end Go.Proofs.YtckpnmghbjimiaaDoor.Pure

namespace Go.Proofs.YtckpnmghbjimiaaDoor.Pure
open Go.Proofs.YtckpnmghbjimiaaDoor Go.Proofs.YtckpnmghbjimiaaDoor.P Go.RowKit Go.Proofs.YtckpnmghbjimiaaDoorW.PrintWords

theorem rm_l1 (P : ByteArray) (hP : P.size ≤ 3000) (X y : List ByteArray) (yd : Bool) (r : Bool) (i m : Nat) (him : i ≤ m) (hm : m ≤ P.size) (hX : X.length < 8796093022208)
    (hend : m = P.size ∨ P.data.toList[m]? = some 47) (H : Ev (fun k => signetref18_Match.l0 k P (X ++ [P.extract i m]) (m : Int) y yd) r) (d : Nat) : ∀ j : Nat, j + d = m → i ≤ j → (∀ t, j ≤ t → t < m → P.data.toList[t]? ≠ some 47) →
    Ev (fun k => signetref18_Match.l1 k P X (j : Int) (i : Int) y yd) r := by
  induction d with
  | zero =>
    intro j hj hij _
    obtain rfl : j = m := by omega
    refine Ev.step (fun k => ?_) H
    simp only [signetref18_Match.l1]
    rcases hend with h | h
    · rw [if_neg (by omega), if_pos (by omega), if_pos (by omega), if_pos (by omega), if_pos hX]
      rfl
    · have hl := (List.getElem?_eq_some_iff.1 h).1
      rw [← Lib.size_eq] at hl
      rw [if_pos (by omega), if_pos (by omega), bt_nat P j 47 h, if_pos (by rfl), if_pos (by omega), if_pos (by omega), if_pos (by omega), if_pos hX]
      rfl
  | succ d ih =>
    intro j hj hij hno
    refine Ev.step (fun k => ?_) (ih (j + 1) (by omega) (by omega) (fun t h1 h2 => hno t (by omega) h2))
    obtain ⟨c, hc⟩ := get_some P j (by omega)
    have hne : c ≠ 47 := fun e => hno j (Nat.le_refl _) (by omega) (by rw [hc, e])
    simp only [signetref18_Match.l1]
    rw [if_pos (by omega), if_pos (by omega), bt_nat P j c hc, if_neg (show ¬ ((c.toNat : Int) = 47) from fun e => hne ((u8_eq (n := 47) (by omega)).1 e)), wrap_succ (by omega) (by omega)]
    rfl

theorem rm_l0 (P : ByteArray) (hP : P.size ≤ 3000) (y : List ByteArray) (yd : Bool) (r : Bool) (F : List ByteArray)
    (H : Ev (fun k => signetref18_Match.l0 k P F (P.size : Int) y yd) r) : ∀ (n i : Nat) (X : List ByteArray), n + i = P.size → X.length ≤ i → X ++ (fieldsL (P.data.toList.drop i)).map ofL = F →
    Ev (fun k => signetref18_Match.l0 k P X (i : Int) y yd) r := by
  intro n
  induction n using Nat.strongRecOn with
  | _ n ih =>
  intro i X hn hXi hF
  have hsz := Lib.size_eq P
  by_cases hi : i = P.size
  · subst hi
    rw [List.drop_of_length_le (by omega)] at hF
    have : F = X := by rw [← hF]; simp [fieldsL, splitSlash]
    rw [← this]
    exact H
  · obtain ⟨c, hc⟩ := get_some P i (by omega)
    by_cases h47 : c = 47
    · subst h47
      rw [drop_at hc, fields_cons47] at hF
      refine Ev.step (fun k => ?_) (ih (n - 1) (by omega) (i + 1) X (by omega) (by omega) hF)
      simp only [signetref18_Match.l0]
      rw [if_pos (by omega), if_pos (by omega), bt_nat P i 47 hc, if_pos (by rfl), wrap_succ (by omega) (by omega)]
      rfl
    · obtain ⟨u, v, huv, hu, hr⟩ := word_at (P.data.toList.drop i)
      have hlen : u.length + v.length = P.size - i := by
        have := congrArg List.length huv
        rw [List.length_drop, List.length_append] at this
        omega
      have hu0 : u ≠ [] := by
        rintro rfl
        rcases hr with rfl | ⟨v', rfl⟩
        · simp at hlen; omega
        · rw [drop_at hc] at huv
          exact h47 (List.cons.inj huv).1
      have hul : 0 < u.length := List.length_pos_iff.2 hu0
      have hget : ∀ t, t < u.length → P.data.toList[i + t]? = u[t]? := by
        intro t ht
        rw [← List.getElem?_drop, huv, List.getElem?_append_left ht]
      have hno : ∀ t, i ≤ t → t < i + u.length → P.data.toList[t]? ≠ some 47 := by
        intro t h1 h2 he
        have := hget (t - i) (by omega)
        rw [show i + (t - i) = t from by omega, he] at this
        exact hu 47 (List.mem_of_getElem? this.symm) rfl
      have hdv : P.data.toList.drop (i + u.length) = v := by
        rw [← List.drop_drop, huv]
        exact List.drop_left' rfl
      have hx : P.extract i (i + u.length) = ofL u := by
        refine ba_ext ?_
        rw [Lib.extract_data, huv, data_ofL]
        simp
      have hf : fieldsL (u ++ v) = [u] ++ fieldsL v := by
        rcases hr with rfl | ⟨v', rfl⟩
        · rw [List.append_nil, fieldsL_word hu, if_neg hu0]; simp [fieldsL, splitSlash]
        · rw [fieldsL_slash hu, if_neg hu0, fields_cons47]
      have hend : i + u.length = P.size ∨ P.data.toList[i + u.length]? = some 47 := by
        rcases hr with rfl | ⟨v', rfl⟩
        · left; simp at hlen; omega
        · right
          have := List.getElem?_drop (xs := P.data.toList) (i := i + u.length) (j := 0)
          rw [hdv] at this
          simpa using this.symm
      have H2 := ih (n - u.length) (by omega) (i + u.length) (X ++ [ofL u]) (by omega) (by simp; omega) (by rw [hdv, ← hF, huv, hf]; simp)
      rw [← hx] at H2
      refine Ev.step (fun k => ?_) (rm_l1 P hP X y yd r i (i + u.length) (by omega) (by omega) (by omega) hend H2 u.length i rfl (Nat.le_refl _) hno)
      simp only [signetref18_Match.l0]
      rw [if_pos (by omega), if_pos (by omega), bt_nat P i c hc, if_neg (show ¬ ((c.toNat : Int) = 47) from fun e => h47 ((u8_eq (n := 47) (by omega)).1 e))]

open Classical in
theorem rm_l2 (l y : List ByteArray) (yd : Bool) (hl : l.length = y.length) (h1 : l.length ≤ 1000000) (hls : ∀ x ∈ l, x.size ≤ 100000) (hys : ∀ x ∈ y, x.size ≤ 100000) (d : Nat) : ∀ i : Nat, i + d = l.length →
    Ev (fun k => signetref18_Match.l2 k l (l.length : Int) (i : Int) y yd) (allM (l.drop i) (y.drop i)) := by
  induction d with
  | zero =>
    intro i hi
    refine Ev.step (f := fun _ => some _) (fun k => ?_) (Ev.now _)
    simp only [signetref18_Match.l2]
    rw [if_neg (by omega), List.drop_of_length_le (by omega : l.length ≤ i)]
    rfl
  | succ d ih =>
    intro i hi
    have h2 : i < l.length := by omega
    have h3 : i < y.length := by omega
    rw [drop_cons l i h2, drop_cons y i h3, allM]
    have hm := matches_ev (l.getD i ByteArray.empty) (y.getD i ByteArray.empty) (by have := hls (l.getD i ByteArray.empty) (by rw [List.getD_eq_getElem?_getD, List.getElem?_eq_getElem h2]; exact List.getElem_mem _); omega) (by have := hys (y.getD i ByteArray.empty) (by rw [List.getD_eq_getElem?_getD, List.getElem?_eq_getElem h3]; exact List.getElem_mem _); omega) (decide (Mat (l.getD i ByteArray.empty).data.toList (y.getD i ByteArray.empty).data.toList)) (by simp)
    refine Ev.step (f := fun k => (signetref18_matches.f k (l.getD i ByteArray.empty) (y.getD i ByteArray.empty)).bind fun t126 => (if t126 = true then (signetref18_Match.l2 k l (l.length : Int) ((i + 1 : Nat) : Int) y yd) else (some false))) (fun k => ?_) (Ev.bind hm ?_)
    · simp only [signetref18_Match.l2]
      rw [if_pos (by omega), if_pos (by omega), if_pos (by omega), if_pos (by omega), rdOf_nat, rdOf_nat, wrap_succ (by omega) (by omega)]
      rfl
    · by_cases hM : Mat (l.getD i ByteArray.empty).data.toList (y.getD i ByteArray.empty).data.toList
      · simp only [hM, decide_true, if_true, Bool.true_and]
        exact ih (i + 1) (by omega)
      · simp only [hM, decide_false, Bool.false_eq_true, if_false, Bool.false_and]
        exact Ev.now _

theorem rmatch_ev (P s : ByteArray) (hP : P.size ≤ 3000) : Ev (fun k => signetref18_Match.f k P s) (matchA P s) := by
  have hlen := parseA_len s
  have hnames := parseA_names s
  have hsz := Lib.size_eq P
  have hfl : ((fieldsL P.data.toList).map ofL).length ≤ 1000000 := by
    rw [List.length_map]
    have h1 := List.length_filter_le (fun x => decide (x ≠ [])) (splitSlash P.data.toList)
    have h2 := splitSlash_length P.data.toList
    rw [← Lib.size_eq] at h2
    unfold fieldsL
    simp only [ne_eq] at h1 ⊢
    omega
  have hbad : Ev (fun k => signetref18_Match.j0 k P true (parseA s).1 (parseA s).2.1) false :=
    Ev.step (f := fun _ => some false) (fun k => by simp [signetref18_Match.j0]) (Ev.now _)
  unfold signetref18_Match.f matchA
  refine Ev.bind (parse_ev s) ?_
  by_cases h0 : (parseA s).2.2.2 = 0
  · simp only [if_pos h0]
    simp only [h0, decide_true, Bool.true_and]
    cases hl0 : P.data.toList with
    | nil =>
      refine Ev.congr (fun k => ?_) (Ev.congr (fun k => rfl) hbad)
      rw [if_pos (by rw [Lib.toList_data, hl0])]
    | cons c l =>
      have hc : P.data.toList[0]? = some c := by rw [hl0]; rfl
      have hpos : 0 < P.size := by rw [hsz, hl0]; simp
      have hne : ¬ P.toList = [] := by rw [Lib.toList_data, hl0]; simp
      have hst : ∀ k, (if P.toList = ([] : List UInt8) then (signetref18_Match.j0 k P true (parseA s).1 (parseA s).2.1) else (if 0 < (P.size : Int) then (signetref18_Match.j0 k P ((bt P 0) != 47) (parseA s).1 (parseA s).2.1) else (none))) = signetref18_Match.j0 k P ((c.toNat : Int) != 47) (parseA s).1 (parseA s).2.1 := by
        intro k
        rw [if_neg hne, if_pos (by omega), show bt P 0 = (c.toNat : Int) from bt_nat P 0 c hc]
      refine Ev.congr hst ?_
      rw [← hl0]
      by_cases h47 : c = 47
      · subst h47
        have hh : P.data.toList.head? = some 47 := by rw [hl0]; rfl
        simp only [hh, decide_true, Bool.true_and]
        refine Ev.step (f := fun k => signetref18_Match.l0 k P [] ((0 : Nat) : Int) (parseA s).1 (parseA s).2.1) (fun k => by simp [signetref18_Match.j0]) ?_
        refine rm_l0 P hP (parseA s).1 (parseA s).2.1 _ ((fieldsL P.data.toList).map ofL) ?_ P.size 0 [] (by omega) (by simp) (by simp)
        refine Ev.step (f := fun k => if (((fieldsL P.data.toList).map ofL).length : Int) = ((parseA s).1.length : Int) then (signetref18_Match.l2 k ((fieldsL P.data.toList).map ofL) (((fieldsL P.data.toList).map ofL).length : Int) 0 (parseA s).1 (parseA s).2.1) else (some false)) (fun k => ?_) ?_
        · simp only [signetref18_Match.l0]
          rw [if_neg (by omega)]
        · by_cases hl : ((fieldsL P.data.toList).map ofL).length = (parseA s).1.length
          · simp only [hl, decide_true, Bool.true_and, if_true]
            have := rm_l2 ((fieldsL P.data.toList).map ofL) (parseA s).1 (parseA s).2.1 hl hfl (fun x hx => by have := fields_size P x hx; omega) (fun x hx => by have := checkE_size (hnames x hx); omega) _ 0 (Nat.zero_add _)
            rw [hl] at this
            exact this
          · have hl' : ¬ ((((fieldsL P.data.toList).map ofL).length : Int) = ((parseA s).1.length : Int)) := by omega
            simp only [hl, hl', decide_false, Bool.false_and, if_false]
            exact Ev.now _
      · have hh : ¬ P.data.toList.head? = some 47 := by rw [hl0]; simpa using h47
        have hb : ((c.toNat : Int) != 47) = true := by
          rw [bne_iff_ne]
          exact fun e => h47 ((u8_eq (n := 47) (by omega)).1 e)
        simp only [hh, decide_false, Bool.false_and, hb]
        exact hbad
  · simp only [if_neg h0]
    simp only [h0, decide_false, Bool.false_and]
    exact hbad

theorem PathMatches (P s : ByteArray) (_hP : P.size ≤ 140737488351232) (_hs : s.size ≤ 140737488351232) : ∃ k, signetlaw18_PathMatches.f k P s = some true := by
  refine Ev.rounds ?_
  unfold signetlaw18_PathMatches.f
  by_cases h : 3000 < P.size
  · refine Ev.congr (fun k => ?_) (Ev.now true)
    rw [if_pos (by omega), awake_true]
    rfl
  · refine Ev.congr (f := fun k => (path_Match.f k P s).bind fun t528 => ((signetref18_Match.f k P s).bind fun t529 => (some (t528 == t529)))) (fun k => ?_) ?_
    · rw [if_neg (by omega), awake_true, Option.bind_some, if_pos rfl]
    · refine Ev.bind (pmatch_ev P s (by omega)) (Ev.bind (rmatch_ev P s (by omega)) ?_)
      simp only [beq_self_eq_true]
      exact Ev.now _

end Go.Proofs.YtckpnmghbjimiaaDoor.Pure
