/- Orders of texts and of lists of texts, in plain words; the printed loops that compute them. -/
import Derived.Test.YtckpnmghbjimiaaDoorX1
import Derived.Test.YtckpnmghbjimiaaDoorPxPathCompare
import Derived.Test.YtckpnmghbjimiaaDoorPxSignetref18Order
import Derived.Test.YtckpnmghbjimiaaDoorPxSignetref18Same
import Derived.Test.YtckpnmghbjimiaaDoorPxSignetlaw18Awake
namespace Go.Proofs.YtckpnmghbjimiaaDoor
open Go.Proofs.YtckpnmghbjimiaaDoor.P Go.RowKit Go.Proofs.YtckpnmghbjimiaaDoorW.PrintWords

theorem bl_irrefl : ∀ a : List UInt8, Op.bytesLess a a = false
  | [] => rfl
  | x :: a => by simp [Op.bytesLess, bl_irrefl a, UInt8.lt_iff_toNat_lt]
theorem bl_asymm {a b : List UInt8} (h : Op.bytesLess a b = true) : Op.bytesLess b a = false := by rw [← bytesLess_flip, h]; rfl
theorem bl_eq {a b : List UInt8} (h : Op.bytesLess a b = false) (h2 : Op.bytesLess b a = false) : a = b := by
  have := bytesLess_flip2 a b h
  rw [h2] at this
  simpa using this
theorem bl_trans : ∀ {a b c : List UInt8}, Op.bytesLess a b = true → Op.bytesLess b c = true → Op.bytesLess a c = true
  | _, [], _, h, _ => by simp [Op.bytesLess] at h
  | _, _ :: _, [], _, h => by simp [Op.bytesLess] at h
  | [], _ :: _, _ :: _, _, _ => rfl
  | x :: a, y :: b, z :: c, h, k => by
    simp only [Op.bytesLess, Bool.or_eq_true, decide_eq_true_eq, Bool.and_eq_true, beq_iff_eq] at h k ⊢
    simp only [UInt8.lt_iff_toNat_lt] at h k ⊢
    rcases h with h | ⟨rfl, h⟩
    · rcases k with k | ⟨rfl, k⟩
      · exact .inl (by omega)
      · exact .inl h
    · rcases k with k | ⟨rfl, k⟩
      · exact .inl k
      · exact .inr ⟨rfl, bl_trans h k⟩

/-- -1, 0, 1 by the order of the bytes. -/
def cB (a b : List UInt8) : Int := if Op.bytesLess a b = true then -1 else if Op.bytesLess b a = true then 1 else 0
theorem cB_self (a : List UInt8) : cB a a = 0 := by simp [cB, bl_irrefl]
theorem cB_zero {a b : List UInt8} : cB a b = 0 ↔ a = b := by
  refine ⟨fun h => ?_, fun h => by subst h; exact cB_self a⟩
  unfold cB at h
  by_cases h1 : Op.bytesLess a b = true
  · rw [if_pos h1] at h; omega
  · rw [if_neg h1] at h
    by_cases h2 : Op.bytesLess b a = true
    · rw [if_pos h2] at h; omega
    · exact bl_eq (by simpa using h1) (by simpa using h2)
theorem cB_swap (a b : List UInt8) : cB b a = -cB a b := by
  unfold cB
  by_cases h1 : Op.bytesLess a b = true
  · simp [h1, bl_asymm h1]
  · by_cases h2 : Op.bytesLess b a = true
    · simp [h1, h2]
    · simp [h1, h2]
theorem cB_trans {a b c : List UInt8} (h : cB a b = cB b c) : cB a c = cB a b := by
  by_cases h1 : Op.bytesLess a b = true
  · have e1 : cB a b = -1 := by simp [cB, h1]
    have h2 : Op.bytesLess b c = true := by
      rw [e1] at h
      unfold cB at h
      by_cases h2 : Op.bytesLess b c = true
      · exact h2
      · rw [if_neg h2] at h; split at h <;> omega
    rw [e1]; simp [cB, bl_trans h1 h2]
  · by_cases h3 : Op.bytesLess b a = true
    · have e1 : cB a b = 1 := by simp [cB, h1, h3]
      have h2 : Op.bytesLess c b = true := by
        rw [e1] at h
        unfold cB at h
        by_cases h2 : Op.bytesLess b c = true
        · rw [if_pos h2] at h; omega
        · rw [if_neg h2] at h
          by_cases h4 : Op.bytesLess c b = true
          · exact h4
          · rw [if_neg h4] at h; omega
      have h5 := bl_trans h2 h3
      rw [e1]; simp [cB, h5, bl_asymm h5]
    · have : a = b := bl_eq (by simpa using h1) (by simpa using h3)
      subst this
      rw [← h]

/-- The same for lists. -/
def cL : List ByteArray → List ByteArray → Int
  | [], [] => 0
  | [], _ :: _ => -1
  | _ :: _, [] => 1
  | a :: x, b :: y => if cB a.toList b.toList = 0 then cL x y else cB a.toList b.toList
theorem toList_inj {a b : ByteArray} (h : a.toList = b.toList) : a = b := by
  rw [ByteArray.toList_eq, ByteArray.toList_eq] at h
  obtain ⟨⟨a⟩⟩ := a
  obtain ⟨⟨b⟩⟩ := b
  simp only at h
  rw [h]
theorem cL_zero : ∀ {x y : List ByteArray}, cL x y = 0 ↔ x = y
  | [], [] => by simp [cL]
  | [], _ :: _ => by simp [cL]
  | _ :: _, [] => by simp [cL]
  | a :: x, b :: y => by
    unfold cL
    by_cases h : cB a.toList b.toList = 0
    · rw [if_pos h]
      have := toList_inj (cB_zero.1 h)
      subst this
      simp [cL_zero (x := x) (y := y)]
    · rw [if_neg h]
      refine ⟨fun e => absurd e h, fun e => absurd ?_ h⟩
      obtain ⟨rfl, _⟩ := List.cons.inj e
      exact cB_self _
theorem cL_swap : ∀ (x y : List ByteArray), cL y x = -cL x y
  | [], [] => by simp [cL]
  | [], _ :: _ => by simp [cL]
  | _ :: _, [] => by simp [cL]
  | a :: x, b :: y => by
    unfold cL
    have h := cB_swap a.toList b.toList
    by_cases h1 : cB a.toList b.toList = 0
    · rw [if_pos h1, if_pos (by omega)]; exact cL_swap x y
    · rw [if_neg h1, if_neg (by omega)]; exact h
theorem cB_range (a b : List UInt8) : cB a b = -1 ∨ cB a b = 0 ∨ cB a b = 1 := by unfold cB; split; (exact .inl rfl); split; (exact .inr (.inr rfl)); exact .inr (.inl rfl)
theorem cL_range : ∀ (x y : List ByteArray), cL x y = -1 ∨ cL x y = 0 ∨ cL x y = 1
  | [], [] => by simp [cL]
  | [], _ :: _ => by simp [cL]
  | _ :: _, [] => by simp [cL]
  | a :: x, b :: y => by
    unfold cL
    split
    · exact cL_range x y
    · exact cB_range _ _
theorem cL_trans : ∀ {x y z : List ByteArray}, cL x y = cL y z → cL x z = cL x y
  | [], [], [], h => by simp [cL]
  | [], [], _ :: _, h => by simp [cL] at h
  | [], _ :: _, [], h => by simp [cL] at h
  | [], _ :: _, _ :: _, h => by simp [cL]
  | _ :: _, [], [], h => by simp [cL] at h
  | _ :: _, [], _ :: _, h => by simp [cL] at h
  | _ :: _, _ :: _, [], h => by simp only [cL] at h ⊢; exact h.symm
  | a :: x, b :: y, c :: z, h => by
    simp only [cL] at h ⊢
    by_cases h1 : cB a.toList b.toList = 0
    · have e := cB_zero.1 h1
      rw [if_pos h1] at h ⊢
      rw [e]
      by_cases h2 : cB b.toList c.toList = 0
      · rw [if_pos h2] at h ⊢
        exact cL_trans h
      · rw [if_neg h2] at h ⊢
        exact h.symm
    · rw [if_neg h1] at h ⊢
      by_cases h2 : cB b.toList c.toList = 0
      · have e := cB_zero.1 h2
        rw [← e, if_neg h1]
      · rw [if_neg h2] at h
        have ht := cB_trans h
        rw [if_neg (by rw [ht]; exact h1)]
        exact ht

theorem wrap_succ {i : Int} (h0 : 0 ≤ i) (h : i < 9223372036854775807) : wrap64 (i + 1) = i + 1 := by unfold wrap64; omega

theorem awake_true : signetlaw18_awake.f = some true := by decide +kernel

end Go.Proofs.YtckpnmghbjimiaaDoor
