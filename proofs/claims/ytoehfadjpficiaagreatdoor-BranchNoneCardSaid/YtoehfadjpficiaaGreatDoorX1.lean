/- Texts that are compared: '>' and '<=' by '<'. -/
import Derived.Laws.Cover1
namespace Go.Proofs.YtoehfadjpficiaaGreatDoor

theorem bytesLess_flip : ∀ a b : List UInt8, (!(Op.bytesLess a b || a == b)) = Op.bytesLess b a
  | [], [] => by simp [Op.bytesLess]
  | [], _ :: _ => by simp [Op.bytesLess]
  | _ :: _, [] => by simp [Op.bytesLess]
  | x :: a, y :: b => by
    have ih := bytesLess_flip a b
    simp only [Op.bytesLess]
    by_cases h1 : x < y
    · have h2 : ¬ y < x := by rw [UInt8.lt_iff_toNat_lt] at *; omega
      have h3 : ¬ x = y := fun e => by subst e; exact absurd h1 (by rw [UInt8.lt_iff_toNat_lt]; omega)
      have h4 : ¬ y = x := fun e => h3 e.symm
      simp [h1, h2, h4]
    · by_cases h2 : y < x
      · have h3 : ¬ x = y := fun e => by subst e; exact absurd h2 (by rw [UInt8.lt_iff_toNat_lt]; omega)
        simp [h1, h2, h3]
      · have h3 : x = y := by rw [UInt8.lt_iff_toNat_lt] at *; exact UInt8.toNat_inj.1 (by omega)
        subst h3
        simpa [h1] using ih

theorem bytesLess_flip2 (a b : List UInt8) (h : Op.bytesLess a b = false) : (!(a == b)) = Op.bytesLess b a := by
  rw [← bytesLess_flip a b, h]
  rfl

end Go.Proofs.YtoehfadjpficiaaGreatDoor
