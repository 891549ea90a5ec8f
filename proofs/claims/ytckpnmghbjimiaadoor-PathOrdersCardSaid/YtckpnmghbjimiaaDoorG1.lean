/- The contract of strings.ContainsAny in the printed form: where the characters are the byte 0 and the slash. -/
import Derived.Test.YtckpnmghbjimiaaDoorA2
import Derived.Test.YtckpnmghbjimiaaDoorWWords
namespace Go.Proofs.YtckpnmghbjimiaaDoor.P
open Go.RowKit Go.Proofs.YtckpnmghbjimiaaDoor

def strings_ContainsAny.f (a0 a1 : ByteArray) : Option Bool := if a1.data.toList = [0, 47] ∧ a0.size < 4294967281 then some (hasBad a0) else none
theorem strings_ContainsAny.calls (a0 a1 : ByteArray) (r : Bool) (w : World) (h : strings_ContainsAny.f a0 a1 = some r) :
    Calls Tryd.prog 35 #[.string a0, .string a1] w fun e w' => e = .returned (.bool r) ∧ Below w.heap.size w w' := by
  unfold strings_ContainsAny.f at h
  by_cases hc : a1.data.toList = [0, 47] ∧ a0.size < 4294967281
  · rw [if_pos hc] at h
    obtain rfl := Option.some.inj h
    obtain ⟨hc1, hc2⟩ := hc
    obtain rfl : a1 = ⟨#[0, 47]⟩ := by
      obtain ⟨⟨l⟩⟩ := a1
      simp only at hc1
      subst hc1
      rfl
    exact containsAny_all a0 w hc2
  · rw [if_neg hc] at h
    cases h

end Go.Proofs.YtckpnmghbjimiaaDoor.P
