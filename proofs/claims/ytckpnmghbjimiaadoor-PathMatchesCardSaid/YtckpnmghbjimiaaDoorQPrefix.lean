/- A text that begins with a slash (pure). -/
import Derived.Test.YtckpnmghbjimiaaDoorS0
import Derived.Test.YtckpnmghbjimiaaDoorPxStringsHasPrefix
namespace Go.Proofs.YtckpnmghbjimiaaDoor.Pure
open Go.Proofs.YtckpnmghbjimiaaDoor Go.Proofs.YtckpnmghbjimiaaDoor.P Go.RowKit Go.Proofs.YtckpnmghbjimiaaDoorW.PrintWords

theorem prefix_f (b : ByteArray) : strings_HasPrefix.f b (⟨#[47]⟩ : ByteArray) = some (decide (b.data.toList.head? = some 47)) := by
  unfold strings_HasPrefix.f stringslite_HasPrefix.f
  have e1 : (⟨#[47]⟩ : ByteArray).size = 1 := rfl
  have hz := Lib.size_eq b
  rw [e1]
  by_cases h : b.size = 0
  · have hb : b.data.toList = [] := List.length_eq_zero_iff.1 (by omega)
    rw [if_neg (by omega), Option.bind_some, hb]
    rfl
  · rw [if_pos (by omega), if_pos (by omega), if_pos (by omega)]
    simp only [Option.bind_some]
    congr 1
    rw [Lib.toList_data, Lib.toList_data]
    have : (b.extract 0 ((1 : Nat) : Int).toNat).data.toList = b.data.toList.take 1 := by rw [Lib.extract_data]; rfl
    rw [this]
    cases hl : b.data.toList with
    | nil => rw [hl] at hz; exact absurd hz h
    | cons c l =>
      rw [Bool.eq_iff_iff]
      simp

end Go.Proofs.YtckpnmghbjimiaaDoor.Pure
