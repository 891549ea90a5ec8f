-- Printed by wip/tools/myprint.py (the kit's print over given contracts).
import Derived.Test.YtgciocgdppaaiaaDoorPx0
namespace Go.Proofs.YtgciocgdppaaiaaDoor.P
open Go.RowKit Go.Proofs.YtgciocgdppaaiaaDoorW.PrintWords Go.Proofs.YtgciocgdppaaiaaDoorW.PrintLast Go.Proofs.YtgciocgdppaaiaaDoorW.PrintMore
attribute [local go_sem] max2_int min2_int max_two min_two max_three min_three max_four min_four Go.Proofs.YtgciocgdppaaiaaDoor.bytesLess_flip Go.Proofs.YtgciocgdppaaiaaDoor.bytesLess_flip2
set_option linter.unusedVariables false
set_option linter.unusedSimpArgs false

/-! ### cmp_isNaN_byte: function 44 -/
def cmp_isNaN_byte.f (a0 : Int) : Option (Bool) := some (a0 != a0)
set_option maxHeartbeats 8000000 in
set_option maxRecDepth 100000 in
theorem cmp_isNaN_byte.calls (a0 : Int) (r : Bool) (w : World) (h : cmp_isNaN_byte.f a0 = some r) :
    Calls Tryd.prog 44 #[.int .u8 a0] w fun e w' => e = .returned (.bool r) ∧ Drawn0 w w' := by
  have H : (some (a0 != a0)) = some r := h
  clear h
  obtain rfl := Option.some.inj H
  go_enter Tryd.func44, Tryd.ntmps44
  go_wp2
  go_ret
  exact ⟨by first | rfl | (simp; done) | (simp [*]; done), by repeat (first | exact Drawn0.refl _ | apply Drawn0.step)⟩

end Go.Proofs.YtgciocgdppaaiaaDoor.P
