/- The statement DirNil evaluated. -/
import Derived.Test.YtoehfadjpficiaaGreatDoorEvStr
import Derived.Test.YtoehfadjpficiaaGreatDoorEvSum
namespace Go.Proofs.YtoehfadjpficiaaGreatDoor.Ev
open Go Go.RowKit
set_option maxRecDepth 100000
def sumLib : Call := sumOr sumClone (sumOr (sumPlain 103 fContains) (sumOr (sumPlain 66 fRepeat) (sumPlain 143 fTrim)))
theorem sumLib_ok {C : Ctx} (hP : C.P = Tryz.prog) : CallOk C sumLib := sumOr_ok (sumClone_ok hP) (sumOr_ok (sumPlain_ok hP fContains_ok) (sumOr_ok (sumPlain_ok hP fRepeat_ok) (sumPlain_ok hP fTrim_ok)))
theorem ev13 (ρ : Nat → Value) : isTrue (evCall (ctx noFact ρ) funT.get sumLib 100000 1000 13 [] .nil 0) = true := by kernel_rfl
theorem awake17 : AnsTrue 13 := ansTrue_any (ρ := fun _ => undef) noFact_ok (sumLib_ok rfl) (ev13 _)
def sum17 : Call := sumOr (sumTrue [13]) sumLib
theorem sum17_ok {C : Ctx} (hP : C.P = Tryz.prog) : CallOk C sum17 := sumOr_ok (sumTrue_ok hP fun g hg => by
  obtain rfl := List.mem_singleton.1 hg
  exact awake17) (sumLib_ok hP)
end Go.Proofs.YtoehfadjpficiaaGreatDoor.Ev
