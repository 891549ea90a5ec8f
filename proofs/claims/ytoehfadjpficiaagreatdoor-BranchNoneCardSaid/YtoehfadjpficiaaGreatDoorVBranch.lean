/- The statements of layer 22: awake answers true. -/
import Derived.Test.YtoehfadjpficiaaGreatDoorEvStr
import Derived.Test.YtoehfadjpficiaaGreatDoorEvSum
import Derived.Test.YtoehfadjpficiaaGreatDoorEvParse
namespace Go.Proofs.YtoehfadjpficiaaGreatDoor.Ev
open Go Go.RowKit
set_option maxRecDepth 100000
def sumLibB : Call := sumOr sumClone (sumOr (sumPlain 103 fContains) (sumOr (sumPlain 66 fRepeat) (sumOr (sumPlain 143 fTrim) sumParse)))
theorem sumLibB_ok {C : Ctx} (hP : C.P = Tryz.prog) : CallOk C sumLibB := sumOr_ok (sumClone_ok hP) (sumOr_ok (sumPlain_ok hP fContains_ok) (sumOr_ok (sumPlain_ok hP fRepeat_ok) (sumOr_ok (sumPlain_ok hP fTrim_ok) (sumParse_ok hP))))
theorem ev15 (ρ : Nat → Value) : isTrue (evCall (ctx noFact ρ) funT.get sumLibB 100000 1000 15 [] .nil 0) = true := by kernel_rfl
theorem awake22 : AnsTrue 15 := ansTrue_any (ρ := fun _ => undef) noFact_ok (sumLibB_ok rfl) (ev15 _)
def sum22 : Call := sumOr (sumTrue [15]) sumLibB
theorem sum22_ok {C : Ctx} (hP : C.P = Tryz.prog) : CallOk C sum22 := sumOr_ok (sumTrue_ok hP fun g hg => by
  obtain rfl := List.mem_singleton.1 hg
  exact awake22) (sumLibB_ok hP)
end Go.Proofs.YtoehfadjpficiaaGreatDoor.Ev
