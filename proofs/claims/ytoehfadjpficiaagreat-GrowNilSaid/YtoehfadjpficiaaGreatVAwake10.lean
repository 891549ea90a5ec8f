/- The statements of layer 10: awake answers true. -/
import Derived.Test.YtoehfadjpficiaaGreatEvSort
import Derived.Test.YtoehfadjpficiaaGreatEvSum
namespace Go.Proofs.YtoehfadjpficiaaGreat.Ev
open Go Go.RowKit
set_option maxRecDepth 100000
def sumLib : Call := sumOr sumClone sumSorted
theorem sumLib_ok {C : Ctx} (hP : C.P = Tryz.prog) : CallOk C sumLib := sumOr_ok (sumClone_ok hP) (sumSorted_ok hP)
theorem ev28 (ρ : Nat → Value) : isTrue (evCall (ctx noFact ρ) funT.get sumLib 100000 1000 28 [] .nil 0) = true := by kernel_rfl
theorem awake10 : AnsTrue 28 := ansTrue_any (ρ := fun _ => undef) noFact_ok (sumLib_ok rfl) (ev28 _)
def sum10 : Call := sumOr (sumTrue [28]) sumLib
theorem sum10_ok {C : Ctx} (hP : C.P = Tryz.prog) : CallOk C sum10 := sumOr_ok (sumTrue_ok hP fun g hg => by
  obtain rfl := List.mem_singleton.1 hg
  exact awake10) (sumLib_ok hP)
end Go.Proofs.YtoehfadjpficiaaGreat.Ev
