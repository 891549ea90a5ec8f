/- The statements of layer 16: awake answers true. -/
import Derived.Test.YtoehfadjpficiaaGreatEvTrue
import Derived.Test.YtoehfadjpficiaaGreatEvSum
namespace Go.Proofs.YtoehfadjpficiaaGreat.Ev
open Go Go.RowKit
set_option maxRecDepth 100000
theorem ev17 (ρ : Nat → Value) : isTrue (evCall (ctx noFact ρ) funT.get sumClone 100000 1000 17 [] .nil 0) = true := by kernel_rfl
theorem awake16 : AnsTrue 17 := ansTrue_any (ρ := fun _ => undef) noFact_ok (sumClone_ok rfl) (ev17 _)
def sum16 : Call := sumOr (sumTrue [17]) sumClone
theorem sum16_ok {C : Ctx} (hP : C.P = Tryz.prog) : CallOk C sum16 := sumOr_ok (sumTrue_ok hP fun g hg => by
  obtain rfl := List.mem_singleton.1 hg
  exact awake16) (sumClone_ok hP)
end Go.Proofs.YtoehfadjpficiaaGreat.Ev
