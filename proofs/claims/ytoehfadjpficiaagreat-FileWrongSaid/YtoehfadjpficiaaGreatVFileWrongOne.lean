/- The statement FileWrong evaluated: the case One. -/
import Derived.Test.YtoehfadjpficiaaGreatEvNum
import Derived.Test.YtoehfadjpficiaaGreatVAwake16
namespace Go.Proofs.YtoehfadjpficiaaGreat.fileWrong
open Go Go.RowKit Go.Proofs.YtoehfadjpficiaaGreat.Ev
set_option maxRecDepth 100000
theorem evOne (ρ : Nat → Value) : isTrue (evCall (ctx noFact ρ) funT.get sum16 100000 1000 6 [.a (.s (.int .i64 1)), .a (.agg ((List.range' 1 6).map SV.var))] .nil 0) = true := by kernel_rfl
end Go.Proofs.YtoehfadjpficiaaGreat.fileWrong
