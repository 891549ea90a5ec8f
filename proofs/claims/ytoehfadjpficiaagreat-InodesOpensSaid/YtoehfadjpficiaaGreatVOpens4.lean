/- The statement InodesOpens evaluated: part 4. -/
import Derived.Test.YtoehfadjpficiaaGreatVOpens1
namespace Go.Proofs.YtoehfadjpficiaaGreat.inodesOpens
open Go Go.RowKit Go.Proofs.YtoehfadjpficiaaGreat.Ev
set_option maxRecDepth 100000
theorem evNeg (ρ : Nat → Value) : ((List.range 3).all fun t => (List.range 3).all fun r => runO ρ t 77 (-9223372036854775808) (-1) 0 0 false r (.var 0) (.var 34)) = true := by kernel_rfl
theorem evBig (ρ : Nat → Value) : ((List.range 3).all fun t => (List.range 3).all fun r => runO ρ t 77 4097 9223372036854775807 0 0 false r (.var 0) (.var 34)) = true := by kernel_rfl
theorem evZero (ρ : Nat → Value) : ((List.range 3).all fun t => (List.range 3).all fun r => runO ρ t 0 0 0 0 0 false r (.var 0) (.int .i64 0)) = true := by kernel_rfl
theorem evZeroH (ρ : Nat → Value) : ((List.range 3).all fun r => runO ρ 2 77 0 0 0 0 false r (.int .i64 0) (.int .i64 0)) = true := by kernel_rfl
end Go.Proofs.YtoehfadjpficiaaGreat.inodesOpens
