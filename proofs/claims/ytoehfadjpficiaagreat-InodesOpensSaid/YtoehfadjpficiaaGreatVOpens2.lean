/- The statement InodesOpens evaluated: part 2. -/
import Derived.Test.YtoehfadjpficiaaGreatVOpens1
namespace Go.Proofs.YtoehfadjpficiaaGreat.inodesOpens
open Go Go.RowKit Go.Proofs.YtoehfadjpficiaaGreat.Ev
set_option maxRecDepth 100000
theorem evR0 (ρ : Nat → Value) : ((List.range 3).all fun t => (List.range 3).all fun r => runO ρ t 0 1 4 1 1 true r (.var 0) (.var 34)) = true := by kernel_rfl
theorem evRh0 (ρ : Nat → Value) : ((List.range 3).all fun r => runO ρ 2 77 1 4 1 1 true r (.int .i64 0) (.var 34)) = true := by kernel_rfl
theorem evR1 (ρ : Nat → Value) : ((List.range 3).all fun t => (List.range 3).all fun r => runO ρ t 1 5 16 2 4 true r (.var 0) (.var 34)) = true := by kernel_rfl
theorem evRh1 (ρ : Nat → Value) : ((List.range 3).all fun r => runO ρ 2 77 5 16 2 4 true r (.int .i64 1) (.var 34)) = true := by kernel_rfl
theorem evR2 (ρ : Nat → Value) : ((List.range 3).all fun t => (List.range 3).all fun r => runO ρ t 2 17 64 5 16 true r (.var 0) (.var 34)) = true := by kernel_rfl
theorem evRh2 (ρ : Nat → Value) : ((List.range 3).all fun r => runO ρ 2 77 17 64 5 16 true r (.int .i64 2) (.var 34)) = true := by kernel_rfl
end Go.Proofs.YtoehfadjpficiaaGreat.inodesOpens
