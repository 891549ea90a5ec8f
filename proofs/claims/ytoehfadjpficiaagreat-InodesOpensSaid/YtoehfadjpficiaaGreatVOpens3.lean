/- The statement InodesOpens evaluated: part 3. -/
import Derived.Test.YtoehfadjpficiaaGreatVOpens1
namespace Go.Proofs.YtoehfadjpficiaaGreat.inodesOpens
open Go Go.RowKit Go.Proofs.YtoehfadjpficiaaGreat.Ev
set_option maxRecDepth 100000
theorem evR3 (ρ : Nat → Value) : ((List.range 3).all fun t => (List.range 3).all fun r => runO ρ t 3 65 256 17 64 true r (.var 0) (.var 34)) = true := by kernel_rfl
theorem evRh3 (ρ : Nat → Value) : ((List.range 3).all fun r => runO ρ 2 77 65 256 17 64 true r (.int .i64 3) (.var 34)) = true := by kernel_rfl
theorem evR4 (ρ : Nat → Value) : ((List.range 3).all fun t => (List.range 3).all fun r => runO ρ t 4 257 1024 65 256 true r (.var 0) (.var 34)) = true := by kernel_rfl
theorem evRh4 (ρ : Nat → Value) : ((List.range 3).all fun r => runO ρ 2 77 257 1024 65 256 true r (.int .i64 4) (.var 34)) = true := by kernel_rfl
theorem evR5 (ρ : Nat → Value) : ((List.range 3).all fun t => (List.range 3).all fun r => runO ρ t 5 1025 4096 257 1024 true r (.var 0) (.var 34)) = true := by kernel_rfl
theorem evRh5 (ρ : Nat → Value) : ((List.range 3).all fun r => runO ρ 2 77 1025 4096 257 1024 true r (.int .i64 5) (.var 34)) = true := by kernel_rfl
end Go.Proofs.YtoehfadjpficiaaGreat.inodesOpens
