/- The statement GrowNil evaluated: a root with a place; no root. -/
import Derived.Test.YtoehfadjpficiaaGreatVGrowNil0
namespace Go.Proofs.YtoehfadjpficiaaGreat.growNil
open Go Go.RowKit Go.Proofs.YtoehfadjpficiaaGreat.Ev
set_option maxRecDepth 100000
def none33 (h : Int) : List SV := .int .i64 h :: .int .u32 0 :: List.replicate 32 (.int .u8 0)
theorem evDs (ρ : Nat → Value) : ((List.range 7).all fun q => isTrue (evCall (ctx kD ρ) funT.get sum10 100000 1000 5 (gArgs (tv (.int .i64 q))) .nil 0)) = true := by kernel_rfl
theorem evEs (ρ : Nat → Value) : ((List.range 7).all fun q => isTrue (evCall (ctx noFact ρ) funT.get sum10 100000 1000 5 (gArgs (none33 q)) .nil 0)) = true := by kernel_rfl
theorem evD (ρ : Nat → Value) (q : Nat) (hq : q < 7) : isTrue (evCall (ctx kD ρ) funT.get sum10 100000 1000 5 (gArgs (tv (.int .i64 q))) .nil 0) = true :=
  List.all_eq_true.1 (evDs ρ) q (List.mem_range.2 hq)
theorem evE (ρ : Nat → Value) (q : Nat) (hq : q < 7) : isTrue (evCall (ctx noFact ρ) funT.get sum10 100000 1000 5 (gArgs (none33 q)) .nil 0) = true :=
  List.all_eq_true.1 (evEs ρ) q (List.mem_range.2 hq)
end Go.Proofs.YtoehfadjpficiaaGreat.growNil
