/- The statement GrowNil evaluated: a root without a place, but with a digest. -/
import Derived.Test.YtoehfadjpficiaaGreatVGrowNil0
namespace Go.Proofs.YtoehfadjpficiaaGreat.growNil
open Go Go.RowKit Go.Proofs.YtoehfadjpficiaaGreat.Ev
set_option maxRecDepth 100000
theorem evCs (ρ : Nat → Value) : ((List.range 32).all fun q => isTrue (evCall (ctx (kC q) ρ) funT.get sum10 100000 1000 5 (gArgs (tv (.var 0))) .nil 0)) = true := by kernel_rfl
theorem evC (ρ : Nat → Value) (q : Nat) (hq : q < 32) : isTrue (evCall (ctx (kC q) ρ) funT.get sum10 100000 1000 5 (gArgs (tv (.var 0))) .nil 0) = true :=
  List.all_eq_true.1 (evCs ρ) q (List.mem_range.2 hq)
end Go.Proofs.YtoehfadjpficiaaGreat.growNil
