/- The statement GrowNil evaluated: heights that may not be. -/
import Derived.Test.YtoehfadjpficiaaGreatEvTree
import Derived.Test.YtoehfadjpficiaaGreatVAwake10
namespace Go.Proofs.YtoehfadjpficiaaGreat.growNil
open Go Go.RowKit Go.Proofs.YtoehfadjpficiaaGreat.Ev
set_option maxRecDepth 100000
def tv (h : SV) : List SV := h :: (List.range' 1 33).map SV.var
def gArgs (t : List SV) : List EV := [.a (.agg t), .a (.s (.var 34)), .a (.agg ((List.range' 35 256).map SV.var))]
theorem evA (ρ : Nat → Value) : isTrue (evCall (ctx kA ρ) funT.get sum10 100000 1000 5 (gArgs (tv (.var 0))) .nil 0) = true := by kernel_rfl
theorem evB (ρ : Nat → Value) : isTrue (evCall (ctx kB ρ) funT.get sum10 100000 1000 5 (gArgs (tv (.var 0))) .nil 0) = true := by kernel_rfl
end Go.Proofs.YtoehfadjpficiaaGreat.growNil
