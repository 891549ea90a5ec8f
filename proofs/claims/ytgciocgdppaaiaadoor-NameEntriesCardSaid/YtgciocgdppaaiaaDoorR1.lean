/- Sizes of what a row reads: a whole number; a struct of a number and a string. -/
import Derived.Test.YtgciocgdppaaiaaDoorR0
namespace Go.Proofs.YtgciocgdppaaiaaDoor
open Go.ChangeShapes Go.WideShapes Go.ChangeAt Go.RowKit
open Go.Proofs.YtgciocgdppaaiaaDoorW.PrintWords

theorem int_wf {n : Int} (h : (Lit.int .i64 n).wf = true) : -9223372036854775808 ≤ n ∧ n ≤ 9223372036854775807 := by
  simp [Lit.wf] at h
  have h1 : IntKind.i64.min = -9223372036854775808 := by decide
  have h2 : IntKind.i64.max = 9223372036854775807 := by decide
  omega

theorem link_sized {H : Type} {ts : List TypeId} {ds : List (DataW H)} {j : Nat} {t : TypeId} {x : Int} {y : ByteArray} {fs : Array Field} {e1 e2 : TypeId}
    (h : (DataW.weightsEach Tryd.prog ts ds).all (· ≤ reachBytes) = true) (ht : ts[j]? = some t) (hd : ds[j]? = some (.agg [.lit (.int .i64 x), .lit (.string y.data.toList)]))
    (hu : Tryd.prog.underlying t = some (.struct fs)) (hf : fs.toList.map (·.type) = [e1, e2]) : y.size ≤ 140737488351232 := by
  have h2 := List.all_eq_true.1 h _ (DataW.weights_mem_each ht hd y.data.toList.length (by simp [DataW.weights, hu, hf, DataW.weightsEach]))
  unfold reachBytes at h2
  rw [← Lib.size_eq] at h2
  simp at h2
  omega

end Go.Proofs.YtgciocgdppaaiaaDoor
