/- Texts of this seat joined into one: R0, R1. -/
import Derived.Test.YtgciocgdppaaiaaDoorCards
import Derived.Test.YtgciocgdppaaiaaDoorTie
import Derived.Test.YtgciocgdppaaiaaDoorVNameLeaves0
import Derived.WalkKit
import Derived.ProofKit
import Derived.OpenShut
import Derived.ShutString
import Derived.ChangeOld
import Derived.Below
import Derived.SizedLaws
import Derived.SliceStrings
import Derived.Deep.DeepHandedRow
import Derived.Lib.LaidTab
import Derived.Lib.SmallJoins

/- What all rows of this seat share: a world in which the two listed tables lie. -/
namespace Go.Proofs.YtgciocgdppaaiaaDoor
open Go.ChangeShapes Go.WideShapes Go.ChangeAt Go.RowKit
open Go.Proofs.YtgciocgdppaaiaaDoorW.PrintWords

theorem own : ownKnob Tryd.prog.godebug = none := by kernel_rfl
theorem laidOut : laidOutB Tryd.prog = true := by kernel_rfl
theorem cells9 : Tryd.prog.cellsOf 9 = 1 := by kernel_rfl

def accCells : Array Value := #[.int .u8 128, .int .u8 191, .int .u8 160, .int .u8 191, .int .u8 128, .int .u8 159, .int .u8 144, .int .u8 191, .int .u8 128, .int .u8 143, .int .u8 0, .int .u8 0, .int .u8 0, .int .u8 0, .int .u8 0, .int .u8 0,
  .int .u8 0, .int .u8 0, .int .u8 0, .int .u8 0, .int .u8 0, .int .u8 0, .int .u8 0, .int .u8 0, .int .u8 0, .int .u8 0, .int .u8 0, .int .u8 0, .int .u8 0, .int .u8 0, .int .u8 0, .int .u8 0]
def firstCells : Array Value := (Go.Pinned.utf8FirstZ.map fun (n : Nat) => Value.int .u8 (n : Int)).toArray

def laidBlock (a f : Nat) (h : Array Obj) : Array Obj :=
  (h.modify a fun | .cells _ t fz => .cells accCells t fz | o => o).modify f fun | .cells _ t fz => .cells firstCells t fz | o => o

/-- A world for the witness. -/
noncomputable def laidWorld (os : Os) : World :=
  { World.holding Tryd.prog os ⟨#[], #[], []⟩ with heap := laidBlock 2 1 (World.holding Tryd.prog os ⟨#[], #[], []⟩).heap }

theorem g1 : Tryd.prog.globalNamed "unicode/utf8.first" = some 1 := by kernel_rfl
theorem g2 : Tryd.prog.globalNamed "unicode/utf8.acceptRanges" = some 2 := by kernel_rfl

theorem laid_met1 (os : Os) : laidMet Tryd.prog Rows.nameDigitsRow.laid ((laidWorld os).forCall (fun _ _ => 0) ⟨#[], #[.string ByteArray.empty, .string ByteArray.empty, .string ByteArray.empty], []⟩).memory :=
  laidMet_of_run' 8 (by kernel_rfl) (by kernel_rfl)

end Go.Proofs.YtgciocgdppaaiaaDoor

/- Sizes of what a row reads: a whole number; a struct of a number and a string. -/
namespace Go.Proofs.YtgciocgdppaaiaaDoor
open Go.ChangeShapes Go.WideShapes Go.ChangeAt Go.RowKit
open Go.Proofs.YtgciocgdppaaiaaDoorW.PrintWords

theorem int_wf {n : Int} (h : (Lit.int .i64 n).wf = true) : -9223372036854775808 ≤ n ∧ n ≤ 9223372036854775807 := by
  simp [Lit.wf] at h
  have h1 : IntKind.i64.min = -9223372036854775808 := by decide
  have h2 : IntKind.i64.max = 9223372036854775807 := by decide
  omega

theorem link_sized {H : Type} {ts : List TypeId} {ds : List (DataW H)} {j : Nat} {t : TypeId} {x : Int} {y : ByteArray} {fs : Array Field} {e1 e2 : TypeId}
    (h : (DataW.weightsEach Tryd.prog ts ds).all (· ≤ reachBytes) = true) (ht : ts[j]? = some t) (hd : ds[j]? = some (.agg [.lit (.int .i64 x), .lit (.string y.data.toList)]))
    (hu : Tryd.prog.underlying t = some (.struct fs)) (hf : fs.toList.map (·.type) = [e1, e2]) : y.size ≤ 140737488351232 := by
  have h2 := List.all_eq_true.1 h _ (DataW.weights_mem_each ht hd y.data.toList.length (by simp [DataW.weights, hu, hf, DataW.weightsEach]))
  unfold reachBytes at h2
  rw [← Lib.size_eq] at h2
  simp at h2
  omega

end Go.Proofs.YtgciocgdppaaiaaDoor
