/- Texts of this seat joined into one: Ef, Oa. -/
import Derived.Test.YtcnimekhpnejlaaGreatRows
import Derived.WalkKit
import Derived.ProofKit
import Derived.JoinedOf
import Derived.WideShapes
import Derived.Test.YtcnimekhpnejlaaGreatProg
import Derived.Deep.SlicePairs
import Derived.ChangeArms
import Derived.KernelRfl

/- Closed facts of the program that every row asks, each by itself. -/
namespace Go.Proofs.YtcnimekhpnejlaaGreat.Ev
open Go.ChangeShapes Go.WideShapes Go.ChangeAt Go.RowKit
set_option maxRecDepth 100000
theorem andt {a b : Bool} (h : a = true) (k : b = true) : (a && b) = true := by rw [h, k]; rfl
theorem own : ownKnob Tryz.prog.godebug = none := by kernel_rfl
theorem laidOut : laidOutB Tryz.prog = true := by kernel_rfl
theorem p_maps : mapsRowed Tryz.prog = true := by kernel_rfl
theorem p_stops : (Tryz.prog.stops == []) = true := by kernel_rfl
theorem p_knobs : (Tryz.prog.stopKnobs == []) = true := by kernel_rfl
theorem p_plain : (Rows.fileBackRow.plainKeys == Tryz.prog.plainKeys) = true := by kernel_rfl
theorem p_heard : Tryz.prog.stopsHeard = true := by kernel_rfl
theorem p_enter : Tryz.prog.mayEnter = true := by kernel_rfl
theorem p_lifts : (Rows.fileBackRow.lifted == Tryz.prog.liftsFinal) = true := by kernel_rfl
theorem p_make : (Tryz.prog.make == some Rows.fileBackRow.make) = true := by kernel_rfl
theorem int_range {P : Program} {w : World} {r : Reach} {base : Nat} {t : TypeId} {v : Value} (ht : P.underlying t = some (.int .i64)) (h : Value.okWide P w r base t v) : ∃ n, v = .int .i64 n ∧ (-9223372036854775808 ≤ n ∧ n ≤ 9223372036854775807) := by
  simp only [Value.okWide, ht, Cell.okWide] at h
  cases v <;> simp_all [Cell.ok]
  exact h.2
end Go.Proofs.YtcnimekhpnejlaaGreat.Ev

/- Slices of structs of small fields, opened. -/
namespace Go.Proofs.YtcnimekhpnejlaaGreat
open Go.ChangeShapes Go.WideShapes Go.Deep
set_option linter.unusedVariables false
section
variable {H : Type} {enc : TypeId × Value → H} {P : Program} {w : World} {base : Nat} {spare : Nat → Bool} {held : Bool}
theorem open_rows {t e : TypeId} {fs : Array Field} {k fuel : Nat} {cs : List Value} {x : DataW H × List MemPlace} (ht : P.underlying t = some (.slice e)) (he : P.underlying e = some (.struct fs)) (ce : P.cellsOf e = k)
    (hoff : ∀ (i : Nat) (f : Field), fs[i]? = some f → f.offset = i ∧ P.cellsOf f.type = 1) (hfs : fs.size = k) (h : DataW.trod enc P w base spare held fuel t cs = some x) :
    cs = [.slice none 0 0] ∨ ∃ (a : Addr) (len cap : Nat), cs = [.slice (some a) len cap] ∧ len ≤ cap ∧ cap ≤ maxLen ∧ ∀ i, i < len → ∃ vs : List Value, vs.length = k ∧ (∀ j, j < k → w.cell? (a.add (i * k + j)) = vs[j]?) ∧
      ∀ (j : Nat) (f : Field), fs[j]? = some f → ∃ n y v, vs[j]? = some v ∧ DataW.trod enc P w base spare held n f.type [v] = some y := by
  rcases open_slice ht h with ⟨h0, _⟩ | ⟨a, len, cap, m, n, D, Pl, rfl, hb, hl, hm, hmm, rfl, hx⟩
  · exact Or.inl h0
  right
  have hlm : len ≤ m := by rw [hmm]; split <;> omega
  refine ⟨a, len, cap, rfl, hl, hm, fun i hi => ?_⟩
  obtain ⟨cs', h1, h2⟩ := hx i (by omega)
  rw [ce] at h1
  obtain ⟨_, hlen, hcell⟩ := World.cells?_some h1
  obtain ⟨xs, q, hk, hxy, _, hxl, hf⟩ := DataW.trod_struct he h2
  refine ⟨cs', hlen, fun j hj => ?_, fun j f hj => ?_⟩
  · have e0 := hcell j hj
    rw [add_add] at e0
    rw [List.getElem?_eq_getElem (by omega)]
    exact e0.trans (by first | rfl | simp)
  · obtain ⟨o1, c1⟩ := hoff j f hj
    have hjk : j < k := by
      have := (Array.getElem?_eq_some_iff.1 hj).1
      omega
    have h3 := hf j f hj
    rw [o1, c1, List.drop_eq_getElem_cons (by omega), List.take_succ_cons, List.take_zero] at h3
    exact ⟨q, xs[j]'(by omega), cs'[j]'(by omega), List.getElem?_eq_getElem _, by rw [h3]; exact List.getElem?_eq_getElem _⟩
end
theorem cells_int : Tryz.prog.cellsOf 3 = 1 := by kernel_rfl
theorem cells_string : Tryz.prog.cellsOf 9 = 1 := by kernel_rfl
theorem cells_u64 : Tryz.prog.cellsOf 29 = 1 := by kernel_rfl
theorem lit_i64 {n : Int} (h : (Lit.int .i64 n).wf = true) : -9223372036854775808 ≤ n ∧ n ≤ 9223372036854775807 := by
  have h1 : IntKind.i64.min = -9223372036854775808 := by decide
  have h2 : IntKind.i64.max = 9223372036854775807 := by decide
  simp [Lit.wf] at h
  omega
theorem lit_u64 {n : Int} (h : (Lit.int .u64 n).wf = true) : 0 ≤ n ∧ n ≤ 18446744073709551615 := by
  have h1 : IntKind.u64.min = 0 := by decide
  have h2 : IntKind.u64.max = 18446744073709551615 := by decide
  simp [Lit.wf] at h
  omega
end Go.Proofs.YtcnimekhpnejlaaGreat
