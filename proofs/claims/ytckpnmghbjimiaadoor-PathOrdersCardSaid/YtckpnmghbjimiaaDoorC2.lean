/- path.Parse, walked. -/
import Derived.Test.YtckpnmghbjimiaaDoorC1
import Derived.Test.YtckpnmghbjimiaaDoorG1
import Derived.Test.YtckpnmghbjimiaaDoorPxNameCheck
import Derived.Maps.AppendAt
import Derived.Outline
namespace Go.Proofs.YtckpnmghbjimiaaDoor
open Go.RowKit Go.Shelf

theorem check_any (x : ByteArray) (w : World) (hx : x.size < 4294967281) : Calls Tryd.prog 39 #[.string x] w fun e w' => e = .returned (.int .i64 (checkE x)) ∧ Below w.heap.size w w' := by
  refine P.name_Check.calls x _ w ?_
  have hca : P.strings_ContainsAny.f x (⟨#[0, 47]⟩ : ByteArray) = some (hasBad x) := if_pos ⟨rfl, hx⟩
  unfold P.name_Check.f checkE
  rw [hca]
  simp only [Option.bind_some]
  repeat' split
  all_goals first | rfl | omega

def parsePost (w : World) (r : List ByteArray × Bool × Int × Int) (e : Ending) (w' : World) : Prop :=
  ∃ v0, e = .returned (.tuple #[.agg #[v0, .bool r.2.1], .int .i64 r.2.2.1, .int .i64 r.2.2.2]) ∧ w'.ownsRow w.heap.size 9 1 v0 r.1.length (r.1.map Value.string) ∧ Below w.heap.size w w'

attribute [local go_sem] Oper.semAt_some

/-- Between two rounds. -/
def PInv (B : Nat) (w : World) (pre : List ByteArray) (W : World) : Prop :=
  ∃ (ns : List ByteArray) (d : Bool) (at_ : Int) (v : Value), Hid (runP ([], true, 1) pre = .ok (ns, d, at_)) ∧ W.heap[B]? = some (.cells #[.slice none 0 0, .bool false] 24 (0, 0)) ∧ W.heap[B + 1]? = some (.cells #[.int .i64 0] 3 (0, 0)) ∧
    W.heap[B + 2]? = some (.cells #[.int .i64 0] 35 (0, 0)) ∧ W.heap[B + 3]? = some (.cells #[v, .bool d] 24 (0, 0)) ∧ W.heap[B + 4]? = some (.cells #[.int .i64 at_] 3 (0, 0)) ∧
    W.ownsRow (B + 10) 9 1 v ns.length (ns.map Value.string) ∧ Below B w W
/-- A round has left by a return. -/
def PEnd (B : Nat) (w : World) (c : Code) (pre : List ByteArray) (W : World) : Prop :=
  c = .ret ∧ ∃ (at_ er : Int), Hid (runP ([], true, 1) pre = .error (at_, er)) ∧ W.heap[B]? = some (.cells #[.slice none 0 0, .bool false] 24 (0, 0)) ∧ W.heap[B + 1]? = some (.cells #[.int .i64 at_] 3 (0, 0)) ∧
    W.heap[B + 2]? = some (.cells #[.int .i64 er] 35 (0, 0)) ∧ Below B w W

theorem own_same {W W' : World} {base : Nat} {e : TypeId} {size n : Nat} {v : Value} {xs : List Value} (h : W.ownsRow base e size v n xs) (hm : ∀ k, base ≤ k → k < W.heap.size → W'.heap[k]? = W.heap[k]?) : W'.ownsRow base e size v n xs := by
  obtain ⟨h1, h2⟩ := h
  refine ⟨h1, ?_⟩
  rcases h2 with h2 | ⟨g, cap, cur, rfl, hg, hh, r⟩
  · exact .inl h2
  · exact .inr ⟨g, cap, cur, rfl, hg, (hm g hg (Array.getElem?_eq_some_iff.1 hh).1).trans hh, r⟩
theorem own_base {W : World} {base base' : Nat} {e : TypeId} {size n : Nat} {v : Value} {xs : List Value} (h : W.ownsRow base e size v n xs) (hb : base' ≤ base) : W.ownsRow base' e size v n xs := by
  obtain ⟨h1, h2⟩ := h
  refine ⟨h1, ?_⟩
  rcases h2 with h2 | ⟨g, cap, cur, rfl, hg, r⟩
  · exact .inl h2
  · exact .inr ⟨g, cap, cur, rfl, by omega, r⟩

theorem PInv.step {B : Nat} {w W W' : World} {pre : List ByteArray} (h : PInv B w pre W) (hb : Below B W W') (hm : ∀ k, (B ≤ k ∧ k ≤ B + 4) ∨ (B + 10 ≤ k ∧ k < W.heap.size) → W'.heap[k]? = W.heap[k]?) : PInv B w pre W' := by
  obtain ⟨ns, d, at_, v, h0, h1, h2, h3, h4, h5, h6, h7⟩ := h
  exact ⟨ns, d, at_, v, h0, (hm _ (.inl (by omega))).trans h1, (hm _ (.inl (by omega))).trans h2, (hm _ (.inl (by omega))).trans h3, (hm _ (.inl (by omega))).trans h4, (hm _ (.inl (by omega))).trans h5, own_same h6 (fun k hk hl => hm k (.inr ⟨hk, hl⟩)), h7.trans hb⟩
theorem PEnd.step {B : Nat} {w W W' : World} {c : Code} {pre : List ByteArray} (h : PEnd B w c pre W) (hb : Below B W W') (hm : ∀ k, (B ≤ k ∧ k ≤ B + 4) → W'.heap[k]? = W.heap[k]?) : PEnd B w c pre W' := by
  obtain ⟨h0, at_, er, h1, h2, h3, h4, h5⟩ := h
  exact ⟨h0, at_, er, h1, (hm _ (by omega)).trans h2, (hm _ (by omega)).trans h3, (hm _ (by omega)).trans h4, h5.trans hb⟩

theorem below_putObj {B : Nat} {W : World} {l : Nat} (o' : Obj) (hl : B ≤ l) : Below B W (W.putObj l o') :=
  ⟨rfl, rfl, rfl, by simp, fun k hk => World.putObj_heap_other (by omega)⟩

def sameBoxes (B : Nat) (W W' : World) : Prop := W'.heap[B + 5]? = W.heap[B + 5]? ∧ W'.heap[B + 6]? = W.heap[B + 6]? ∧ W'.heap[B + 7]? = W.heap[B + 7]?

/-- The world ahead of the loop. -/
def aheadW (w : World) (s1 : ByteArray) : World := splitWorld (((((w.alloc (Obj.cells #[Value.slice none 0 0, Value.bool false] 24)).alloc (Obj.cells #[Value.int IntKind.i64 0] 3)).alloc (Obj.cells #[Value.int IntKind.i64 0] 35)).alloc
            (Obj.cells #[Value.slice none 0 0, Value.bool true] 24)).alloc (Obj.cells #[Value.int IntKind.i64 1] 3)) s1

theorem alloc_at (w : World) (o : Obj) (k : Nat) (h : k = w.heap.size) : (w.alloc o).heap[k]? = some o := by subst h; exact World.alloc_heap_new w o
theorem alloc_past {w : World} {k : Nat} {x : Obj} (o : Obj) (h : w.heap[k]? = some x) : (w.alloc o).heap[k]? = some x := (Below.heap_alloc w o k (Array.getElem?_eq_some_iff.1 h).1).trans h

theorem ahead_size (w : World) (s1 : ByteArray) : (aheadW w s1).heap.size = w.heap.size + 8 := by simp [aheadW, splitWorld]
theorem ahead_box (w : World) (s1 : ByteArray) : Boxed (aheadW w s1) (w.heap.size + 5) 9 (.string s1) ∧ Boxed (aheadW w s1) (w.heap.size + 6) 9 (.string ⟨#[47]⟩) ∧ Boxed (aheadW w s1) (w.heap.size + 7) 3 (.int .i64 0) := by
  refine ⟨?_, ?_, ?_⟩ <;> unfold Boxed aheadW splitWorld
  · exact alloc_past _ (alloc_past _ (alloc_at _ _ _ (by simp)))
  · exact alloc_past _ (alloc_at _ _ _ (by simp))
  · exact alloc_at _ _ _ (by simp)
theorem ahead_inv (w : World) (s1 : ByteArray) : PInv w.heap.size w [] (aheadW w s1) := by
  refine ⟨[], true, 1, .slice none 0 0, rfl, ?_, ?_, ?_, ?_, ?_, World.ownsRow_nil _ _ _ _, ?_⟩ <;> unfold aheadW splitWorld
  · exact alloc_past _ (alloc_past _ (alloc_past _ (alloc_past _ (alloc_past _ (alloc_past _ (alloc_past _ (alloc_at _ _ _ rfl)))))))
  · exact alloc_past _ (alloc_past _ (alloc_past _ (alloc_past _ (alloc_past _ (alloc_past _ (alloc_at _ _ _ (by simp)))))))
  · exact alloc_past _ (alloc_past _ (alloc_past _ (alloc_past _ (alloc_past _ (alloc_at _ _ _ (by simp))))))
  · exact alloc_past _ (alloc_past _ (alloc_past _ (alloc_past _ (alloc_at _ _ _ (by simp)))))
  · exact alloc_past _ (alloc_past _ (alloc_past _ (alloc_at _ _ _ (by simp))))
  · exact ((((((((Below.refl _ _).alloc (Nat.le_refl _) _).alloc (by simp) _).alloc (by simp; omega) _).alloc (by simp; omega) _).alloc (by simp; omega) _).alloc (by simp; omega) _).alloc (by simp; omega) _).alloc (by simp; omega) _

end Go.Proofs.YtckpnmghbjimiaaDoor
