/- path.Parse, walked: the loop over the parts. -/
import Derived.Test.YtckpnmghbjimiaaDoorC2
namespace Go.Proofs.YtckpnmghbjimiaaDoor
open Go.RowKit Go.Shelf
attribute [local go_sem] Oper.semAt_some

theorem heap_cells {W : World} {b : Nat} {cs : Array Value} {t : TypeId} {fz : Nat × Nat} (h : W.heap[b]? = some (.cells cs t fz)) (j : Nat) (v : Value) (hv : cs[j]? = some v) : W.cell? ⟨b, j, none⟩ = some v := by simp [World.cell?, h, hv]

theorem heap_frozen {W : World} {b : Nat} {cs : Array Value} {t : TypeId} (h : W.heap[b]? = some (.cells cs t (0, 0))) (j : Nat) : W.frozen? ⟨b, j, none⟩ = false := by simp [World.frozen?, h]
theorem set_heap {W : World} {b j : Nat} {cs : Array Value} {t : TypeId} {fz : Nat × Nat} (u : Value) (h : W.heap[b]? = some (.cells cs t fz)) : (W.setCell ⟨b, j, none⟩ u).heap[b]? = some (.cells (cs.setIfInBounds j u) t fz) := by
  obtain ⟨hlt, hk⟩ := Array.getElem?_eq_some_iff.1 h
  show (W.heap.modify b _)[b]? = _
  rw [Array.getElem?_eq_getElem (by rw [Array.size_modify]; exact hlt), Array.getElem_modify_self, hk]
  rfl
theorem setCell_size (W : World) (a : Addr) (u : Value) : (W.setCell a u).heap.size = W.heap.size := by simp [World.setCell]
theorem own_cells {W : World} {base : Nat} {e : TypeId} {size n : Nat} {v : Value} {xs : List Value} (h : W.ownsRow base e size v n xs) (k : Nat) (hk : some k = v.ownBlock) : base ≤ k ∧ ∃ c, W.heap[k]? = some (.cells c e (0, 0)) := by
  rcases h.2 with ⟨rfl, _⟩ | ⟨g, cap, cur, rfl, hg, hh, r⟩
  · simp [Value.ownBlock] at hk
  · obtain rfl : k = g := by simpa [Value.ownBlock] using hk
    exact ⟨hg, cur, hh⟩

theorem round_ok {B : Nat} {w W W2 : World} {pre : List ByteArray} {x : ByteArray} {v v' : Value} {n : Nat} {xs : List Value} {ns' : List ByteArray} {d' : Bool} {at' : Int}
    (hc0 : W.heap[B]? = some (.cells #[.slice none 0 0, .bool false] 24 (0, 0))) (hc1 : W.heap[B + 1]? = some (.cells #[.int .i64 0] 3 (0, 0))) (hc2 : W.heap[B + 2]? = some (.cells #[.int .i64 0] 35 (0, 0)))
    (hown : W.ownsRow (B + 10) 9 1 v n xs) (hbel : Below B w W) (hsz : B + 10 ≤ W.heap.size) (hsize : W.heap.size ≤ W2.heap.size)
    (hsame : ∀ k, k < W.heap.size → k ≠ B + 3 → k ≠ B + 4 → some k ≠ v.ownBlock → W2.heap[k]? = W.heap[k]?) (hB : Below B W W2)
    (h3' : W2.heap[B + 3]? = some (.cells #[v', .bool d'] 24 (0, 0))) (h4' : W2.heap[B + 4]? = some (.cells #[.int .i64 at'] 3 (0, 0)))
    (hown' : W2.ownsRow (B + 10) 9 1 v' ns'.length (ns'.map Value.string)) (hrun' : runP ([], true, 1) (pre ++ [x]) = .ok (ns', d', at')) :
    KeepsFrom (B + 8) W W2 ∧ sameBoxes B W W2 ∧ PInv B w (pre ++ [x]) W2 := by
  have hno : ∀ k, k < B + 8 → some k ≠ v.ownBlock := fun k hk e => by have := (own_cells hown k e).1; omega
  refine ⟨⟨hsize, fun k o hk ho hc => ?_⟩, ⟨hsame _ (by omega) (by omega) (by omega) (hno _ (by omega)), hsame _ (by omega) (by omega) (by omega) (hno _ (by omega)), hsame _ (by omega) (by omega) (by omega) (hno _ (by omega))⟩, ?_⟩
  · rw [hsame k (Array.getElem?_eq_some_iff.1 ho).1 (by omega) (by omega) (fun e => ?_)]
    · exact ho
    · obtain ⟨_, c, hcc⟩ := own_cells hown k e
      rw [hcc] at ho
      cases ho
      cases hc
  · exact ⟨ns', d', at', v', hrun', (hsame _ (by omega) (by omega) (by omega) (hno _ (by omega))).trans hc0, (hsame _ (by omega) (by omega) (by omega) (hno _ (by omega))).trans hc1, (hsame _ (by omega) (by omega) (by omega) (hno _ (by omega))).trans hc2, h3', h4', hown', hbel.trans hB⟩

/-- Two stores: the mark, the place. -/
theorem round_two {B : Nat} {w W : World} {pre : List ByteArray} {x : ByteArray} {v : Value} {ns : List ByteArray} {d d' : Bool} {at_ at' : Int}
    (hc0 : W.heap[B]? = some (.cells #[.slice none 0 0, .bool false] 24 (0, 0))) (hc1 : W.heap[B + 1]? = some (.cells #[.int .i64 0] 3 (0, 0))) (hc2 : W.heap[B + 2]? = some (.cells #[.int .i64 0] 35 (0, 0)))
    (hc3 : W.heap[B + 3]? = some (.cells #[v, .bool d] 24 (0, 0))) (hc4 : W.heap[B + 4]? = some (.cells #[.int .i64 at_] 3 (0, 0)))
    (hown : W.ownsRow (B + 10) 9 1 v ns.length (ns.map Value.string)) (hbel : Below B w W) (hsz : B + 10 ≤ W.heap.size) (hrun' : runP ([], true, 1) (pre ++ [x]) = .ok (ns, d', at')) :
    KeepsFrom (B + 8) W ((W.setCell ⟨B + 3, 1, none⟩ (.bool d')).setCell ⟨B + 4, 0, none⟩ (.int .i64 at')) ∧ sameBoxes B W ((W.setCell ⟨B + 3, 1, none⟩ (.bool d')).setCell ⟨B + 4, 0, none⟩ (.int .i64 at')) ∧
      PInv B w (pre ++ [x]) ((W.setCell ⟨B + 3, 1, none⟩ (.bool d')).setCell ⟨B + 4, 0, none⟩ (.int .i64 at')) := by
  have hs : ∀ k, k ≠ B + 3 → k ≠ B + 4 → ((W.setCell ⟨B + 3, 1, none⟩ (.bool d')).setCell ⟨B + 4, 0, none⟩ (.int .i64 at')).heap[k]? = W.heap[k]? := fun k h3 h4 =>
    (Below.heap_setCell _ _ _ k (by simpa using h4)).trans (Below.heap_setCell _ _ _ k (by simpa using h3))
  exact round_ok hc0 hc1 hc2 hown hbel hsz (by rw [setCell_size, setCell_size]; exact Nat.le_refl _) (fun k _ h3 h4 _ => hs k h3 h4) (((Below.refl _ _).setCell (by simp) _).setCell (by simp) _)
    ((Below.heap_setCell _ _ _ _ (by simp)).trans (set_heap _ hc3)) (set_heap _ ((Below.heap_setCell _ _ _ _ (by simp)).trans hc4)) (own_same hown (fun k hk _ => hs k (by omega) (by omega))) hrun'

/-- An error is laid. -/
theorem round_err {B : Nat} {w W W3 : World} {pre : List ByteArray} {x : ByteArray} {at_ er : Int}
    (hc0 : W3.heap[B]? = some (.cells #[.slice none 0 0, .bool false] 24 (0, 0))) (hc1 : W3.heap[B + 1]? = some (.cells #[.int .i64 0] 3 (0, 0))) (hc2 : W3.heap[B + 2]? = some (.cells #[.int .i64 0] 35 (0, 0)))
    (hb3 : Below W.heap.size W W3) (hbel : Below B w W) (hsz : B + 10 ≤ W.heap.size) (hrun' : runP ([], true, 1) (pre ++ [x]) = .error (at_, er)) :
    KeepsFrom (B + 8) W ((((W3.setCell ⟨B, 0, none⟩ (.slice none 0 0)).setCell ⟨B, 1, none⟩ (.bool false)).setCell ⟨B + 1, 0, none⟩ (.int .i64 at_)).setCell ⟨B + 1 + 1, 0, none⟩ (.int .i64 er)).drew ∧
      PEnd B w .ret (pre ++ [x]) ((((W3.setCell ⟨B, 0, none⟩ (.slice none 0 0)).setCell ⟨B, 1, none⟩ (.bool false)).setCell ⟨B + 1, 0, none⟩ (.int .i64 at_)).setCell ⟨B + 1 + 1, 0, none⟩ (.int .i64 er)).drew := by
  have hs : ∀ k, k ≠ B → k ≠ B + 1 → k ≠ B + 2 → ((((W3.setCell ⟨B, 0, none⟩ (.slice none 0 0)).setCell ⟨B, 1, none⟩ (.bool false)).setCell ⟨B + 1, 0, none⟩ (.int .i64 at_)).setCell ⟨B + 1 + 1, 0, none⟩ (.int .i64 er)).drew.heap[k]? = W3.heap[k]? := fun k h0 h1 h2 =>
    (Below.heap_setCell _ _ _ k (by simpa using h2)).trans ((Below.heap_setCell _ _ _ k (by simpa using h1)).trans ((Below.heap_setCell _ _ _ k (by simpa using h0)).trans (Below.heap_setCell _ _ _ k (by simpa using h0))))
  have hbb : Below B W ((((W3.setCell ⟨B, 0, none⟩ (.slice none 0 0)).setCell ⟨B, 1, none⟩ (.bool false)).setCell ⟨B + 1, 0, none⟩ (.int .i64 at_)).setCell ⟨B + 1 + 1, 0, none⟩ (.int .i64 er)).drew :=
    (((((hb3.mono (by omega)).setCell (by simp) _).setCell (by simp) _).setCell (by simp) _).setCell (by simp; omega) _).drew
  refine ⟨⟨hbb.size, fun k o hk ho hc => (hs k (by omega) (by omega) (by omega)).trans ((hb3.block k (Array.getElem?_eq_some_iff.1 ho).1).trans ho)⟩, rfl, at_, er, hrun', ?_, ?_, ?_, hbel.trans hbb⟩
  · exact (Below.heap_setCell _ _ _ _ (by dsimp only; omega)).trans ((Below.heap_setCell _ _ _ _ (by dsimp only; omega)).trans (set_heap _ (set_heap _ hc0)))
  · exact (Below.heap_setCell _ _ _ _ (by dsimp only; omega)).trans (set_heap _ ((Below.heap_setCell _ _ _ _ (by dsimp only; omega)).trans ((Below.heap_setCell _ _ _ _ (by dsimp only; omega)).trans hc1)))
  · exact set_heap _ ((Below.heap_setCell _ _ _ _ (by dsimp only; omega)).trans ((Below.heap_setCell _ _ _ _ (by dsimp only; omega)).trans ((Below.heap_setCell _ _ _ _ (by dsimp only; omega)).trans hc2)))

theorem cell_one_at (w : World) (n : Nat) (hn : n = w.heap.size) (v : Value) (t : TypeId) : ∀ j u, [v][j]? = some u → (w.alloc (.cells #[v] t)).cell? ((⟨n, 0, none⟩ : Addr).add j) = some u := by
  subst hn
  exact cell_one_new _ _ _

theorem after_append {B : Nat} {W3 w1 : World} {v : Value} {n : Nat} {xs : List Value} {d : Bool} {at_ : Int} {tmp : Obj}
    (hc3 : W3.heap[B + 3]? = some (.cells #[v, .bool d] 24 (0, 0))) (hc4 : W3.heap[B + 4]? = some (.cells #[.int .i64 at_] 3 (0, 0)))
    (own3 : W3.ownsRow (B + 10) 9 1 v n xs) (hgrow : ((W3.setCell ⟨B + 1 + 1 + 1, 1, none⟩ (.bool false)).alloc tmp).grownBy w1 v.ownBlock) (hsz : B + 10 ≤ W3.heap.size) :
    w1.heap[B + 1 + 1 + 1]? = some (.cells #[v, .bool false] 24 (0, 0)) ∧ w1.heap[B + 1 + 1 + 1 + 1]? = some (.cells #[.int .i64 at_] 3 (0, 0)) := by
  have hno : ∀ k, k < B + 8 → some k ≠ v.ownBlock := fun k hk e => by have := (own_cells own3 k e).1; omega
  refine ⟨(hgrow.block _ (by rw [World.size_alloc, setCell_size]; omega) (hno _ (by omega))).trans (alloc_past _ (set_heap _ hc3)), (hgrow.block _ (by rw [World.size_alloc, setCell_size]; omega) (hno _ (by omega))).trans (alloc_past _ ((Below.heap_setCell _ _ _ _ (by simp)).trans hc4))⟩

/-- A name more. -/
theorem round_append {B : Nat} {w W W3 w1 : World} {pre : List ByteArray} {x : ByteArray} {v v' : Value} {ns : List ByteArray} {d : Bool} {at_ at' : Int} {tmp : Obj}
    (hc0 : W3.heap[B]? = some (.cells #[.slice none 0 0, .bool false] 24 (0, 0))) (hc1 : W3.heap[B + 1]? = some (.cells #[.int .i64 0] 3 (0, 0))) (hc2 : W3.heap[B + 2]? = some (.cells #[.int .i64 0] 35 (0, 0)))
    (hc3 : W3.heap[B + 3]? = some (.cells #[v, .bool d] 24 (0, 0))) (hc4 : W3.heap[B + 4]? = some (.cells #[.int .i64 at_] 3 (0, 0)))
    (own3 : W3.ownsRow (B + 10) 9 1 v ns.length (ns.map Value.string)) (hgrow : ((W3.setCell ⟨B + 1 + 1 + 1, 1, none⟩ (.bool false)).alloc tmp).grownBy w1 v.ownBlock)
    (hown' : w1.ownsRow (B + 10) 9 1 v' (ns.length + 1) (ns.map Value.string ++ [.string x])) (hb3 : Below W.heap.size W W3) (hown : W.ownsRow (B + 10) 9 1 v ns.length (ns.map Value.string)) (hbel : Below B w W) (hsz : B + 10 ≤ W.heap.size)
    (hrun' : runP ([], true, 1) (pre ++ [x]) = .ok (ns ++ [x], false, at')) :
    KeepsFrom (B + 8) W ((w1.setCell ⟨B + 1 + 1 + 1, 0, none⟩ v').setCell ⟨B + 1 + 1 + 1 + 1, 0, none⟩ (.int .i64 at')) ∧ sameBoxes B W ((w1.setCell ⟨B + 1 + 1 + 1, 0, none⟩ v').setCell ⟨B + 1 + 1 + 1 + 1, 0, none⟩ (.int .i64 at')) ∧
      PInv B w (pre ++ [x]) ((w1.setCell ⟨B + 1 + 1 + 1, 0, none⟩ v').setCell ⟨B + 1 + 1 + 1 + 1, 0, none⟩ (.int .i64 at')) := by
  have hz := hb3.size
  have hA := after_append hc3 hc4 own3 hgrow (by omega)
  have hgs := hgrow.size
  rw [World.size_alloc, setCell_size] at hgs
  have hs : ∀ k, k < W3.heap.size → k ≠ B + 3 → k ≠ B + 4 → some k ≠ v.ownBlock → ((w1.setCell ⟨B + 1 + 1 + 1, 0, none⟩ v').setCell ⟨B + 1 + 1 + 1 + 1, 0, none⟩ (.int .i64 at')).heap[k]? = W3.heap[k]? := fun k hk h3 h4 hv =>
    (Below.heap_setCell _ _ _ k (by simpa using h4)).trans ((Below.heap_setCell _ _ _ k (by simpa using h3)).trans ((hgrow.block k (by rw [World.size_alloc, setCell_size]; omega) hv).trans ((Below.heap_alloc _ _ _ (by rw [setCell_size]; exact hk)).trans (Below.heap_setCell _ _ _ k (by simpa using h3)))))
  have hno : ∀ k, k < B + 8 → some k ≠ v.ownBlock := fun k hk e => by have := (own_cells own3 k e).1; omega
  have h0 : W.heap[B]? = W3.heap[B]? := (hb3.block _ (by omega)).symm
  have h1 : W.heap[B + 1]? = W3.heap[B + 1]? := (hb3.block _ (by omega)).symm
  have h2 : W.heap[B + 2]? = W3.heap[B + 2]? := (hb3.block _ (by omega)).symm
  refine round_ok (v' := v') (h0.trans hc0) (h1.trans hc1) (h2.trans hc2) hown hbel hsz (by rw [setCell_size, setCell_size]; omega) (fun k hk h3 h4 hv => (hs k (by omega) h3 h4 hv).trans (hb3.block k hk)) ?_ ?_ ?_ ?_ hrun'
  · refine Below.setCell (Below.setCell ?_ (by simp; omega) _) (by simp; omega) _
    exact ((((hb3.mono (by omega)).setCell (by simp; omega) _).alloc (by rw [setCell_size]; omega) _).grown hgrow (by rw [World.size_alloc, setCell_size]; omega) (fun k hk => by have := (own_cells own3 k hk.symm).1; omega))
  · exact (Below.heap_setCell _ _ _ _ (by simp)).trans (set_heap _ hA.1)
  · exact set_heap _ ((Below.heap_setCell _ _ _ _ (by simp)).trans hA.2)
  · rw [List.length_append, List.map_append]
    refine own_same hown' (fun k hk _ => ?_)
    exact (Below.heap_setCell _ _ _ k (by simp; omega)).trans (Below.heap_setCell _ _ _ k (by simp; omega))

/-- Three stores: the mark, the names, the place. -/
theorem round_three {B : Nat} {w W : World} {pre : List ByteArray} {x : ByteArray} {v v' : Value} {ns ns' : List ByteArray} {d d' : Bool} {at_ at' : Int}
    (hc0 : W.heap[B]? = some (.cells #[.slice none 0 0, .bool false] 24 (0, 0))) (hc1 : W.heap[B + 1]? = some (.cells #[.int .i64 0] 3 (0, 0))) (hc2 : W.heap[B + 2]? = some (.cells #[.int .i64 0] 35 (0, 0)))
    (hc3 : W.heap[B + 3]? = some (.cells #[v, .bool d] 24 (0, 0))) (hc4 : W.heap[B + 4]? = some (.cells #[.int .i64 at_] 3 (0, 0)))
    (hown : W.ownsRow (B + 10) 9 1 v ns.length (ns.map Value.string)) (hown' : W.ownsRow (B + 10) 9 1 v' ns'.length (ns'.map Value.string)) (hbel : Below B w W) (hsz : B + 10 ≤ W.heap.size) (hrun' : runP ([], true, 1) (pre ++ [x]) = .ok (ns', d', at')) :
    KeepsFrom (B + 8) W (((W.setCell ⟨B + 3, 1, none⟩ (.bool d')).setCell ⟨B + 3, 0, none⟩ v').setCell ⟨B + 4, 0, none⟩ (.int .i64 at')) ∧ sameBoxes B W (((W.setCell ⟨B + 3, 1, none⟩ (.bool d')).setCell ⟨B + 3, 0, none⟩ v').setCell ⟨B + 4, 0, none⟩ (.int .i64 at')) ∧
      PInv B w (pre ++ [x]) (((W.setCell ⟨B + 3, 1, none⟩ (.bool d')).setCell ⟨B + 3, 0, none⟩ v').setCell ⟨B + 4, 0, none⟩ (.int .i64 at')) := by
  have hs : ∀ k, k ≠ B + 3 → k ≠ B + 4 → (((W.setCell ⟨B + 3, 1, none⟩ (.bool d')).setCell ⟨B + 3, 0, none⟩ v').setCell ⟨B + 4, 0, none⟩ (.int .i64 at')).heap[k]? = W.heap[k]? := fun k h3 h4 =>
    (Below.heap_setCell _ _ _ k (by simpa using h4)).trans ((Below.heap_setCell _ _ _ k (by simpa using h3)).trans (Below.heap_setCell _ _ _ k (by simpa using h3)))
  exact round_ok hc0 hc1 hc2 hown hbel hsz (by rw [setCell_size, setCell_size, setCell_size]; exact Nat.le_refl _) (fun k _ h3 h4 _ => hs k h3 h4) ((((Below.refl _ _).setCell (by simp) _).setCell (by simp) _).setCell (by simp) _)
    ((Below.heap_setCell _ _ _ _ (by simp)).trans (set_heap _ (set_heap _ hc3))) (set_heap _ ((Below.heap_setCell _ _ _ _ (by simp)).trans ((Below.heap_setCell _ _ _ _ (by simp)).trans hc4))) (own_same hown' (fun k hk _ => hs k (by omega) (by omega))) hrun'

set_option maxRecDepth 100000 in
theorem res17 {tmps : Array Value} {W : World} {B : Nat} {va : Option Addr} {vl vc : Nat} {d : Bool} {at_ er : Int} (h2 : tmps.getD 2 undef = .pointer (some ⟨B, 0, none⟩)) (h3 : tmps.getD 3 undef = .pointer (some ⟨B + 1, 0, none⟩)) (h4 : tmps.getD 4 undef = .pointer (some ⟨B + 1 + 1, 0, none⟩))
    (g0 : W.heap[B]? = some (.cells #[.slice va vl vc, .bool d] 24 (0, 0))) (g1 : W.heap[B + 1]? = some (.cells #[.int .i64 at_] 3 (0, 0))) (g2 : W.heap[B + 1 + 1]? = some (.cells #[.int .i64 er] 35 (0, 0))) :
    (results Tryd.f17 tmps).run Tryd.prog W = .ok (.tuple #[.agg #[.slice va vl vc, .bool d], .int .i64 at_, .int .i64 er]) W := by
  have k00 : W.cell? ⟨B, 0, none⟩ = some (.slice va vl vc) := heap_cells g0 0 _ rfl
  have k01 : W.cell? ⟨B, 1, none⟩ = some (.bool d) := heap_cells g0 1 _ rfl
  have k1 : W.cell? ⟨B + 1, 0, none⟩ = some (.int .i64 at_) := heap_cells g1 0 _ rfl
  have k2 : W.cell? ⟨B + 1 + 1, 0, none⟩ = some (.int .i64 er) := heap_cells g2 0 _ rfl
  rw [Array.getD_eq_getD_getElem?] at h2 h3 h4
  simp [results, Tryd.results17, go_sem, h2, h3, h4, k00, k01, k1, k2]

set_option maxRecDepth 100000 in
set_option maxHeartbeats 8000000 in
theorem parse_good (s : ByteArray) (w : World) (h : s.size ≤ 1024) (h0 : s.toList.isEmpty = false) (hp : 0 < s.size) (h47 : (((s[0]'hp).toNat : Int) != 47) = false) : Calls Tryd.prog 17 #[.string s] w (parsePost w (parseR s)) := by
  have hd : decide ((1024 : Int) < (s.size : Int)) = false := decide_eq_false (by omega)
  obtain ⟨i0, hi, hz0, hz1, hz2⟩ := info_parts P.info9
  refine (callsIn_wide (n := 5)).1 ?_
  refine callsIn_of_wp_marks Tryd.func17 rfl trivial ?_ rfl
  simp only [Tryd.ntmps17, List.size_toArray, List.length_cons, List.length_nil, Nat.reduceAdd, Nat.reduceSub, Array.replicate_succ, Array.replicate_zero, List.push_toArray, List.append_toArray, List.nil_append, List.cons_append]
  gi_wp2_with (refine ⟨trivial, ?_⟩; gi_at_call 38; refine (callsIn_wide.2 (SplitSeq_any _ _)).mono ?_; rintro e w' ⟨rfl, rfl⟩)
  have hW : ∃ W0, W0 = aheadW w (s.extract 1 s.size) := ⟨_, rfl⟩
  obtain ⟨W0, hW0⟩ := hW
  have hsz : W0.heap.size = w.heap.size + 8 := by rw [hW0]; exact ahead_size _ _
  have hin : PInv w.heap.size w [] W0 := by rw [hW0]; exact ahead_inv _ _
  obtain ⟨hb1, hb2, hb3⟩ : Boxed W0 (w.heap.size + 5) 9 (.string (s.extract 1 s.size)) ∧ Boxed W0 (w.heap.size + 6) 9 (.string ⟨#[47]⟩) ∧ Boxed W0 (w.heap.size + 7) 3 (.int .i64 0) := by rw [hW0]; exact ahead_box _ _
  change Code.wpIn _ _ _ _ _ _ (aheadW w (s.extract 1 s.size))
  rw [← hW0]
  clear hW0
  refine wpIn_rangeFunc_boxed rfl (by omega) (gf := 64) (lb := #[.pointer (some ⟨w.heap.size + 6, 0, none⟩), .pointer (some ⟨w.heap.size + 5, 0, none⟩), .pointer (some ⟨w.heap.size + 7, 0, none⟩)]) rfl trivial (enters_of Tryd.func64 (by kernel_rfl) rfl)
    (encs := fun x : ByteArray => #[Value.string x]) (Kp := sameBoxes w.heap.size) (St := fun A B => ∃ u, B = A.setCell ⟨w.heap.size + 5, 0, none⟩ (.string u)) (Ok := fun ys => ys <+: parts (s.extract 1 s.size)) (S := fun ys => ys = parts (s.extract 1 s.size)) ?seq
    (fun h k => ⟨k.1.trans h.1, k.2.1.trans h.2.1, k.2.2.trans h.2.2⟩)
    (fun W l o o' hl _ => ⟨World.putObj_heap_other (by omega), World.putObj_heap_other (by omega), World.putObj_heap_other (by omega)⟩)
    (fun {A B} hst k hk => by obtain ⟨u, rfl⟩ := hst; exact Below.heap_setCell _ _ _ k (by simp; omega)) (fun _ => rfl)
    (PInv w.heap.size w) (fun c pre W => pre <+: parts (s.extract 1 s.size) ∧ PEnd w.heap.size w c pre W)
    (fun o hi o' => hi.step ((Below.refl _ _).alloc (by simp; omega) _) (fun k hk => Below.heap_alloc _ _ k (by rcases hk with hk | hk; (simp; omega); exact hk.2)))
    (fun o => hin.step ((Below.refl _ _).alloc (by omega) _) (fun k hk => Below.heap_alloc _ _ k (by omega)))
    (fun pre A B hi hst => by obtain ⟨u, rfl⟩ := hst; exact hi.step ((Below.refl _ _).setCell (by simp) _) (fun k hk => Below.heap_setCell _ _ _ k (by simp; omega)))
    (fun pre W l o o' hi hl hl2 ho hc => hi.step (below_putObj _ (by omega)) (fun k hk => World.putObj_heap_other (by omega)))
    (fun c pre W l o o' hi hl hl2 ho hc => ⟨hi.1, hi.2.step (below_putObj _ (by omega)) (fun k hk => World.putObj_heap_other (by omega))⟩)
    (fun x => { tmps := #[Value.string s, undef, Value.pointer (some { block := w.heap.size, off := 0 }),
          Value.pointer (some { block := w.heap.size + 1, off := 0 }),
          Value.pointer (some { block := w.heap.size + 1 + 1, off := 0 }),
          Value.pointer (some { block := w.heap.size + 1 + 1 + 1, off := 0 }),
          Value.pointer (some { block := w.heap.size + 1 + 1 + 1 + 1, off := 0 }), .string x, undef, Value.bool false,
          Value.string s, Value.int IntKind.i64 ↑s.size, Value.bool false, undef, Value.bool false, Value.string s,
          Value.bool false, Value.bool false, Value.string s, Value.int IntKind.u8 ↑s[0].toNat, Value.bool false,
          Value.bool false, undef, Value.agg #[Value.slice none 0 0, Value.bool true], Value.string s,
          Value.string (s.extract 1 s.size),
          Value.func (Fn.func 64) #[]
            #[Value.pointer (some { block := w.heap.size + 1 + 1 + 1 + 1 + 1 + 1, off := 0 }),
              Value.pointer (some { block := w.heap.size + 1 + 1 + 1 + 1 + 1, off := 0 }),
              Value.pointer (some { block := w.heap.size + 1 + 1 + 1 + 1 + 1 + 1 + 1, off := 0 })],
          .string x, undef, undef, undef, undef, undef, undef, undef, undef, undef, undef, undef, undef, undef, undef,
          undef, undef, undef, undef, undef, undef, undef, undef, undef, undef, undef, undef, undef, undef, undef, undef, undef, undef, undef, undef, undef, undef, undef, undef, undef, undef, undef, undef, undef, undef, undef], defers := [] }) ?assign ?body ?done ?stop
  case seq =>
    intro l J Jx W hbw hJ hY hJ0
    have e1 : W.heap[w.heap.size + 5]? = W0.heap[w.heap.size + 5]? := hbw.block _ (by omega)
    have e2 : W.heap[w.heap.size + 6]? = W0.heap[w.heap.size + 6]? := hbw.block _ (by omega)
    have e3 : W.heap[w.heap.size + 7]? = W0.heap[w.heap.size + 7]? := hbw.block _ (by omega)
    exact split1_in 4 (by omega) l (w.heap.size + 5) (w.heap.size + 6) (w.heap.size + 7) (s.extract 1 s.size) (by simp; omega) J Jx (fun pre A u hj => hJ _ _ _ hj ⟨u, rfl⟩) ⟨by omega, by omega⟩ hY W (e1.trans hb1) (e2.trans hb2) (e3.trans hb3) hJ0
  case assign =>
    intro l x W K hK
    gi_wp2
    exact hK
  case body =>
    intro l pre x W hi hWs hok
    obtain ⟨ns, d, at_, v, hrun, hc0, hc1, hc2, hc3, hc4, hown, hbel⟩ := hi
    have hbs : Below w.heap.size W W := Below.refl _ _
    have hat := runP_at _ _ _ hrun
    have hnl := runP_len _ _ _ hrun (by simp)
    have hle := prefix_lens hok
    rw [lensP_parts, lensP_append] at hle
    have hxs : lensP [x] = x.size + 1 := by simp [lensP]
    have hs1 : (s.extract 1 s.size).size = s.size - 1 := by simp
    rw [hxs, hs1] at hle
    dsimp only at hat hnl
    have hat1 : 1 ≤ at_ := by omega
    have hat2 : at_ + x.size + 1 ≤ 1200 := by omega
    have hx1 : x.size ≤ 1200 := by omega
    clear hat hle hxs hs1 h47 hin hb1 hb2 hb3
    have hC0 := Lib.hid hc0
    have hC1 := Lib.hid hc1
    have hC2 := Lib.hid hc2
    have hC3 := Lib.hid hc3
    have hC4 := Lib.hid hc4
    have k00 : W.cell? ⟨w.heap.size, 0, none⟩ = some (.slice none 0 0) := heap_cells hc0 0 _ rfl
    have k01 : W.cell? ⟨w.heap.size, 1, none⟩ = some (.bool false) := heap_cells hc0 1 _ rfl
    have k1 : W.cell? ⟨w.heap.size + 1, 0, none⟩ = some (.int .i64 0) := heap_cells hc1 0 _ rfl
    have k2 : W.cell? ⟨w.heap.size + 1 + 1, 0, none⟩ = some (.int .i64 0) := heap_cells hc2 0 _ rfl
    have k30 : W.cell? ⟨w.heap.size + 1 + 1 + 1, 0, none⟩ = some v := heap_cells hc3 0 _ rfl
    have k31 : W.cell? ⟨w.heap.size + 1 + 1 + 1, 1, none⟩ = some (.bool d) := heap_cells hc3 1 _ rfl
    have k4 : W.cell? ⟨w.heap.size + 1 + 1 + 1 + 1, 0, none⟩ = some (.int .i64 at_) := heap_cells hc4 0 _ rfl
    have f00 : W.frozen? ⟨w.heap.size, 0, none⟩ = false := heap_frozen hc0 0
    have f01 : W.frozen? ⟨w.heap.size, 1, none⟩ = false := heap_frozen hc0 1
    have f1 : W.frozen? ⟨w.heap.size + 1, 0, none⟩ = false := heap_frozen hc1 0
    have f2 : W.frozen? ⟨w.heap.size + 1 + 1, 0, none⟩ = false := heap_frozen hc2 0
    have f30 : W.frozen? ⟨w.heap.size + 1 + 1 + 1, 0, none⟩ = false := heap_frozen hc3 0
    have f31 : W.frozen? ⟨w.heap.size + 1 + 1 + 1, 1, none⟩ = false := heap_frozen hc3 1
    have f4 : W.frozen? ⟨w.heap.size + 1 + 1 + 1 + 1, 0, none⟩ = false := heap_frozen hc4 0
    clear hc0 hc1 hc2 hc3 hc4
    have hstep := runP_snoc x hrun
    have HR := Lib.hid hstep
    clear hstep
    by_cases e1 : x.toList = []
    · have t1 : x.toList.isEmpty = true := by rw [e1]; rfl
      have E1 := Lib.hid e1
      clear e1
      gi_wp2
      rw [hsz]
      exact round_two hC0.out hC1.out hC2.out hC3.out hC4.out hown hbel (by omega) (by rw [HR.out, stepP, if_pos E1.out])
    · have t1 : x.toList.isEmpty = false := by simpa using e1
      have E1 := Lib.hid e1
      clear e1
      by_cases e2 : x.toList = [46]
      · have t2 : (x.toList == [46]) = true := by simpa using e2
        have E2 := Lib.hid e2
        clear e2
        gi_wp2
        rw [hsz]
        exact round_two hC0.out hC1.out hC2.out hC3.out hC4.out hown hbel (by omega) (by rw [HR.out, stepP, if_neg E1.out, if_pos E2.out])
      · have t2 : (x.toList == [46]) = false := by simpa using e2
        have E2 := Lib.hid e2
        clear e2
        by_cases e3 : x.toList = [46, 46]
        · have t3 : (x.toList == [46, 46]) = true := by simpa using e3
          have E3 := Lib.hid e3
          clear e3
          rcases hown.2 with ⟨rfl, hn⟩ | ⟨g, cap, cur, rfl, hg, hh, hcap, hmax, hcur, htake⟩
          · obtain rfl : ns = [] := List.eq_nil_of_length_eq_zero hn
            gi_wp2
            rw [hsz]
            exact round_three (ns := []) (ns' := []) hC0.out hC1.out hC2.out hC3.out hC4.out hown (World.ownsRow_nil _ _ _ _) hbel (by omega) (by rw [HR.out, stepP, if_neg E1.out, if_neg E2.out, if_pos E3.out]; rfl)
          · have hmx0 : 0 ≤ max 0 ((ns.length : Int) - 1) := by omega
            have hmx1 : max 0 ((ns.length : Int) - 1) ≤ (cap : Int) := by omega
            have hmx2 : (max 0 ((ns.length : Int) - 1)).toNat = ns.length - 1 := by omega
            have HM := Lib.hid hmx2
            have HT := Lib.hid htake
            have HC := Lib.hid hcur
            clear hmx2 htake hcur
            gi_wp2
            rw [HM.out, hsz]
            refine round_three (ns := ns) (ns' := ns.dropLast) hC0.out hC1.out hC2.out hC3.out hC4.out hown ⟨by simp, .inr ⟨g, cap, cur, by rw [List.length_dropLast], hg, hh, by simp; omega, hmax, HC.out, ?_⟩⟩ hbel (by omega) (by rw [HR.out, stepP, if_neg E1.out, if_neg E2.out, if_pos E3.out])
            have ht := HT.out
            rw [Nat.mul_one] at ht ⊢
            rw [List.length_dropLast, List.dropLast_eq_take, List.map_take, ← ht, List.take_take]
            congr 1
            omega
        · have t3 : (x.toList == [46, 46]) = false := by simpa using e3
          have E3 := Lib.hid e3
          clear e3
          have hck := check_any x W (by omega)
          have HP : stepP (ns, d, at_) x = if checkE x ≠ 0 then .error (at_, checkE x) else if ns.length = 32 then .error (at_, 182) else .ok (ns ++ [x], false, at_ + (x.size + 1)) := by rw [stepP, if_neg E1.out, if_neg E2.out, if_neg E3.out]
          have HQ := Lib.hid (HR.out.trans HP)
          clear HP HR
          generalize checkE x = er at *
          have hck2 := Lib.hid hck
          clear hck
          have hg0 : w.heap.size + 10 ≤ W.heap.size := by omega
          gi_wp2_with fail
          refine ⟨trivial, ?_⟩
          refine (CallsIn.inRound l (callsIn_wide.2 hck2.out)).mono ?_
          rintro e W3 ⟨rfl, hb3⟩
          have D0 := (hb3.block (w.heap.size) (by omega)).trans hC0.out
          have D1 := (hb3.block (w.heap.size + 1) (by omega)).trans hC1.out
          have D2 := (hb3.block (w.heap.size + 2) (by omega)).trans hC2.out
          have D3 := (hb3.block (w.heap.size + 3) (by omega)).trans hC3.out
          have D4 := (hb3.block (w.heap.size + 4) (by omega)).trans hC4.out
          have own3 : W3.ownsRow (w.heap.size + 10) 9 1 v ns.length (ns.map Value.string) := own_same hown (fun k _ hk => hb3.block k hk)
          clear k00 k01 k1 k2 k30 k31 k4 f00 f01 f1 f2 f30 f31 f4 hck2
          have k00 : W3.cell? ⟨w.heap.size, 0, none⟩ = some (.slice none 0 0) := heap_cells D0 0 _ rfl
          have k01 : W3.cell? ⟨w.heap.size, 1, none⟩ = some (.bool false) := heap_cells D0 1 _ rfl
          have k1 : W3.cell? ⟨w.heap.size + 1, 0, none⟩ = some (.int .i64 0) := heap_cells D1 0 _ rfl
          have k2 : W3.cell? ⟨w.heap.size + 1 + 1, 0, none⟩ = some (.int .i64 0) := heap_cells D2 0 _ rfl
          have k30 : W3.cell? ⟨w.heap.size + 1 + 1 + 1, 0, none⟩ = some v := heap_cells D3 0 _ rfl
          have k31 : W3.cell? ⟨w.heap.size + 1 + 1 + 1, 1, none⟩ = some (.bool d) := heap_cells D3 1 _ rfl
          have k4 : W3.cell? ⟨w.heap.size + 1 + 1 + 1 + 1, 0, none⟩ = some (.int .i64 at_) := heap_cells D4 0 _ rfl
          have f00 : W3.frozen? ⟨w.heap.size, 0, none⟩ = false := heap_frozen D0 0
          have f01 : W3.frozen? ⟨w.heap.size, 1, none⟩ = false := heap_frozen D0 1
          have f1 : W3.frozen? ⟨w.heap.size + 1, 0, none⟩ = false := heap_frozen D1 0
          have f2 : W3.frozen? ⟨w.heap.size + 1 + 1, 0, none⟩ = false := heap_frozen D2 0
          have f30 : W3.frozen? ⟨w.heap.size + 1 + 1 + 1, 0, none⟩ = false := heap_frozen D3 0
          have f31 : W3.frozen? ⟨w.heap.size + 1 + 1 + 1, 1, none⟩ = false := heap_frozen D3 1
          have f4 : W3.frozen? ⟨w.heap.size + 1 + 1 + 1 + 1, 0, none⟩ = false := heap_frozen D4 0
          have E0 := Lib.hid D0
          have E11 := Lib.hid D1
          have E22 := Lib.hid D2
          have E33 := Lib.hid D3
          have E44 := Lib.hid D4
          clear D0 D1 D2 D3 D4
          by_cases her : er = 0
          · have hne : (er != 0) = false := by rw [her]; rfl
            have HE := Lib.hid her
            clear her
            have hgW : W.heap.size ≤ W3.heap.size := hb3.size
            have own4 : (W3.setCell ⟨w.heap.size + 1 + 1 + 1, 1, none⟩ (.bool false)).ownsRow (w.heap.size + 10) 9 1 v ns.length (ns.map Value.string) := own_same own3 (fun k hk _ => Below.heap_setCell _ _ _ k (by simp; omega))
            rcases own3.2 with ⟨rfl, hn⟩ | ⟨g, cap, cur, rfl, hg, hh, hcap, hmax, hcur, htake⟩
            · have h32 : ((ns.length : Int) == 32) = false := by rw [beq_eq_false_iff_ne]; omega
              have h32' : ((0 : Int) == 32) = false := rfl
              obtain rfl : ns = [] := List.eq_nil_of_length_eq_zero hn
              gi_wp2_with (gi_at_builtin; refine wpListIn_append_own _ rfl _ _ 22 rfl (w.heap.size + 10) 9 i0 (.string ⟨#[]⟩) 1 16 Tryd.underlying22 hi hz0 hz1 hz2 rfl (by decide) _ _ _ rfl (own4.alloc _) ⟨W3.heap.size, 0, none⟩ 1 1 [.string x] rfl rfl (cell_one_at _ _ (by rw [setCell_size]) _ _) (by simp [Value.oneCell']) (by unfold maxLen; decide) (by decide) (by rw [World.size_alloc, setCell_size]; omega) ?_; intro v' w1 hown' hgrow _; obtain ⟨g', cap', rfl⟩ := ownsRow_succ hown'; have hA := after_append E33.out E44.out own3 hgrow (by omega); have m30 := heap_cells hA.1 0 _ rfl; have m31 := heap_cells hA.1 1 _ rfl; have m4 := heap_cells hA.2 0 _ rfl; have q30 := heap_frozen hA.1 0; have q31 := heap_frozen hA.1 1; have q4 := heap_frozen hA.2 0)
              rw [hsz]
              exact round_append E0.out E11.out E22.out E33.out E44.out own3 hgrow hown' hb3 hown hbel hg0 (by rw [HQ.out, if_neg (by rw [HE.out]; decide), if_neg (by decide)])
            · have hgg : w.heap.size + 1 + 1 + 1 ≠ g := by omega
              by_cases hl : ns.length = 32
              · have h32 : ((ns.length : Int) == 32) = true := by rw [beq_iff_eq]; omega
                have HL := Lib.hid hl
                clear hl
                gi_wp2
                gi_region
                all_goals gi_wp2
                all_goals (rw [hsz]; obtain ⟨q1, q2⟩ := round_err E0.out E11.out E22.out hb3 hbel hg0 (by rw [HQ.out, if_neg (by rw [HE.out]; decide), if_pos HL.out]); exact ⟨q1, hok, q2⟩)
              · have h32 : ((ns.length : Int) == 32) = false := by rw [beq_eq_false_iff_ne]; omega
                have HL := Lib.hid hl
                clear hl
                gi_wp2_with (gi_at_builtin; refine wpListIn_append_own _ rfl _ _ 22 rfl (w.heap.size + 10) 9 i0 (.string ⟨#[]⟩) 1 16 Tryd.underlying22 hi hz0 hz1 hz2 rfl (by decide) _ _ _ rfl (own4.alloc _) ⟨W3.heap.size, 0, none⟩ 1 1 [.string x] rfl rfl (cell_one_at _ _ (by rw [setCell_size]) _ _) (by simp [Value.oneCell']) (by unfold maxLen; omega) (by omega) (by rw [World.size_alloc, setCell_size]; omega) ?_; intro v' w1 hown' hgrow _; obtain ⟨g', cap', rfl⟩ := ownsRow_succ hown'; have hA := after_append E33.out E44.out own3 hgrow (by omega); have m30 := heap_cells hA.1 0 _ rfl; have m31 := heap_cells hA.1 1 _ rfl; have m4 := heap_cells hA.2 0 _ rfl; have q30 := heap_frozen hA.1 0; have q31 := heap_frozen hA.1 1; have q4 := heap_frozen hA.2 0)
                rw [hsz]
                exact round_append E0.out E11.out E22.out E33.out E44.out own3 hgrow hown' hb3 hown hbel hg0 (by rw [HQ.out, if_neg (by rw [HE.out]; decide), if_neg HL.out])
          · have hne : (er != 0) = true := by rw [bne_iff_ne]; exact her
            have HE := Lib.hid her
            clear her
            gi_wp2
            gi_region
            all_goals gi_wp2
            all_goals (rw [hsz]; obtain ⟨q1, q2⟩ := round_err E0.out E11.out E22.out hb3 hbel hg0 (by rw [HQ.out, if_pos HE.out]); exact ⟨q1, hok, q2⟩)
  case done =>
    rintro xs W rfl hi hK
    obtain ⟨ns, d, at_, v, hrun, hc0, hc1, hc2, hc3, hc4, hown, hbel⟩ := hi
    have HR : Hid (parseR s = (ns, d, 0, 0)) := by
      show parseR s = (ns, d, 0, 0)
      unfold parseR
      rw [hrun]
      rfl
    have k00 : W.cell? ⟨w.heap.size, 0, none⟩ = some (.slice none 0 0) := heap_cells hc0 0 _ rfl
    have k01 : W.cell? ⟨w.heap.size, 1, none⟩ = some (.bool false) := heap_cells hc0 1 _ rfl
    have k1 : W.cell? ⟨w.heap.size + 1, 0, none⟩ = some (.int .i64 0) := heap_cells hc1 0 _ rfl
    have k2 : W.cell? ⟨w.heap.size + 1 + 1, 0, none⟩ = some (.int .i64 0) := heap_cells hc2 0 _ rfl
    have k30 : W.cell? ⟨w.heap.size + 1 + 1 + 1, 0, none⟩ = some v := heap_cells hc3 0 _ rfl
    have k31 : W.cell? ⟨w.heap.size + 1 + 1 + 1, 1, none⟩ = some (.bool d) := heap_cells hc3 1 _ rfl
    have f00 : W.frozen? ⟨w.heap.size, 0, none⟩ = false := heap_frozen hc0 0
    have f01 : W.frozen? ⟨w.heap.size, 1, none⟩ = false := heap_frozen hc0 1
    have f1 : W.frozen? ⟨w.heap.size + 1, 0, none⟩ = false := heap_frozen hc1 0
    have f2 : W.frozen? ⟨w.heap.size + 1 + 1, 0, none⟩ = false := heap_frozen hc2 0
    obtain ⟨va, vl, vc, rfl⟩ : ∃ a l c, v = .slice a l c := by rcases hown.2 with ⟨rfl, _⟩ | ⟨g, cap, cur, rfl, _⟩ <;> exact ⟨_, _, _, rfl⟩
    gi_wp2
    obtain ⟨W2, hW2⟩ : ∃ W2, ((((W.setCell ⟨w.heap.size, 0, none⟩ (.slice va vl vc)).setCell ⟨w.heap.size, 1, none⟩ (.bool d)).setCell ⟨w.heap.size + 1, 0, none⟩ (.int .i64 0)).setCell ⟨w.heap.size + 1 + 1, 0, none⟩ (.int .i64 0)) = W2 := ⟨_, rfl⟩
    rw [hW2]
    have hs : ∀ k, k ≠ w.heap.size → k ≠ w.heap.size + 1 → k ≠ w.heap.size + 2 → W2.heap[k]? = W.heap[k]? := fun k h0 h1 h2 => by
      rw [← hW2]
      exact (Below.heap_setCell _ _ _ k (by simpa using h2)).trans ((Below.heap_setCell _ _ _ k (by simpa using h1)).trans ((Below.heap_setCell _ _ _ k (by simpa using h0)).trans (Below.heap_setCell _ _ _ k (by simpa using h0))))
    have hbb : Below w.heap.size W W2 := by
      rw [← hW2]
      exact (((((Below.refl _ _).setCell (by simp) _).setCell (by simp) _).setCell (by simp) _).setCell (by dsimp only; omega) _)
    have g0 : W2.heap[w.heap.size]? = some (.cells #[.slice va vl vc, .bool d] 24 (0, 0)) := by
      rw [← hW2]
      exact (Below.heap_setCell _ _ _ _ (by dsimp only; omega)).trans ((Below.heap_setCell _ _ _ _ (by dsimp only; omega)).trans (set_heap _ (set_heap _ hc0)))
    have g1 : W2.heap[w.heap.size + 1]? = some (.cells #[.int .i64 0] 3 (0, 0)) := by
      rw [← hW2]
      exact (Below.heap_setCell _ _ _ _ (by dsimp only; omega)).trans (set_heap _ ((Below.heap_setCell _ _ _ _ (by dsimp only; omega)).trans ((Below.heap_setCell _ _ _ _ (by dsimp only; omega)).trans hc1)))
    have g2 : W2.heap[w.heap.size + 1 + 1]? = some (.cells #[.int .i64 0] 35 (0, 0)) := by
      rw [← hW2]
      exact set_heap _ ((Below.heap_setCell _ _ _ _ (by dsimp only; omega)).trans ((Below.heap_setCell _ _ _ _ (by dsimp only; omega)).trans ((Below.heap_setCell _ _ _ _ (by dsimp only; omega)).trans hc2)))
    have hK2 : W2.heap[W0.heap.size]? = some (.deferred (some [])) := (hs _ (by omega) (by omega) (by omega)).trans hK
    have own2 : W2.ownsRow (w.heap.size + 10) 9 1 (.slice va vl vc) ns.length (ns.map Value.string) := own_same hown (fun k hk _ => hs k (by omega) (by omega) (by omega))
    clear hW2 hs k00 k01 k1 k2 k30 k31 f00 f01 f1 f2
    refine ⟨by simp, .inl ⟨_, _, rfl, run_takeDeferred hK2, ?_⟩⟩
    refine ⟨_, res17 (W := W2.putObj W0.heap.size (.deferred none)) rfl rfl rfl ((World.putObj_heap_other (by omega)).trans g0) ((World.putObj_heap_other (by omega)).trans g1) ((World.putObj_heap_other (by omega)).trans g2), ?_⟩
    rw [HR.out]
    exact ⟨_, rfl, own_base (ownsRow_putObj own2 _ hK2 rfl) (by omega), (hbel.trans hbb).trans (below_putObj _ (by omega))⟩
  case stop =>
    rintro c pre W ⟨hpre, hx⟩ hK
    obtain ⟨rfl, at_, er, hrun, hc0, hc1, hc2, hbel⟩ := hx
    have HR : parseR s = ([], false, at_, er) := by
      obtain ⟨rest, hrest⟩ := hpre
      unfold parseR
      rw [← hrest, runP_err hrun rest]
      rfl
    gi_wp2
    refine ⟨by simp, .inl ⟨_, _, rfl, run_takeDeferred hK, ?_⟩⟩
    refine ⟨_, res17 (W := W.putObj W0.heap.size (.deferred none)) rfl rfl rfl ((World.putObj_heap_other (by omega)).trans hc0) ((World.putObj_heap_other (by omega)).trans hc1) ((World.putObj_heap_other (by omega)).trans hc2), ?_⟩
    rw [HR]
    exact ⟨_, rfl, World.ownsRow_nil _ _ _ _, hbel.trans (below_putObj _ (by omega))⟩

end Go.Proofs.YtckpnmghbjimiaaDoor
