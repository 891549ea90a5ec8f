/- Texts of this seat joined into one: E1, E2, E3, E4, Ee, E5, MkT, E6, E7, DonT, Qp, Pd, Ob, Oc. -/
import Derived.Test.YtcnimekhpnejlaaGreatVB9
import Derived.Test.YtcnimekhpnejlaaGreatVB6
import Derived.WalkKit
import Derived.Test.YtcnimekhpnejlaaGreatVB11
import Derived.OwnWalk
import Derived.Test.YtcnimekhpnejlaaGreatVB5
import Derived.Deep.Cut
import Derived.Test.YtcnimekhpnejlaaGreatVB4
import Derived.Test.YtcnimekhpnejlaaGreatVFileMoves1

/- inodes: the leaf of a table that is not there; the function within free. -/
namespace Go.Proofs.YtcnimekhpnejlaaGreat.Ev
open Go Go.RowKit
set_option linter.unusedVariables false
set_option linter.unusedSimpArgs false
set_option maxRecDepth 100000
def zInoOf (x : Option TE) : Array Value :=
  match x with
  | some e => match e.zero with
    | .agg cs => cs
    | _ => #[]
  | none => #[]
noncomputable def zIno : Array Value := zInoOf (teOf Tryz.prog 167)
theorem zIno_size : zIno.size = 152 := by kernel_rfl
theorem zIno_one : zIno.all (·.oneCell') = true := by kernel_rfl
theorem zIno_kind : ((List.range 4).all fun i => match zIno[i * 38]? with | some (.int .i64 n) => n == 0 | _ => false) = true := by kernel_rfl
theorem zIno_te : (teOf Tryz.prog 167).map (fun e => match e.zero with | .agg cs => true | _ => false) = some true := by kernel_rfl
theorem zero_inos (w : World) : (zeroValue 167).run Tryz.prog w = .ok (.agg zIno) w := by
  obtain ⟨e, he, hz⟩ := Option.map_eq_some_iff.1 zIno_te
  rw [(teOf_ok he).run_zero w]
  have h2 : zIno = zInoOf (some e) := by unfold zIno; rw [he]
  rw [h2]
  unfold zInoOf
  split at hz
  · rename_i cs hcs
    simp only [hcs]
  · cases hz
theorem info_inos : (Tryz.prog.info? 167).map (·.size) = some 152 := by kernel_rfl
theorem store_inos (g : Nat) (old D : Array Value) (W : World) (hg : W.heap[g]? = some (.cells old 167 (0, 0))) (ho : old.size = D.size) (h1 : D.all (·.oneCell') = true) :
    (storeCells ⟨g, 0, none⟩ D.toList).run Tryz.prog W = .ok () (W.setRow g D) := by
  have h := run_storeCells_at Tryz.prog g 0 167 D.toList 0 old W hg (by rw [Array.length_toList]; omega) (fun v hv => (Array.all_eq_true_iff_forall_mem.1 h1) v (by simpa using hv))
  rw [show (old.toList.take (0 + 0) ++ D.toList ++ old.toList.drop (0 + 0 + D.toList.length)).toArray = D from by
    rw [List.drop_of_length_le (by rw [Array.length_toList, Array.length_toList]; omega)]
    simp] at h
  exact h
theorem results_c2 {P : Program} {fn : Func} {p q : Tmp} {ty : TypeId} (h : fn.results = #[.cell p ty, .tmp q]) (tmps : Array Value) (w : World) (g : Nat) (t : TypeId) (cs : Array Value) (fr : Nat × Nat) (d : TypeDesc)
    (hp : tmps.getD p undef = .pointer (some ⟨g, 0, none⟩)) (hg : w.heap[g]? = some (.cells cs t fr))
    (hu : P.underlying ty = some d) (hd : (match d with | .struct _ | .array _ _ => true | _ => false) = true) (hi : (P.info? ty).map (·.size) = some cs.size) {v : Value} (hv : tmps.getD q undef = v) :
    (results fn tmps).run P w = .ok (.tuple #[.agg cs, v]) w := by
  have hp' : tmps[p]?.getD undef = .pointer (some ⟨g, 0, none⟩) := by simpa using hp
  have hv' : tmps[q]?.getD undef = v := by simpa using hv
  simp [results, h, hp', hv', asAddr, run_loadVar_row w g t ty cs fr d hg hu hd hi]
theorem und_inos : Tryz.prog.underlying 167 = some (.array (Tryz.prog.arrayLen 167) (Tryz.prog.elem 167)) := by kernel_rfl
theorem leaves_of (n : Nat) (hn : n ≤ 4096) (w : World) : Calls Tryz.prog 80 #[.int .i64 n] w fun e w' => e = .returned (.int .i64 ((n + 3) / 4 : Nat)) ∧ w' = w := by
  go_enter Tryz.func80, Tryz.ntmps80
  go_wp2_with fail
  go_ret
  refine ⟨?_, rfl⟩
  show Ending.returned (Value.int IntKind.i64 (((n : Int) + 4 - 1) / 4)) = _
  rw [show ((n : Int) + 4 - 1) / 4 = ((n + 3) / 4 : Nat) by omega]
set_option maxHeartbeats 1000000 in
theorem leaf_none {w : World} {x : Nat} {c : Value} {m : Nat} (hrow : Row w x 107 (inoCells c m)) {p : Int} (hp : 0 ≤ p) : Calls Tryz.prog 81 #[.pointer (some ⟨x, 0, none⟩), .int .i64 p] w fun e w' => e = .returned (.tuple #[.agg zIno, .int .i64 0]) ∧ Below w.heap.size w w' := by
  have hc : w.cell? ⟨x, 35, none⟩ = some (.int .i64 0) := row_cell hrow rfl
  have hxl : x < w.heap.size := hrow.lt
  have hz := zero_inos
  have hZs : zIno.size = 152 := zIno_size
  have hZ1 := zIno_one
  generalize zIno = Z at *
  have hc2 : ((w.alloc (Obj.cells Z 167)).alloc (Obj.cells Z 167)).cell? ⟨x, 35, none⟩ = some (.int .i64 0) := by
    have h1 : ((w.alloc (Obj.cells Z 167)).alloc (Obj.cells Z 167)).heap[x]? = w.heap[x]? := (Below.heap_alloc _ _ _ (by simp; omega)).trans (Below.heap_alloc _ _ _ hxl)
    simpa [World.cell?, h1] using hc
  have hd : decide (p ≥ 0) = true := decide_eq_true hp
  have hd' : decide (0 ≤ p) = true := decide_eq_true hp
  have hb0 : Below w.heap.size w ((w.alloc (Obj.cells Z 167)).alloc (Obj.cells Z 167)) := ((Below.refl _ _).alloc (Nat.le_refl _) _).alloc (by simp) _
  have hg0 : ((w.alloc (Obj.cells Z 167)).alloc (Obj.cells Z 167)).heap[w.heap.size]? = some (.cells Z 167 (0, 0)) := (Below.heap_alloc _ _ _ (by simp)).trans (alloc_new w _)
  have hg1 : ((w.alloc (Obj.cells Z 167)).alloc (Obj.cells Z 167)).heap[w.heap.size + 1]? = some (.cells Z 167 (0, 0)) := by
    have := alloc_new (w.alloc (Obj.cells Z 167)) (Obj.cells Z 167)
    simpa using this
  go_enter Tryz.func81, Tryz.ntmps81
  go_wp2_with (go_at_call 80; refine Calls.mono (leaves_of 0 (by decide) _) ?_; rintro e w1 ⟨rfl, rfl⟩)
  generalize (w.alloc (Obj.cells Z 167)).alloc (Obj.cells Z 167) = W0 at *
  have hst := store_inos w.heap.size Z Z W0 hg0 rfl hZ1
  refine wp_load_row 167 _ rfl (w.heap.size + 1) rfl 167 Z (0, 0) _ hg1 und_inos rfl (by rw [hZs]; exact info_inos) ?_
  go_wp2_with fail
  refine bodyPost_ret (results_c2 rfl _ _ w.heap.size 167 Z (0, 0) _ rfl (setRow_heap _ _ Z _ 167 (0, 0) hg0) und_inos rfl (by rw [hZs]; exact info_inos) rfl) rfl ?_
  exact ⟨rfl, below_setRow hb0 (Nat.le_refl _) _⟩
end Go.Proofs.YtcnimekhpnejlaaGreat.Ev

/- inodes.free: the least number that is not in use. -/
namespace Go.Proofs.YtcnimekhpnejlaaGreat.Ev
open Go Go.RowKit
set_option linter.unusedVariables false
set_option linter.unusedSimpArgs false
set_option maxRecDepth 100000
theorem free_eq {S : Int → Nd} {n : Nat} (h1 : 1 ≤ n) (h2 : n ≤ 4097) (h3 : ∀ k : Int, 1 ≤ k → k < n → (S k).kind ≠ 0) (h4 : n ≤ 4096 → (S n).kind = 0) : freeN S = n := by
  unfold freeN
  by_cases h5 : n ≤ 4096
  · have hf : (List.range 4096).find? (fun k : Nat => (S ((k : Int) + 1)).kind == 0) = some (n - 1) := by
      rw [List.find?_range_eq_some]
      refine ⟨?_, List.mem_range.2 (by omega), fun j hj => ?_⟩
      · rw [show (((n - 1 : Nat)) : Int) + 1 = n by omega, h4 h5]
        rfl
      · have := h3 ((j : Int) + 1) (by omega) (by omega)
        simpa using this
    rw [hf]
    show (((n - 1 : Nat)) : Int) + 1 = n
    omega
  · have hf : (List.range 4096).find? (fun k : Nat => (S ((k : Int) + 1)).kind == 0) = none := by
      rw [List.find?_eq_none]
      intro j hj
      have := List.mem_range.1 hj
      have := h3 ((j : Int) + 1) (by omega) (by omega)
      simpa using this
    rw [hf]
    show (4097 : Int) = n
    omega
/-- A cell of a whole number. -/
def IsNum (w : World) (b : Nat) (n : Int) : Prop := w.heap[b]? = some (.cells #[.int .i64 n] 3 (0, 0))
theorem IsNum.cell {w : World} {b : Nat} {n : Int} (h : IsNum w b n) : w.cell? ⟨b, 0, none⟩ = some (.int .i64 n) := by
  unfold IsNum at h
  simp [World.cell?, h]
theorem IsNum.froz {w : World} {b : Nat} {n : Int} (h : IsNum w b n) : w.frozen? ⟨b, 0, none⟩ = false := by
  unfold IsNum at h
  simp [World.frozen?, h]
theorem IsNum.lt {w : World} {b : Nat} {n : Int} (h : IsNum w b n) : b < w.heap.size := (Array.getElem?_eq_some_iff.1 h).1
theorem IsNum.set {w : World} {b : Nat} {n : Int} (h : IsNum w b n) (k : Int) : IsNum (w.setCell ⟨b, 0, none⟩ (.int .i64 k)) b k := by
  unfold IsNum at h ⊢
  simp [World.setCell, h, Array.getElem?_modify]
theorem IsNum.kept {w w' : World} {b : Nat} {n : Int} (h : IsNum w b n) (e : w'.heap[b]? = w.heap[b]?) : IsNum w' b n := e.trans h
theorem set_other {w : World} {b k : Nat} (v : Value) (h : k ≠ b) : (w.setCell ⟨b, 0, none⟩ v).heap[k]? = w.heap[k]? := Below.heap_setCell _ _ _ _ (by simpa using h)
set_option maxHeartbeats 1000000 in
theorem free1_any (n : Int) (used : Bool) (l fo : Nat) (hlf : l ≠ fo) {a b : Int} (w : World) (hl : IsNum w l a) (hf : IsNum w fo b) : Calls Tryz.prog 66 #[.int .i64 n, .bool used, .pointer (some ⟨l, 0, none⟩), .pointer (some ⟨fo, 0, none⟩)] w fun e w' =>
    e = .returned (.bool used) ∧ IsNum w' l n ∧ IsNum w' fo (if used = true then b else n) ∧ But (fun k => k = l ∨ k = fo) w w' := by
  have h1 := hl.cell
  have h2 := hl.froz
  have h3 := (hf.kept (set_other (.int .i64 n) hlf.symm)).cell
  have h4 := (hf.kept (set_other (.int .i64 n) hlf.symm)).froz
  have hb1 : But (fun k => k = l ∨ k = fo) w (w.setCell ⟨l, 0, none⟩ (.int .i64 n)) := (But.refl _ _).setCell (fun _ => .inl rfl) _
  have hl2 := hl.set n
  have hf2 := hf.kept (set_other (.int .i64 n) hlf.symm)
  cases used with
  | true =>
    go_enter Tryz.func66, Tryz.ntmps66
    go_wp2_with fail
    go_ret
    exact ⟨rfl, hl2, hf2, hb1⟩
  | false =>
    go_enter Tryz.func66, Tryz.ntmps66
    go_wp2_with fail
    go_ret
    exact ⟨rfl, hl2.kept (set_other _ hlf), hf2.set n, hb1.setCell (fun _ => .inr rfl) _⟩
end Go.Proofs.YtcnimekhpnejlaaGreat.Ev

/- inodes.free, walked. -/
namespace Go.Proofs.YtcnimekhpnejlaaGreat.Ev
open Go Go.RowKit
set_option linter.unusedVariables false
set_option linter.unusedSimpArgs false
set_option maxRecDepth 100000
/-- The first n numbers were visited, and all of them are in use. -/
structure Seen (S : Int → Nd) (l fo n : Nat) (w wr : World) : Prop where
  last : IsNum wr l n
  found : IsNum wr fo 0
  used : ∀ k : Int, 1 ≤ k → k ≤ n → (S k).kind ≠ 0
  but : But (fun k => k = l ∨ k = fo) w wr
/-- What free finds. -/
def Found (S : Int → Nd) (l fo : Nat) (w w' : World) : Prop := ∃ a b : Int, IsNum w' l a ∧ IsNum w' fo b ∧ (if b = 0 then a + 1 else b) = freeN S ∧ But (fun k => k = l ∨ k = fo) w w'
theorem Seen.next {S : Int → Nd} {l fo n : Nat} {w wr w' : World} (h : Seen S l fo n w wr) (hu : (S ((n : Int) + 1)).kind ≠ 0) (h1 : IsNum w' l ((n : Int) + 1)) (h2 : IsNum w' fo 0) (hb : But (fun k => k = l ∨ k = fo) wr w') : Seen S l fo (n + 1) w w' :=
  ⟨by exact_mod_cast h1, h2, fun k hk hk2 => by
    by_cases e : k = (n : Int) + 1
    · rw [e]; exact hu
    · exact h.used k hk (by omega), h.but.trans (hb.mono fun k hk e => .inl e)⟩
theorem Seen.stop {S : Int → Nd} {l fo n : Nat} {w wr w' : World} (h : Seen S l fo n w wr) (hn : n + 1 ≤ 4097) (hu : (S ((n : Int) + 1)).kind = 0) (h1 : IsNum w' l ((n : Int) + 1)) (h2 : IsNum w' fo ((n : Int) + 1)) (hb : But (fun k => k = l ∨ k = fo) wr w') : Found S l fo w w' :=
  ⟨_, _, h1, h2, by
    rw [if_neg (by omega)]
    have := free_eq (S := S) (n := n + 1) (by omega) hn (fun k hk hk2 => h.used k hk (by omega)) (fun _ => by exact_mod_cast hu)
    rw [this]
    push_cast
    rfl, h.but.trans (hb.mono fun k hk e => .inl e)⟩
theorem Seen.end {S : Int → Nd} {l fo n : Nat} {w wr : World} (h : Seen S l fo n w wr) (hn : n + 1 ≤ 4097) (hu : n + 1 ≤ 4096 → (S ((n : Int) + 1)).kind = 0) : Found S l fo w wr :=
  ⟨_, _, h.last, h.found, by
    rw [if_pos rfl]
    have := free_eq (S := S) (n := n + 1) (by omega) hn (fun k hk hk2 => h.used k hk (by omega)) (fun h2 => by have := hu h2; exact_mod_cast this)
    rw [this]
    push_cast
    rfl, h.but⟩
theorem Seen.below {S : Int → Nd} {l fo n : Nat} {w wr w' : World} (h : Seen S l fo n w wr) (hb : Below wr.heap.size wr w') : Seen S l fo n w w' :=
  ⟨h.last.kept (hb.block _ h.last.lt), h.found.kept (hb.block _ h.found.lt), h.used, h.but.trans (But.new hb)⟩
theorem zIno_at {i : Nat} (hi : i < 4) : zIno[i * 38]? = some (.int .i64 0) := by
  have h := List.all_eq_true.1 zIno_kind i (List.mem_range.2 hi)
  split at h
  · rename_i n hn
    have : n = 0 := by simpa using h
    rw [hn, this]
  · cases h
set_option maxHeartbeats 8000000 in
theorem each_free {w : World} {x m : Nat} {S : Int → Nd} {L : Int → Option (Nat × Nat × Nat)} (h : Inos Tryz.prog w x S m L) {l fo : Nat} (hlf : l ≠ fo) (hl : IsNum w l 0) (hf : IsNum w fo 0) (hlo : ¬ ownBlk x m L l) (hfo : ¬ ownBlk x m L fo) :
    Calls Tryz.prog 65 #[.pointer (some ⟨x, 0, none⟩), .func (.func 66) #[] #[.pointer (some ⟨l, 0, none⟩), .pointer (some ⟨fo, 0, none⟩)]] w fun e w' => e = .returned (.int .i64 0) ∧ Found S l fo w w' := by
  obtain ⟨cx, hcx, hrx⟩ := h.cell
  have hc3 : w.cell? ⟨x, 35, none⟩ = some (.int .i64 0) := row_cell hrx rfl
  have hc4 := row_map hrx
  obtain ⟨w1, hrange, ⟨cnt, hR⟩, hgr, hsz⟩ := h.map.range und_int und_works
  have hB1 : Below w.heap.size w w1 := ⟨hgr.os, hgr.tape, hgr.output, hgr.size, fun k hk => hgr.block k hk (by simp)⟩
  have hR0 : RangeI elPtr Tryz.prog 3 w1 m w.heap.size 4096 (fun n => (L n).map (·.1)) (fun k => (L k).isSome) cnt := by
    rw [show (fun k => (L k).isSome) = fun k => ((fun n => (L n).map (·.1)) k).isSome from funext fun k => by simp]
    exact hR
  clear hgr hsz hR
  go_enter Tryz.func65, Tryz.ntmps65
  go_wp2_with fail
  go_loopw [5] (fun v wr => ∃ (mo : Nat) (left : Int → Bool) (cnt : Nat), v = .int .i64 mo ∧ mo ≤ 4096 ∧ (∀ k, (L k).isSome → left k = false → k ≤ mo) ∧ RangeI elPtr Tryz.prog 3 wr m w.heap.size 4096 (fun n => (L n).map (·.1)) left cnt ∧ Below w.heap.size w wr)
    (fun _ wr => wr.rangeLeft m w.heap.size)
  case atStart => exact ⟨0, _, cnt, rfl, by omega, fun k hk hk2 => (by rw [hk] at hk2; cases hk2), hR0, hB1⟩
  case round =>
    clear hR0 hB1 hrange
    clear w1 cnt
    obtain ⟨mo, left, cnt, rfl, hmo, hall, hR, hB⟩ := hrel
    rcases hR.next und_int 0 with ⟨h0, hnone, hnext⟩ | ⟨i, a, w3, cnt', hl2, ha, hnext, hR3, hlt, hgr, hsz, hentry⟩
    · have hmo2 : ∀ k, (L k).isSome → k ≤ mo := fun k hk => hall k hk (hnone k)
      have hbw : But (fun k => k = l ∨ k = fo) w wr := But.new hB
      have hS0 : Seen S l fo (4 * 0) w wr := ⟨hl.kept (hB.block l hl.lt), hf.kept (hB.block fo hf.lt), fun k h1 h2 => by omega, hbw⟩
      have hz := zero_inos
      have hZs : zIno.size = 152 := zIno_size
      have hZ1 := zIno_one
      have hZk : ∀ i, i < 4 → zIno[i * 38]? = some (.int .i64 0) := fun i hi => zIno_at hi
      have hLeaf : ∀ (p : Nat) (W : World), Seen S l fo (4 * p) w W → Calls Tryz.prog 81 #[.pointer (some ⟨x, 0, none⟩), .int .i64 p] W fun e w' => e = .returned (.tuple #[.agg zIno, .int .i64 0]) ∧ Below W.heap.size W w' := fun p W hS =>
        leaf_none (hrx.kept (hS.but.block x (h.lt (.inl rfl)) (fun e => e.elim (fun e => hlo (e ▸ .inl rfl)) (fun e => hfo (e ▸ .inl rfl))))) (by omega)
      generalize zIno = Z at *
      have hst : ∀ W : World, ∃ wS, (storeCells ⟨W.heap.size, 0, none⟩ Z.toList).run Tryz.prog (W.alloc (Obj.cells Z 167)) = .ok () wS ∧ wS.heap[W.heap.size]? = some (.cells Z 167 (0, 0)) ∧ Below W.heap.size W wS := fun W => by
        have hg0 : (W.alloc (Obj.cells Z 167)).heap[W.heap.size]? = some (.cells Z 167 (0, 0)) := alloc_new W _
        exact ⟨_, store_inos W.heap.size Z Z _ hg0 rfl hZ1, setRow_heap _ _ Z Z 167 (0, 0) hg0, below_setRow ((Below.refl _ _).alloc (Nat.le_refl _) _) (Nat.le_refl _) _⟩
      have HST : Aside _ := hst
      have HLf : Aside _ := hLeaf
      have HSE : Aside _ := hS0
      clear hst hLeaf hR hc3 hall hS0
      go_wp2_with (go_at_call 80; refine Calls.mono (leaves_of mo hmo _) ?_; rintro e w2 ⟨rfl, rfl⟩)
      go_loopw [33] (fun v wr2 => ∃ p : Nat, v = .int .i64 p ∧ p ≤ (mo + 3) / 4 ∧ Seen S l fo (4 * p) w wr2)
        (fun v _ => 1025 - (intOf v).toNat)
      case atStart => exact ⟨0, rfl, by omega, HSE.out⟩
      case round =>
        clear HSE hbw hB hnext hnone
        obtain ⟨p, rfl, hp, hS⟩ := hrel
        by_cases hlt : p < (mo + 3) / 4
        · have hd : decide ((p : Int) < (((mo + 3) / 4 : Nat) : Int)) = true := decide_eq_true (by omega)
          have HS : Aside _ := hS
          clear hS
          go_wp2_with (go_at_call 81; refine Calls.mono (HLf.out p _ HS.out) ?_; rintro e w3 ⟨rfl, hB3⟩; obtain ⟨wS, hs1, hs2, hs3⟩ := HST.out w3)
          have hSS : Seen S l fo (4 * p) w wS := (HS.out.below hB3).below hs3
          have hab : w.heap.size ≤ w3.heap.size := Nat.le_trans HS.out.but.size hB3.size
          have hall : l < w.heap.size ∧ fo < w.heap.size := ⟨hl.lt, hf.lt⟩
          generalize w3.heap.size = ab at *
          go_loopw [45] (fun v wr3 => ∃ i : Nat, v = .int .i64 i ∧ i ≤ 4 ∧ Seen S l fo (4 * p + i) w wr3 ∧ wr3.heap[ab]? = some (.cells Z 167 (0, 0)))
            (fun v _ => 4 - (intOf v).toNat)
          case atStart => exact ⟨0, rfl, by omega, hSS, hs2⟩
          case round =>
            clear hSS hs1 hs2 hs3 hB3 HS
            obtain ⟨i, rfl, hi, hS, hz8⟩ := hrel
            by_cases hi4 : i < 4
            · have hd3 : decide ((i : Int) < 4) = true := decide_eq_true (by omega)
              have hkp : ∀ k, ownBlk x m L k → wr.heap[k]? = w.heap[k]? := fun k hk => hS.but.block k (h.lt hk) (fun e => e.elim (fun e => hlo (e ▸ hk)) (fun e => hfo (e ▸ hk)))
              have hI := h.kept hkp
              have hmc := row_map (hrx.kept (hkp x (.inl rfl)))
              have hcz : wr.cell? ⟨ab, i * 38, none⟩ = some (.int .i64 0) := by simp [World.cell?, hz8, hZk i hi4]
              have hfree := fun b => free1_any ((p : Int) * 4 + i + 1) b l fo hlf wr hS.last hS.found
              have hn1 : (p : Int) * 4 + i + 1 = ((4 * p + i : Nat) : Int) + 1 := by push_cast; omega
              have HF : Aside _ := hfree
              have HS : Aside _ := hS
              have HN : Hid _ := hn1
              clear hS hfree hn1
              cases hL : L ((p : Int) * 4 + i + 1) with
              | none =>
                have hlook := hI.map.look_none und_int und_works (i := (p : Int) * 4 + i + 1) (by unfold i64; omega) (by simp [hL]) (zero_work wr)
                have hk0 : (S (((4 * p + i : Nat) : Int) + 1)).kind = 0 := by rw [← HN.out, h.off _ hL]; rfl
                go_wp2_with fail
                refine Calls.mono (HF.out false) ?_
                rintro e w5 ⟨rfl, h51, h52, h53⟩
                go_wp2_with fail
                go_ret
                rw [if_neg (by decide)] at h52
                rw [HN.out] at h51 h52
                exact ⟨rfl, HS.out.stop (by omega) hk0 h51 h52 h53⟩
              | some t =>
                have hlook := hI.map.look_ptr und_int und_works (i := (p : Int) * 4 + i + 1) (a := t.1) (by simp [hL]) (zero_work wr)
                have hlook2 : (Instr.lookup 105 (.map (some m)) (.int .i64 ((p : Int) * 4 + i + 1)) true).run Tryz.prog wr = .ok (.tuple #[.pointer (some ⟨t.1, 0, none⟩), .bool true]) wr := hlook
                have hkc : wr.cell? ⟨t.1, 1, none⟩ = some (.int .i64 (S ((p : Int) * 4 + i + 1)).kind) := row_cell (hI.work _ t hL).cell rfl
                rw [HN.out] at hkc
                clear hlook
                obtain ⟨kd, hkd⟩ : ∃ kd, (S (((4 * p + i : Nat) : Int) + 1)).kind = kd := ⟨_, rfl⟩
                rw [hkd] at hkc
                by_cases hk0 : kd = 0
                · subst hk0
                  have hk0 := hkd
                  go_wp2_with fail
                  refine Calls.mono (HF.out false) ?_
                  rintro e w5 ⟨rfl, h51, h52, h53⟩
                  go_wp2_with fail
                  go_ret
                  rw [if_neg (by decide)] at h52
                  rw [HN.out] at h51 h52
                  exact ⟨rfl, HS.out.stop (by omega) hk0 h51 h52 h53⟩
                · have hkb : (kd != 0) = true := by simp [hk0]
                  go_wp2_with fail
                  refine Calls.mono (HF.out true) ?_
                  rintro e w5 ⟨rfl, h51, h52, h53⟩
                  go_wp2_with fail
                  rw [HN.out] at h51
                  refine ⟨⟨i + 1, by push_cast; rfl, by omega, ?_, ?_⟩, by simp [intOf]; omega⟩
                  · exact HS.out.next (by rw [hkd]; exact hk0) h51 (by simpa using h52) h53
                  · rw [h53.block ab (Array.getElem?_eq_some_iff.1 hz8).1 (by rintro (e | e) <;> omega)]
                    exact hz8
            · have hd3 : decide ((i : Int) < 4) = false := decide_eq_false (by omega)
              obtain rfl : i = 4 := by omega
              have HS : Aside _ := hS
              clear hS
              go_wp2_with fail
              exact ⟨⟨p + 1, by push_cast; rfl, by omega, by rw [show 4 * (p + 1) = 4 * p + 4 by omega]; exact HS.out⟩, by simp [intOf]; omega⟩
        · have hd : decide ((p : Int) < (((mo + 3) / 4 : Nat) : Int)) = false := decide_eq_false (by omega)
          have HS : Aside _ := hS
          clear hS
          go_wp2_with fail
          go_ret
          refine ⟨rfl, HS.out.end (by omega) fun _ => ?_⟩
          cases hL : L (((4 * p : Nat) : Int) + 1) with
          | none => rw [h.off _ hL]; rfl
          | some t =>
            have := hmo2 _ (by rw [hL]; rfl)
            omega
    · have hi : 1 ≤ i ∧ i ≤ 4096 := by
        cases hL : L i with
        | none => rw [hL] at ha; cases ha
        | some t => exact h.num i t hL
      obtain ⟨j, rfl⟩ : ∃ j : Nat, i = j := ⟨i.toNat, by omega⟩
      go_wp2_with fail
      refine ⟨⟨max mo j, _, cnt', by congr 1; split <;> omega, by omega, fun k hk hk2 => ?_, hR3, ?_⟩, by rw [hR3.left_eq, hR.left_eq]; exact hlt⟩
      · cases hq : left k with
        | false =>
          have := hall k hk hq
          omega
        | true =>
          rw [hq] at hk2
          have : k = j := by simpa using hk2
          omega
      · exact ⟨hgr.os.trans hB.os, hgr.tape.trans hB.tape, hgr.output.trans hB.output, Nat.le_trans hB.size hgr.size, fun k hk => by
          rw [← hB.block k hk]
          exact hgr.block k (Nat.lt_of_lt_of_le hk hB.size) (by simp; omega)⟩
end Go.Proofs.YtcnimekhpnejlaaGreat.Ev

/- inodes.free: the least number that is not in use. -/
namespace Go.Proofs.YtcnimekhpnejlaaGreat.Ev
open Go Go.RowKit
set_option linter.unusedVariables false
set_option linter.unusedSimpArgs false
set_option maxRecDepth 100000
theorem freeN_ge (S : Int → Nd) : 1 ≤ freeN S ∧ freeN S ≤ 4097 := by
  unfold freeN
  split
  · rename_i k hk
    have := List.mem_range.1 (List.mem_of_find?_eq_some hk)
    omega
  · omega
/-- The number that is found, and the error. -/
def freeV (n : Int) : Value := if n ≤ 4096 then .tuple #[.int .i64 n, .int .i64 0] else .tuple #[.int .i64 0, .int .i64 150]
set_option maxHeartbeats 4000000 in
theorem free_any {w : World} {x : Nat} {S : Int → Nd} (h : isD Tryz.prog (.st (.ino S)) x w) : Calls Tryz.prog 39 #[.pointer (some ⟨x, 0, none⟩)] w fun e w' => e = .returned (freeV (freeN S)) ∧ Below w.heap.size w w' := by
  obtain ⟨m, L, h⟩ := h
  have hn := freeN_ge S
  have HE : Aside (∀ W, Below w.heap.size w W → IsNum W w.heap.size 0 → IsNum W (w.heap.size + 1) 0 → Calls Tryz.prog 65 #[.pointer (some ⟨x, 0, none⟩), .func (.func 66) #[] #[.pointer (some ⟨w.heap.size, 0, none⟩), .pointer (some ⟨w.heap.size + 1, 0, none⟩)]] W fun e w' =>
      e = .returned (.int .i64 0) ∧ ∃ a b : Int, w'.cell? ⟨w.heap.size, 0, none⟩ = some (.int .i64 a) ∧ w'.frozen? ⟨w.heap.size, 0, none⟩ = false ∧ IsNum w' (w.heap.size + 1) b ∧ (if b = 0 then a + 1 else b) = freeN S ∧ Below w.heap.size w w') := by
    intro W hB h1 h2
    have hI := h.kept (w' := W) fun k hk => hB.block k (h.lt hk)
    have hlo : ∀ k, w.heap.size ≤ k → ¬ ownBlk x m L k := fun k hk ho => by
      have := h.lt ho
      omega
    refine (each_free hI (l := w.heap.size) (fo := w.heap.size + 1) (by omega) h1 h2 (hlo _ (Nat.le_refl _)) (hlo _ (by omega))).mono fun e w' ⟨he, a, b, q1, q2, q3, q4⟩ => ⟨he, a, b, q1.cell, q1.froz, q2, q3, ?_⟩
    exact ⟨q4.os.trans hB.os, q4.tape.trans hB.tape, q4.output.trans hB.output, Nat.le_trans hB.size q4.size, fun k hk => by
      rw [← hB.block k hk]
      exact q4.block k (Nat.lt_of_lt_of_le hk hB.size) (by omega)⟩
  clear h
  generalize freeN S = F at *
  go_enter Tryz.func39, Tryz.ntmps39
  go_wp2_with (go_at_call 65; refine Calls.mono (HE.out _ ?_ ?_ ?_) ?_)
  · exact ((Below.refl _ _).alloc (Nat.le_refl _) _).alloc (by simp) _
  · exact (Below.heap_alloc _ _ _ (by simp)).trans (alloc_new w _)
  · have := alloc_new (w.alloc (Obj.cells #[Value.int IntKind.i64 0] 3)) (Obj.cells #[Value.int IntKind.i64 0] 3)
    simpa [IsNum] using this
  · rintro e w1 ⟨rfl, a, b, c1, f1, hN, hF, hB⟩
    have c2 := hN.cell
    have f2 := hN.froz
    have HN : Aside (∀ k : Int, (w1.setCell ⟨w.heap.size + 1, 0, none⟩ (.int .i64 k)).cell? ⟨w.heap.size + 1, 0, none⟩ = some (.int .i64 k)) := fun k => (hN.set k).cell
    have hlt : w.heap.size + 1 < w1.heap.size := hN.lt
    clear hN HE
    by_cases hb : b = 0
    · rw [if_pos hb] at hF
      subst hb
      have hB2 : Below w.heap.size w (w1.setCell ⟨w.heap.size + 1, 0, none⟩ (.int .i64 (a + 1))) := hB.setCell (by simp) _
      have c3 := HN.out (a + 1)
      rw [hF] at hB2 c3
      have HB : Aside _ := hB2
      obtain rfl : a = F - 1 := by omega
      have hw : F - 1 + 1 = F := by omega
      clear hF hB hB2
      by_cases hG : F ≤ 4096
      · have hd : decide (F > 4096) = false := decide_eq_false (by omega)
        have hd' : decide ((4096 : Int) < F) = false := decide_eq_false (by omega)
        go_wp2_with fail
        go_ret2
        refine ⟨?_, HB.out⟩
        unfold freeV
        rw [if_pos hG]
        rfl
      · have hd : decide (F > 4096) = true := decide_eq_true (by omega)
        have hd' : decide ((4096 : Int) < F) = true := decide_eq_true (by omega)
        go_wp2_with fail
        go_ret2
        refine ⟨?_, HB.out⟩
        unfold freeV
        rw [if_neg (by omega)]
        rfl
    · rw [if_neg hb] at hF
      subst hF
      have hbb : (b == 0) = false := by simpa using hb
      have HB : Aside _ := hB
      clear hB
      by_cases hG : b ≤ 4096
      · have hd : decide (b > 4096) = false := decide_eq_false (by omega)
        have hd' : decide ((4096 : Int) < b) = false := decide_eq_false (by omega)
        go_wp2_with fail
        go_ret2
        refine ⟨?_, HB.out⟩
        unfold freeV
        rw [if_pos hG]
        rfl
      · have hd : decide (b > 4096) = true := decide_eq_true (by omega)
        have hd' : decide ((4096 : Int) < b) = true := decide_eq_true (by omega)
        go_wp2_with fail
        go_ret2
        refine ⟨?_, HB.out⟩
        unfold freeV
        rw [if_neg (by omega)]
        rfl
end Go.Proofs.YtcnimekhpnejlaaGreat.Ev

/- Cells that are kept; the first free number; what counts. -/
namespace Go.Proofs.YtcnimekhpnejlaaGreat.Ev
open Go Go.RowKit
set_option linter.unusedVariables false
set_option linter.unusedSimpArgs false
set_option maxRecDepth 10000
theorem cell_kept {w w' : World} (hB : Below w.heap.size w w') {a : Addr} {v : Value} (h : w.cell? a = some v) : w'.cell? a = some v := by
  unfold World.cell? at h ⊢
  split at h
  · rename_i c e fz ho
    rw [hB.block _ (Array.getElem?_eq_some_iff.1 ho).1, ho]
    exact h
  · cases h
theorem cell_flat {w : World} {a : Addr} {v : Value} (h : w.cell? a = some v) : w.cell? ⟨a.block, a.off, none⟩ = some v := by
  unfold World.cell? at h ⊢
  split at h
  · rename_i c e fz ho
    simp only [ho]
    split at h
    · cases h
    · exact h
  · cases h
theorem add_block (b : Addr) (n : Nat) : (b.add n).block = b.block := by
  unfold Addr.add
  split <;> rfl
theorem add_off (b : Addr) (n : Nat) : (b.add n).off = b.off + n := by
  unfold Addr.add
  split
  · rename_i e; rw [e]; rfl
  · rfl
theorem cell_at {w : World} {b : Addr} {n j : Nat} {v : Value} (h : w.cell? (b.add (n + j)) = some v) : w.cell? ⟨(b.add n).block, (b.add n).off + j, none⟩ = some v := by
  have := cell_flat h
  rw [add_block, add_off] at this ⊢
  rw [Nat.add_assoc]
  exact this
theorem free_S0 : freeN S0 = 3 := by
  unfold freeN
  have e : (List.range 4096).find? (fun k : Nat => (S0 ((k : Int) + 1)).kind == 0) = some 2 := by
    rw [show (4096 : Nat) = 3 + 4093 from rfl, List.range_add, List.find?_append]
    rfl
  rw [e]
  rfl
def idxOf : Value → Nat
  | .int _ n => n.toNat
  | _ => 0
end Go.Proofs.YtcnimekhpnejlaaGreat.Ev

/- Inodes with one more that is kept, closed. -/
namespace Go.Proofs.YtcnimekhpnejlaaGreat.Ev
open Go Go.RowKit
set_option linter.unusedVariables false
set_option linter.unusedSimpArgs false
set_option maxRecDepth 10000
theorem ino_more {w w' : World} {x m : Nat} {S : Int → Nd} {L : Int → Option (Nat × Nat × Nat)} (h : Inos Tryz.prog w x S m L) {n : Int} (hn : 1 ≤ n ∧ n ≤ 4096) (hL : L n = none) {v : Nat → D} {o : Nat → Value} (hc : (o 0).oneCell' = true) (hv0 : v 0 = .st (.works fun k => (L k).map (·.1))) (hv1 : v 1 = .i n)
    {nx nx' : Nat} {E' : Env} {h' : T Blk} (hg : Goes (envL [x, m] (rhoV v o)) inoA nx w E' h' nx' w') {iw ig : Nat} (hiw : 2 ≤ iw) (hig : 2 ≤ ig)
    (v0 : (h'.get 0).map Blk.view = some (.cells 107 (inoL 1))) (v1 : (h'.get 1).map Blk.view = some (.opq (.va 0) [(.va 1, iw), (.li 0, 0)])) {a b c d s : SV} (v2 : (h'.get iw).map Blk.view = some (.cells 100 (workL a b c d s ig)))
    {e : X} (v3 : (h'.get ig).map Blk.view = some (.abs e)) (hone : (a.one && b.one && c.one && d.one && s.one) = true) {N' : Nd} (hN : N'.Ok)
    (hden : [a, b, c, d, s].map (SV.den E') = [.int .i64 n, .int .i64 N'.kind, .int .i64 N'.links, .int .i64 (N'.bytes.length : Nat), .int .u64 N'.stamp]) (he : e.val (rhoV v o) = .st (.grow (leavesN N'.bytes.length) (leafOf N'.bytes))) :
    isD Tryz.prog (.st (.ino (updS S n N'))) x w' ∧ (∀ k, ownD Tryz.prog x w' k → ownD Tryz.prog x w k ∨ w.heap.size ≤ k) ∧ But (ownD Tryz.prog x w) w w' := by
  have hρ : E'.ρ = rhoV v o := hg.ext.ρ
  have m0 : E'.m 0 = some ⟨x, 0, 0⟩ := hg.ext.m _ _ (envL_at rfl)
  have m1 : E'.m 1 = some ⟨m, 0, 0⟩ := hg.ext.m _ _ (envL_at rfl)
  have hb : ∀ j B, inoA.get j = some B → j = 0 ∨ j = 1 := fun j B hB => by
    have := memL_get hB
    match j, this with
    | 0, _ => exact .inl rfl
    | 1, _ => exact .inr rfl
    | j + 2, h => simp [inoAs] at h
  obtain ⟨B0, hB0⟩ := live_of v0
  obtain ⟨B1, hB1⟩ := live_of v1
  obtain ⟨Bw, hBw⟩ := live_of v2
  obtain ⟨Bg, hBg, hvg⟩ := Option.map_eq_some_iff.1 v3
  have hBg : h'.get ig = some (.abs e) := by
    unfold Blk.view at hvg
    split at hvg
    · cases hvg
    · cases hvg
    · simp only [BV.abs.injEq] at hvg
      rw [hBg, hvg]
    · cases hvg
    · cases hvg
  obtain ⟨pw, _, hpw, _, _⟩ := hg.rel.at_ iw Bw hBw
  obtain ⟨pg, _, hpg, _, hdg⟩ := hg.rel.at_ ig _ hBg
  have hdg : pg.dl = 0 := hdg
  have hdw : pw.dl = 0 := cells_dl hg.rel v2 hpw
  have newB : ∀ i B p, 2 ≤ i → h'.get i = some B → E'.m i = some p → w.heap.size ≤ p.blk := fun i B p hi hB hp => by
    rcases hg.own i B p hB hp with ⟨j, c, q, hj, hq, e1⟩ | h1
    · exfalso
      have hqE : E'.m j = some q := hg.ext.m _ _ hq
      have hj01 := hb j c hj
      have lv : ∃ C, h'.get j = some C := by
        rcases hj01 with rfl | rfl
        · exact ⟨_, hB0⟩
        · exact ⟨_, hB1⟩
      obtain ⟨C, hC⟩ := lv
      have := hg.rel.inj j i C B q p hC hB hqE hp e1
      omega
    · exact h1
  have nw := newB iw Bw pw hiw hBw hpw
  have ng := newB ig _ pg hig hBg hpg
  have hrow := row_of_view hg.rel v0 inoL_one m0
  rw [inoL_den rfl m1] at hrow
  obtain ⟨o1, hob, _, hoq⟩ := opq_of_view hg.rel v1 m1
  rw [hρ] at hoq
  have hoq : oqD Tryz.prog (v 0) (linksOf E' [(.va 1, iw), (.li 0, 0)]) o1 := hoq
  rw [hv0] at hoq
  obtain ⟨hmap, _⟩ := hoq.2 _ _ hob
  have x1 : X.int E'.ρ (.va 1) = n := by rw [hρ]; show (v 1).int = n; rw [hv1]; rfl
  have hgr := abs_of_view hg.rel v3 hpg
  rw [hρ, he] at hgr
  obtain ⟨sm, hgr⟩ := hgr
  have hwrow := row_of_view hg.rel v2 (by
    simp only [Bool.and_eq_true] at hone
    unfold workL
    simp only [List.all_cons, List.all_nil, hone.1.1.1.1, hone.1.1.1.2, hone.1.1.2, hone.1.2, hone.2]
    rfl) hpw
  have hwork : IsWork Tryz.prog w' n N' (pw.blk, pg.blk, sm) := by
    refine ⟨?_, hgr⟩
    have e1 : (workL a b c d s ig).map (SV.den E') = workCells n N' pg.blk := by
      have e2 : (workL a b c d s ig).map (SV.den E') = [a, b, c, d, s].map (SV.den E') ++ [SV.den E' (.ptr ig 0)] := rfl
      rw [e2, hden]
      show _ ++ [SV.den E' (.ptr ig 0)] = _
      simp only [SV.den, hpg, hdg]
      rfl
    rw [e1] at hwrow
    exact hwrow
  have hsown : E'.ρ.A.own pg.blk w' sm := by rw [hρ]; exact (ownD_grow hgr sm).2 (.inr rfl)
  have far : ∀ j B q, h'.get j = some B → E'.m j = some q → j ≠ ig → sm ≠ q.blk := fun j B q hj hq hne e2 => hg.rel.abs.far ig e _ j B _ hBg hpg hj hq hne (e2 ▸ hsown)
  have hsx : sm ≠ x := far 0 B0 _ hB0 m0 (by omega)
  have hsm : sm ≠ m := far 1 B1 _ hB1 m1 (by omega)
  have hsn : w.heap.size ≤ sm := by
    rcases hg.uown ig e _ hBg hpg sm hsown with ho | hge
    · rcases inoA_owned ho with e2 | e2
      · exact absurd e2 hsx
      · exact absurd e2 hsm
    · exact hge
  have olt : ∀ k t2, L k = some t2 → ∀ j, (j = t2.1 ∨ j = t2.2.1 ∨ j = t2.2.2) → j < w.heap.size := fun k t2 ht2 j hj => h.lt (.inr (.inr ⟨k, t2, ht2, hj⟩))
  have tx := h.tag_x
  have tm := h.tag_m
  have keep : ∀ k t2, L k = some t2 → ∀ j, (j = t2.1 ∨ j = t2.2.1 ∨ j = t2.2.2) → w'.heap[j]? = w.heap[j]? := fun k t2 ht2 j hj =>
    hg.frame.block j (olt k t2 ht2 j hj) fun ho => by
      obtain ⟨g1, g2, g3⟩ := h.tag_t ht2
      have hm := h.map_ne k t2 ht2
      rcases inoA_owned ho with rfl | rfl
      · rcases hj with e2 | e2 | e2
        · exact ne_tag g1 tx (by decide) e2.symm
        · exact ne_tag g2 tx (by decide) e2.symm
        · exact ne_tag g3 tx (by decide) e2.symm
      · rcases hj with e2 | e2 | e2
        · exact ne_tag g1 tm (by decide) e2.symm
        · exact ne_tag g2 tm (by decide) e2.symm
        · exact hm e2.symm
  have hI : Inos Tryz.prog w' x (updS S n N') m (upd L n (pw.blk, pg.blk, sm)) := by
    refine h.close hN hn (c := E'.ρ.o 0) (by rw [hρ]; exact hc) hrow ?_ hwork (fun k t2 hk ht2 => ⟨keep k t2 ht2 _ (.inl rfl), keep k t2 ht2 _ (.inr (.inl rfl)), keep k t2 ht2 _ (.inr (.inr rfl))⟩) (fun k t2 hk ht2 => ?_) hsm
    · have e1 : (fun k => (upd L n (pw.blk, pg.blk, sm) k).map (·.1)) = fun k => if k = 0 then none else (linksOf E' [(.va 1, iw), (.li 0, 0)] k).or ((L k).map (·.1)) := by
        funext k
        by_cases hk : k = n
        · subst hk
          rw [upd_at, if_neg (by omega), linksOf_hit hpw x1]
          rfl
        · rw [upd_ne L _ hk, linksOf_skip (k := .va 1) (by rw [x1]; exact fun e => hk e.symm)]
          split
          · rename_i e0
            subst e0
            cases hL : L 0 with
            | none => rfl
            | some t2 =>
              have := h.num 0 t2 hL
              omega
          · rename_i e0
            rw [linksOf_skip (k := .li 0) (show (0 : Int) ≠ k from fun e => e0 e.symm)]
            rfl
      rw [e1]
      exact hmap
    · have h1 := olt k t2 ht2 t2.1 (.inl rfl)
      have h2 := olt k t2 ht2 t2.2.1 (.inr (.inl rfl))
      have h3 := olt k t2 ht2 t2.2.2 (.inr (.inr rfl))
      exact ⟨fun e => by have e : pw.blk = t2.1 := e; omega, fun e => by have e : pg.blk = t2.2.1 := e; omega, fun e => by have e : sm = t2.2.2 := e; omega⟩
  refine ⟨⟨m, _, hI⟩, fun k hk => ?_, ⟨hg.frame.os, hg.frame.tape, hg.frame.output, hg.frame.size, fun k hk hnk => hg.frame.block k hk fun ho => hnk ((ownD_ino h k).2 ?_)⟩⟩
  · have hk := (ownD_ino hI k).1 hk
    rcases own_upd (sz := w.heap.size) (fun j hj => by
      rcases hj with rfl | rfl | rfl
      · exact .inr nw
      · exact .inr ng
      · exact .inr hsn) hk with h1 | h1
    · exact .inl ((ownD_ino h k).2 h1)
    · exact .inr h1
  · rcases inoA_owned ho with e2 | e2
    · exact .inl e2
    · exact .inr (.inl e2)
end Go.Proofs.YtcnimekhpnejlaaGreat.Ev

/- What calls come to, on all their ways (written by wip/tools/tabs.py). -/
namespace Go.Proofs.YtcnimekhpnejlaaGreat.Ev
open Go
def mkAX0 : X := .bin .rem .i64 (.bin .sub .i64 (.va 1) (.li 1)) (.li 4)
def mkAX1 : X := .bin .quo .i64 (.bin .sub .i64 (.va 1) (.li 1)) (.li 4)
def mkAX2 : X := .app 900 (.cons (.va 0) (.va 1))
def mkAX3 : X := .app 34 (.cons (.app 35 .nil) (.li 0))
def mkAP0 : List (X × Bool) := [((.app 36 (.app 35 .nil)), true), ((.eq mkAX0 (.li 0)), true), ((.lt mkAX1 (.li 0)), false), ((.lt (.li 4096) (.va 1)), false), ((.lt (.va 1) (.li 1)), false), (mkAX2, false), ((.app 902 (.va 1)), true)]
def mkAR0 : List CodeV := [(.ret, [some (.a (.s (.xi .i64 (.va 1)))), some (.a (.s (.int .i64 0)))], [some (.cells 107 (inoL 1)), some (.opq (.va 0) [((.va 1), 10), ((.li 0), 0)]), some (.cells 100 [(.xi .i64 (.va 1)), (.xi .i64 (.va 2)), (.int .i64 1), (.int .i64 0), (.xi .u64 (.va 3)), (.ptr 7 0)]), some (.abs mkAX3)])]
def mkAP1 : List (X × Bool) := [((.app 36 (.app 35 .nil)), true), ((.eq mkAX0 (.li 1)), true), ((.eq mkAX0 (.li 0)), false), ((.lt mkAX1 (.li 0)), false), ((.lt (.li 4096) (.va 1)), false), ((.lt (.va 1) (.li 1)), false), (mkAX2, false), ((.app 902 (.va 1)), true)]
def mkAR1 : List CodeV := [(.ret, [some (.a (.s (.xi .i64 (.va 1)))), some (.a (.s (.int .i64 0)))], [some (.cells 107 (inoL 1)), some (.opq (.va 0) [((.va 1), 10), ((.li 0), 0)]), some (.cells 100 [(.xi .i64 (.va 1)), (.xi .i64 (.va 2)), (.int .i64 1), (.int .i64 0), (.xi .u64 (.va 3)), (.ptr 7 0)]), some (.abs mkAX3)])]
def mkAP2 : List (X × Bool) := [((.app 36 (.app 35 .nil)), true), ((.eq mkAX0 (.li 2)), true), ((.eq mkAX0 (.li 1)), false), ((.eq mkAX0 (.li 0)), false), ((.lt mkAX1 (.li 0)), false), ((.lt (.li 4096) (.va 1)), false), ((.lt (.va 1) (.li 1)), false), (mkAX2, false), ((.app 902 (.va 1)), true)]
def mkAR2 : List CodeV := [(.ret, [some (.a (.s (.xi .i64 (.va 1)))), some (.a (.s (.int .i64 0)))], [some (.cells 107 (inoL 1)), some (.opq (.va 0) [((.va 1), 10), ((.li 0), 0)]), some (.cells 100 [(.xi .i64 (.va 1)), (.xi .i64 (.va 2)), (.int .i64 1), (.int .i64 0), (.xi .u64 (.va 3)), (.ptr 7 0)]), some (.abs mkAX3)])]
def mkAP3 : List (X × Bool) := [((.app 36 (.app 35 .nil)), true), ((.eq mkAX0 (.li 3)), true), ((.eq mkAX0 (.li 2)), false), ((.eq mkAX0 (.li 1)), false), ((.eq mkAX0 (.li 0)), false), ((.lt mkAX1 (.li 0)), false), ((.lt (.li 4096) (.va 1)), false), ((.lt (.va 1) (.li 1)), false), (mkAX2, false), ((.app 902 (.va 1)), true)]
def mkAR3 : List CodeV := [(.ret, [some (.a (.s (.xi .i64 (.va 1)))), some (.a (.s (.int .i64 0)))], [some (.cells 107 (inoL 1)), some (.opq (.va 0) [((.va 1), 10), ((.li 0), 0)]), some (.cells 100 [(.xi .i64 (.va 1)), (.xi .i64 (.va 2)), (.int .i64 1), (.int .i64 0), (.xi .u64 (.va 3)), (.ptr 7 0)]), some (.abs mkAX3)])]
def mkPP0 : List (X × Bool) := [((.lt (.li 4096) (.va 1)), false), ((.lt (.va 1) (.li 1)), false), ((.app 36 (.va 2)), true), ((.eq (.va 1) (.li 0)), false)]
def mkPR0 : List CodeV := [(.ret, [some (.a (.s (.xi .i64 (.va 1)))), some (.a (.s (.int .i64 0)))], [some (.cells 107 (inoL 1)), some (.opq (.va 0) [((.va 1), 2), ((.li 0), 0)]), some (.cells 100 [(.xi .i64 (.va 1)), (.xi .i64 (.va 7)), (.int .i64 1), (.int .i64 0), (.xi .u64 (.va 8)), (.ptr 3 0)]), some (.abs (.app 34 (.cons (.va 2) (.li 0))))])]
end Go.Proofs.YtcnimekhpnejlaaGreat.Ev

/- Inodes: Make. -/
namespace Go.Proofs.YtcnimekhpnejlaaGreat.Ev
open Go Go.RowKit
set_option linter.unusedVariables false
set_option linter.unusedSimpArgs false
set_option maxRecDepth 100000
noncomputable def makC : Code := codeAt (Tryz.f16.body.getD .skip) [1, 1, 1, 1]
def makA : S := ⟨(((T.set .nil 0 (EV.a (.s (.ptr 0 0)))).set 1 (.a (.s (.xi .i64 (.va 2))))).set 2 (.a (.s (.xi .u64 (.va 3))))).set 8 (.a (.s (.xi .i64 (.va 1)))), inoA, 2⟩
def makP : S := ⟨(((T.set .nil 0 (EV.a (.s (.ptr 0 0)))).set 1 (.a (.s (.xi .i64 (.va 7))))).set 2 (.a (.s (.xi .u64 (.va 8))))).set 8 (.a (.s (.xi .i64 (.va 1)))), inoM, 4⟩
theorem mkA_ev0 (ρ : Rho) : (evCode (ctx rules ρ mkAP0) funT.get (evCall (ctx rules ρ mkAP0) funT.get (sumH mkAP0) 100000 1000) Tryz.f16.ntmps 100000 makC makA).map (viewC [6, 7] [0, 1, 10, 7]) = some mkAR0 := by kernel_rfl
theorem mkA_ev1 (ρ : Rho) : (evCode (ctx rules ρ mkAP1) funT.get (evCall (ctx rules ρ mkAP1) funT.get (sumH mkAP1) 100000 1000) Tryz.f16.ntmps 100000 makC makA).map (viewC [6, 7] [0, 1, 10, 7]) = some mkAR1 := by kernel_rfl
theorem mkA_ev2 (ρ : Rho) : (evCode (ctx rules ρ mkAP2) funT.get (evCall (ctx rules ρ mkAP2) funT.get (sumH mkAP2) 100000 1000) Tryz.f16.ntmps 100000 makC makA).map (viewC [6, 7] [0, 1, 10, 7]) = some mkAR2 := by kernel_rfl
theorem mkA_ev3 (ρ : Rho) : (evCode (ctx rules ρ mkAP3) funT.get (evCall (ctx rules ρ mkAP3) funT.get (sumH mkAP3) 100000 1000) Tryz.f16.ntmps 100000 makC makA).map (viewC [6, 7] [0, 1, 10, 7]) = some mkAR3 := by kernel_rfl
theorem mkP_ev0 (ρ : Rho) : (evCode (ctx rules ρ mkPP0) funT.get (evCall (ctx rules ρ mkPP0) funT.get (sumH mkPP0) 100000 1000) Tryz.f16.ntmps 100000 makC makP).map (viewC [6, 7] [0, 1, 2, 3]) = some mkPR0 := by kernel_rfl
/-- An inode that was made. -/
def madeN (kd st : Int) : Nd := ⟨kd, 1, st, []⟩
theorem madeN_ok {kd st : Int} (hk : kd = 1 ∨ kd = 2) (hst : 0 ≤ st ∧ st ≤ 18446744073709551615) : (madeN kd st).Ok := ⟨by show kd = 0 ∨ kd = 1 ∨ kd = 2; omega, show (0 : Int) ≤ 1 ∧ (1 : Int) ≤ 1000 by decide, show ([] : List UInt8).length ≤ 1048576 by decide, fun h => by have h : kd = 0 := h; omega, fun _ => rfl, hst⟩
theorem leafOf_nil : leafOf [] = fun _ => zeros 256 := by
  funext p
  exact leafOf_past (by simp [leavesN])
theorem fit0_val (n : Nat) (lf : Nat → List UInt8) : FN 34 (.p (.st (.grow n lf)) (.i 0)) = .st (.grow (leavesN ([] : List UInt8).length) (leafOf [])) := by
  rw [leafOf_nil]
  show D.st (.grow (0 : Int).toNat fun q => if q < (0 : Int).toNat then lf q else zeros 256) = _
  have e : (fun q => if q < (0 : Int).toNat then lf q else zeros 256) = fun _ => zeros 256 := by
    funext q
    rw [if_neg (by simp)]
  rw [e]
  rfl
theorem make_rest {w : World} {x : Nat} {S : Int → Nd} (h : isD Tryz.prog (.st (.ino S)) x w) {n : Int} (hn : 1 ≤ n ∧ n ≤ 4096) (hS : S n = Nd.none) {kd : Int} (hk : kd = 1 ∨ kd = 2) {st : Int} (hst : 0 ≤ st ∧ st ≤ 18446744073709551615)
    {a : Act} (s0 : a.tmps.getD 0 undef = .pointer (some ⟨x, 0, none⟩)) (s1 : a.tmps.getD 1 undef = .int .i64 kd) (s2 : a.tmps.getD 2 undef = .int .u64 st) (s8 : a.tmps.getD 8 undef = .int .i64 n) (hN : Tryz.f16.ntmps ≤ a.tmps.size) (Q : Exit → Act → World → Prop)
    (hQ : ∀ a' w', a'.tmps.getD 6 undef = .int .i64 n → a'.tmps.getD 7 undef = .int .i64 0 → a'.defers = a.defers → isD Tryz.prog (.st (.ino (updS S n (madeN kd st)))) x w' → (∀ k, ownD Tryz.prog x w' k → ownD Tryz.prog x w k ∨ w.heap.size ≤ k) → But (ownD Tryz.prog x w) w w' → Q .ret a' w') : makC.wp Tryz.prog Q a w := by
  obtain ⟨m, L, h⟩ := h
  cases hL : L n with
  | none =>
    obtain ⟨c, hc, hopen⟩ := ino_none h
    have hr := hopen [.i n, .i kd, .i st]
    obtain ⟨v, hv⟩ : ∃ v, v = ofL [.st (.works fun k => (L k).map (·.1)), .i n, .i kd, .i st] := ⟨_, rfl⟩
    rw [← hv] at hr
    have htm : RelT (envL [x, m] (rhoV v fun _ => c)) makA.tm a.tmps := by
      refine RelT.also (RelT.also (RelT.also (RelT.also RelT.nil ?_) ?_) ?_) ?_
      · rw [s0]; exact ⟨⟨x, 0, 0⟩, envL_at rfl, rfl⟩
      · rw [s1, hv]; exact (rfl : Value.int .i64 kd = _)
      · rw [s2, hv]; exact (rfl : Value.int .u64 st = _)
      · rw [s8, hv]; exact (rfl : Value.int .i64 n = _)
    have i1 : X.int (rhoV v fun _ => c) (.va 1) = n := by rw [hv]; rfl
    have q902 : X.bool (rhoV v fun _ => c) (.app 902 (.va 1)) = true := by
      rw [hv]
      exact decide_eq_true (show -9223372036854775808 ≤ n ∧ n ≤ 9223372036854775807 by omega)
    have q900 : X.bool (rhoV v fun _ => c) mkAX2 = false := by
      rw [hv]
      show ((L n).map (·.1)).isSome = false
      rw [hL]
      rfl
    have q36 : X.bool (rhoV v fun _ => c) (.app 36 (.app 35 .nil)) = true := by rw [hv]; rfl
    have x0 : X.int (rhoV v fun _ => c) mkAX0 = (n - 1) % 4 := by rw [hv]; exact rem_int rfl hn.1 hn.2
    have x1 : X.int (rhoV v fun _ => c) mkAX1 = (n - 1) / 4 := by rw [hv]; exact quo_int rfl hn.1 hn.2
    have go : ∀ (pc : List (X × Bool)), Told (rhoV v fun _ => c) pc → (∀ ρ, (evCode (ctx rules ρ pc) funT.get (evCall (ctx rules ρ pc) funT.get (sumH pc) 100000 1000) Tryz.f16.ntmps 100000 makC makA).map (viewC [6, 7] [0, 1, 10, 7]) = some mkAR0) → makC.wp Tryz.prog Q a w := fun pc hpc hev => by
      refine code_at (rules_ok (base_ok _ _)) hpc (sumH_ok hpc) (hev _) hr rfl (envL_fresh _ _) htm hN Q fun q hq E' a' w' s' hg htm' hsz hdf hv1 hv2 => ?_
      obtain rfl := List.mem_singleton.1 hq
      have hρ : E'.ρ = rhoV v fun _ => c := hg.ext.ρ
      have t6 := slot_of_view htm' (List.cons.inj hv1).1.symm
      have t7 := slot_of_view htm' (List.cons.inj (List.cons.inj hv1).2).1.symm
      have t6 : a'.tmps.getD 6 undef = .int .i64 (X.int E'.ρ (.va 1)) := t6
      have t7 : a'.tmps.getD 7 undef = .int .i64 0 := t7
      rw [hρ, i1] at t6
      have v0 := (List.cons.inj hv2).1.symm
      have r1 := (List.cons.inj hv2).2
      have v1 := (List.cons.inj r1).1.symm
      have r2 := (List.cons.inj r1).2
      have v10 := (List.cons.inj r2).1.symm
      have v7 := (List.cons.inj (List.cons.inj r2).2).1.symm
      obtain ⟨g1, g2, g3⟩ := ino_more h hn hL (o := fun _ => c) hc (by rw [hv]; rfl) (by rw [hv]; rfl) hg (iw := 10) (ig := 7) (by omega) (by omega) v0 v1 v10 v7 rfl (madeN_ok hk hst) (by
        simp only [List.map_cons, List.map_nil, SV.den, hρ]
        rw [hv]
        rfl) (by
        exact fit0_val 0 fun _ => zeros 256)
      exact hQ a' w' t6 t7 hdf g1 g2 g3
    have hm : (n - 1) % 4 = 0 ∨ (n - 1) % 4 = 1 ∨ (n - 1) % 4 = 2 ∨ (n - 1) % 4 = 3 := by omega
    rcases hm with hm | hm | hm | hm
    · exact go mkAP0 (by simp only [mkAP0, told_cons, told_nil, lt_true, lt_false, eq_true, eq_false, li_int, i1, q902, q900, q36, x0, x1, hm, and_true, true_and]; omega) mkA_ev0
    · exact go mkAP1 (by simp only [mkAP1, told_cons, told_nil, lt_true, lt_false, eq_true, eq_false, li_int, i1, q902, q900, q36, x0, x1, hm, and_true, true_and]; omega) mkA_ev1
    · exact go mkAP2 (by simp only [mkAP2, told_cons, told_nil, lt_true, lt_false, eq_true, eq_false, li_int, i1, q902, q900, q36, x0, x1, hm, and_true, true_and]; omega) mkA_ev2
    · exact go mkAP3 (by simp only [mkAP3, told_cons, told_nil, lt_true, lt_false, eq_true, eq_false, li_int, i1, q902, q900, q36, x0, x1, hm, and_true, true_and]; omega) mkA_ev3
  | some t =>
    obtain ⟨c, hc, hopen⟩ := ino_open h hL
    have hr := hopen [.i kd, .i st]
    obtain ⟨v, hv⟩ : ∃ v, v = ofL (inoV (fun k => (L k).map (·.1)) n (S n) [.i kd, .i st]) := ⟨_, rfl⟩
    rw [← hv] at hr
    have htm : RelT (envL [x, m, t.1, t.2.1] (rhoV v fun _ => c)) makP.tm a.tmps := by
      refine RelT.also (RelT.also (RelT.also (RelT.also RelT.nil ?_) ?_) ?_) ?_
      · rw [s0]; exact ⟨⟨x, 0, 0⟩, envL_at rfl, rfl⟩
      · rw [s1, hv]; exact (rfl : Value.int .i64 kd = _)
      · rw [s2, hv]; exact (rfl : Value.int .u64 st = _)
      · rw [s8, hv]; exact (rfl : Value.int .i64 n = _)
    have i1 : X.int (rhoV v fun _ => c) (.va 1) = n := by rw [hv]; rfl
    have q36 : X.bool (rhoV v fun _ => c) (.app 36 (.va 2)) = true := by rw [hv]; rfl
    have hpc : Told (rhoV v fun _ => c) mkPP0 := by simp only [mkPP0, told_cons, told_nil, lt_false, eq_false, li_int, i1, q36, and_true, true_and]; omega
    refine code_at (rules_ok (base_ok _ _)) hpc (sumH_ok hpc) (mkP_ev0 _) hr rfl (envL_fresh _ _) htm hN Q fun q hq E' a' w' s' hg htm' hsz hdf hv1 hv2 => ?_
    obtain rfl := List.mem_singleton.1 hq
    have hρ : E'.ρ = rhoV v fun _ => c := hg.ext.ρ
    have t6 := slot_of_view htm' (List.cons.inj hv1).1.symm
    have t7 := slot_of_view htm' (List.cons.inj (List.cons.inj hv1).2).1.symm
    have t6 : a'.tmps.getD 6 undef = .int .i64 (X.int E'.ρ (.va 1)) := t6
    have t7 : a'.tmps.getD 7 undef = .int .i64 0 := t7
    rw [hρ, i1] at t6
    have v0 := (List.cons.inj hv2).1.symm
    have r1 := (List.cons.inj hv2).2
    have v1 := (List.cons.inj r1).1.symm
    have r2 := (List.cons.inj r1).2
    have v2 := (List.cons.inj r2).1.symm
    have v3 := (List.cons.inj (List.cons.inj r2).2).1.symm
    obtain ⟨g1, g2, g3⟩ := ino_done h hL (o := fun _ => c) hc (by rw [hv]; rfl) (by rw [hv]; rfl) hg v0 v1 v2 v3 rfl (madeN_ok hk hst) (by
      simp only [List.map_cons, List.map_nil, SV.den, hρ]
      rw [hv]
      rfl) (by
      rw [hv]
      exact fit0_val (leavesN (S n).bytes.length) (leafOf (S n).bytes))
    exact hQ a' w' t6 t7 hdf g1 g2 g3
end Go.Proofs.YtcnimekhpnejlaaGreat.Ev

/- Inodes: Make, walked. -/
namespace Go.Proofs.YtcnimekhpnejlaaGreat.Ev
open Go Go.RowKit
set_option linter.unusedVariables false
set_option linter.unusedSimpArgs false
set_option maxRecDepth 100000
/-- What Make answers, and what it makes. -/
def MadeQ (S : Int → Nd) (kd st : Int) (u : Value) (d : D) : Prop := if freeN S ≤ 4096 then d = .st (.ino (updS S (freeN S) (madeN kd st))) ∧ u = .tuple #[.int .i64 (freeN S), .int .i64 0] else d = .st (.ino S) ∧ u = .tuple #[.int .i64 0, .int .i64 150]
theorem free_none {S : Int → Nd} (hok : ∀ n, (S n).Ok) (h : freeN S ≤ 4096) : S (freeN S) = Nd.none := by
  refine (hok _).off ?_
  unfold freeN at h ⊢
  split
  · rename_i k hk
    have := List.find?_some hk
    simpa using this
  · rename_i hk
    rw [hk] at h
    exact absurd h (by decide)
set_option maxHeartbeats 4000000 in
theorem ino_make {w : World} {x : Nat} {S : Int → Nd} (h : isD Tryz.prog (.st (.ino S)) x w) {kd : Int} (hk : kd = 1 ∨ kd = 2) {st : Int} (hst : 0 ≤ st ∧ st ≤ 18446744073709551615) :
    Acts Tryz.prog 16 x [.int .i64 kd, .int .u64 st] w (MadeQ S kd st) := by
  have hok : ∀ n, (S n).Ok := by obtain ⟨m, L, hI⟩ := h; exact hI.ok
  have hg := freeN_ge S
  have hd1 : (kd != 1 && kd != 2) = false := by rcases hk with rfl | rfl <;> rfl
  have hfree := free_any h
  by_cases hF : freeN S ≤ 4096
  · have hQ : ∀ u d, d = .st (.ino (updS S (freeN S) (madeN kd st))) → u = .tuple #[.int .i64 (freeN S), .int .i64 0] → MadeQ S kd st u d := fun u d h1 h2 => by
      unfold MadeQ
      rw [if_pos hF]
      exact ⟨h1, h2⟩
    have hS := free_none hok hF
    unfold freeV at hfree
    rw [if_pos hF] at hfree
    have HF : Aside _ := hfree
    have HR : Aside (∀ w1, Below w.heap.size w w1 → isD Tryz.prog (.st (.ino S)) x w1 ∧ ∀ k, ownD Tryz.prog x w1 k ↔ ownD Tryz.prog x w k) := fun w1 hB => isD_keep h fun k hk => hB.block k (ownD_lt hk)
    clear hfree hok
    generalize freeN S = F at *
    unfold Acts
    rcases hk with rfl | rfl
    all_goals
      go_enter Tryz.func16, Tryz.ntmps16
      show Code.wp _ (.seq _ (.seq _ (.seq _ (.seq _ makC)))) _ _ _
      go_wp2_with (go_at_call 39; refine Calls.mono HF.out ?_; rintro e w1 ⟨rfl, hB⟩)
      obtain ⟨hI, hO⟩ := HR.out w1 hB
      refine make_rest hI ⟨hg.1, hF⟩ hS ?_ hst (by first | rfl | (simp; done)) (by first | rfl | (simp; done)) (by first | rfl | (simp; done)) (by first | rfl | (simp; done)) (by exact Nat.le_refl _) _ ?_
      · omega
      · intro a' w' t6 t7 hdf g1 g2 g3
        refine bodyPost_ret (v := .tuple #[.int .i64 F, .int .i64 0]) ?_ hdf ?_
        · rw [results_tmp2 (t := 6) (u := 7) rfl, t6, t7]
        · exact ⟨_, _, rfl, hQ _ _ rfl rfl, g1, fun k hk => (g2 k hk).elim (fun e => .inl ((hO k).1 e)) (fun e => .inr (Nat.le_trans hB.size e)),
            ⟨g3.os.trans hB.os, g3.tape.trans hB.tape, g3.output.trans hB.output, Nat.le_trans hB.size g3.size, fun k hk hn => (g3.block k (Nat.lt_of_lt_of_le hk hB.size) fun e => hn ((hO k).1 e)).trans (hB.block k hk)⟩⟩
  · have hQ : ∀ u d, d = .st (.ino S) → u = .tuple #[.int .i64 0, .int .i64 150] → MadeQ S kd st u d := fun u d h1 h2 => by
      unfold MadeQ
      rw [if_neg hF]
      exact ⟨h1, h2⟩
    unfold freeV at hfree
    rw [if_neg hF] at hfree
    have HF : Aside _ := hfree
    have HR : Aside (∀ w1, Below w.heap.size w w1 → isD Tryz.prog (.st (.ino S)) x w1 ∧ ∀ k, ownD Tryz.prog x w1 k ↔ ownD Tryz.prog x w k) := fun w1 hB => isD_keep h fun k hk => hB.block k (ownD_lt hk)
    clear hfree hok
    generalize freeN S = F at *
    unfold Acts
    have HQ : Aside _ := hQ
    clear hQ
    rcases hk with rfl | rfl
    all_goals
      go_enter Tryz.func16, Tryz.ntmps16
      go_wp2_with (go_at_call 39; refine Calls.mono HF.out ?_; rintro e w1 ⟨rfl, hB⟩)
      obtain ⟨hI, hO⟩ := HR.out w1 hB
      refine bodyPost_ret (v := .tuple #[.int .i64 0, .int .i64 150]) ?_ rfl ?_
      · rw [results_tmp2 (t := 6) (u := 7) rfl]
        rfl
      · exact ⟨_, _, rfl, HQ.out _ _ rfl rfl, hI, fun k hk => .inl ((hO k).1 hk), ⟨hB.os, hB.tape, hB.output, hB.size, fun k hk _ => hB.block k hk⟩⟩
end Go.Proofs.YtcnimekhpnejlaaGreat.Ev

/- What calls come to, on all their ways (written by wip/tools/tabs.py). -/
namespace Go.Proofs.YtcnimekhpnejlaaGreat.Ev
open Go
def donX0 : X := .bin .sub .i64 (.li 1048576) (.len (.va 0))
def donX1 : X := .bin .add .i64 (.bin .rem .i64 (.va 2) (.li 8)) (.li 8)
def donX2 : X := .bin .sub .i64 (.va 3) (.len (.va 0))
def donX3 : X := .bin .sub .i64 (.bin .add .i64 (.va 3) (.va 4)) (.va 3)
def donX4 : X := .cat (.sub (.va 0) (.li 0) (.va 3)) (.app 69 donX3)
def donX5 : X := .sub (.va 0) (.bin .add .i64 (.va 3) (.va 4)) (.len (.va 0))
def donX6 : X := .bin .sub .i64 (.len (.va 0)) (.va 3)
def donX7 : X := .cat (.sub (.va 0) (.li 0) (.va 3)) (.app 69 donX6)
def donX8 : X := .sub (.va 0) (.len (.va 0)) (.len (.va 0))
def donX9 : X := .bin .sub .i64 (.li 1048576) (.len (.va 5))
def donX10 : X := .bin .add .i64 (.va 3) (.len (.va 5))
def donX11 : X := .bin .sub .i64 donX10 (.len (.va 0))
def donX12 : X := .sub (.cat (.va 0) (.app 69 donX11)) (.li 0) (.va 3)
def donX13 : X := .len (.cat (.va 0) (.app 69 donX11))
def donX14 : X := .sub (.cat (.va 0) (.app 69 donX11)) donX10 donX13
def donP0 : List (X × Bool) := [((.lt donX0 (.len (.va 5))), true), ((.eq (.bin .rem .i64 donX1 (.li 8)) (.li 3)), true)]
def donR0 : EV × List (Option BV) := ((.tup [(.s (.int .i64 0)), (.s (.int .i64 160)), (.agg [(.xs (.va 0)), (.xi .u64 (.va 1))])]), [])
def donP1 : List (X × Bool) := [((.seq (.va 5) (.ls ⟨#[]⟩)), true), ((.lt donX0 (.len (.va 5))), false), ((.eq (.bin .rem .i64 donX1 (.li 8)) (.li 3)), true)]
def donR1 : EV × List (Option BV) := ((.tup [(.s (.xi .i64 (.len (.va 0)))), (.s (.int .i64 0)), (.agg [(.xs (.va 0)), (.xi .u64 (.va 1))])]), [])
def donP2 : List (X × Bool) := [((.big (.va 0) (.va 5)), false), ((.seq (.va 5) (.ls ⟨#[]⟩)), false), ((.lt donX0 (.len (.va 5))), false), ((.eq (.bin .rem .i64 donX1 (.li 8)) (.li 3)), true)]
def donR2 : EV × List (Option BV) := ((.tup [(.s (.xi .i64 (.len (.va 0)))), (.s (.int .i64 0)), (.agg [(.xs (.cat (.va 0) (.va 5))), (.xi .u64 (.va 6))])]), [])
def donP3 : List (X × Bool) := [((.lt (.va 3) (.li 0)), true), ((.eq (.bin .rem .i64 donX1 (.li 8)) (.li 4)), true), ((.eq (.bin .rem .i64 donX1 (.li 8)) (.li 3)), false)]
def donR3 : EV × List (Option BV) := ((.tup [(.s (.int .i64 0)), (.s (.int .i64 1)), (.agg [(.xs (.va 0)), (.xi .u64 (.va 1))])]), [])
def donP4 : List (X × Bool) := [((.lt (.li 1048576) (.va 3)), true), ((.lt (.va 3) (.li 0)), false), ((.eq (.bin .rem .i64 donX1 (.li 8)) (.li 4)), true), ((.eq (.bin .rem .i64 donX1 (.li 8)) (.li 3)), false)]
def donR4 : EV × List (Option BV) := ((.tup [(.s (.int .i64 0)), (.s (.int .i64 160)), (.agg [(.xs (.va 0)), (.xi .u64 (.va 1))])]), [])
def donP5 : List (X × Bool) := [((.lt (.len (.cat (.va 0) (.app 69 donX2))) (.va 3)), false), ((.big (.va 0) (.app 69 donX2)), false), ((.lt (.li 1048576) donX2), false), ((.app 902 donX2), true), ((.lt (.li 1048576) (.va 3)), false), ((.lt (.va 3) (.li 0)), false), ((.eq (.bin .rem .i64 donX1 (.li 8)) (.li 4)), true), ((.eq (.bin .rem .i64 donX1 (.li 8)) (.li 3)), false)]
def donR5 : EV × List (Option BV) := ((.tup [(.s (.int .i64 0)), (.s (.int .i64 0)), (.agg [(.xs (.sub (.cat (.va 0) (.app 69 donX2)) (.li 0) (.va 3))), (.xi .u64 (.va 6))])]), [])
def donP6 : List (X × Bool) := [((.lt (.va 3) (.li 0)), true), ((.eq (.bin .rem .i64 donX1 (.li 8)) (.li 5)), true), ((.eq (.bin .rem .i64 donX1 (.li 8)) (.li 4)), false), ((.eq (.bin .rem .i64 donX1 (.li 8)) (.li 3)), false)]
def donR6 : EV × List (Option BV) := ((.tup [(.s (.int .i64 0)), (.s (.int .i64 1)), (.agg [(.xs (.va 0)), (.xi .u64 (.va 1))])]), [])
def donP7 : List (X × Bool) := [((.lt (.va 4) (.li 0)), true), ((.lt (.va 3) (.li 0)), false), ((.eq (.bin .rem .i64 donX1 (.li 8)) (.li 5)), true), ((.eq (.bin .rem .i64 donX1 (.li 8)) (.li 4)), false), ((.eq (.bin .rem .i64 donX1 (.li 8)) (.li 3)), false)]
def donR7 : EV × List (Option BV) := ((.tup [(.s (.int .i64 0)), (.s (.int .i64 1)), (.agg [(.xs (.va 0)), (.xi .u64 (.va 1))])]), [])
def donP8 : List (X × Bool) := [((.eq (.va 4) (.li 0)), true), ((.lt (.va 3) (.len (.va 0))), true), ((.lt (.va 4) (.li 0)), false), ((.lt (.va 3) (.li 0)), false), ((.eq (.bin .rem .i64 donX1 (.li 8)) (.li 5)), true), ((.eq (.bin .rem .i64 donX1 (.li 8)) (.li 4)), false), ((.eq (.bin .rem .i64 donX1 (.li 8)) (.li 3)), false)]
def donR8 : EV × List (Option BV) := ((.tup [(.s (.int .i64 0)), (.s (.int .i64 0)), (.agg [(.xs (.va 0)), (.xi .u64 (.va 1))])]), [])
def donP9 : List (X × Bool) := [((.big donX4 donX5), false), ((.big (.sub (.va 0) (.li 0) (.va 3)) (.app 69 donX3)), false), ((.lt (.li 1048576) donX3), false), ((.app 902 donX3), true), ((.lt (.len (.va 0)) (.bin .add .i64 (.va 3) (.va 4))), false), ((.lt (.bin .add .i64 (.va 3) (.va 4)) (.li 0)), false), ((.lt (.len (.va 0)) (.va 3)), false), ((.lt (.va 4) donX6), true), ((.eq (.va 4) (.li 0)), false), ((.lt (.va 3) (.len (.va 0))), true), ((.lt (.va 4) (.li 0)), false), ((.lt (.va 3) (.li 0)), false), ((.eq (.bin .rem .i64 donX1 (.li 8)) (.li 5)), true), ((.eq (.bin .rem .i64 donX1 (.li 8)) (.li 4)), false), ((.eq (.bin .rem .i64 donX1 (.li 8)) (.li 3)), false)]
def donR9 : EV × List (Option BV) := ((.tup [(.s (.int .i64 0)), (.s (.int .i64 0)), (.agg [(.xs (.cat donX4 donX5)), (.xi .u64 (.va 6))])]), [])
def donP10 : List (X × Bool) := [((.big donX7 donX8), false), ((.big (.sub (.va 0) (.li 0) (.va 3)) (.app 69 donX6)), false), ((.lt (.li 1048576) donX6), false), ((.app 902 donX6), true), ((.lt (.len (.va 0)) (.li 0)), false), ((.lt (.len (.va 0)) (.va 3)), false), ((.lt (.va 4) donX6), false), ((.eq (.va 4) (.li 0)), false), ((.lt (.va 3) (.len (.va 0))), true), ((.lt (.va 4) (.li 0)), false), ((.lt (.va 3) (.li 0)), false), ((.eq (.bin .rem .i64 donX1 (.li 8)) (.li 5)), true), ((.eq (.bin .rem .i64 donX1 (.li 8)) (.li 4)), false), ((.eq (.bin .rem .i64 donX1 (.li 8)) (.li 3)), false)]
def donR10 : EV × List (Option BV) := ((.tup [(.s (.int .i64 0)), (.s (.int .i64 0)), (.agg [(.xs (.cat donX7 donX8)), (.xi .u64 (.va 6))])]), [])
def donP11 : List (X × Bool) := [((.lt (.va 3) (.len (.va 0))), false), ((.lt (.va 4) (.li 0)), false), ((.lt (.va 3) (.li 0)), false), ((.eq (.bin .rem .i64 donX1 (.li 8)) (.li 5)), true), ((.eq (.bin .rem .i64 donX1 (.li 8)) (.li 4)), false), ((.eq (.bin .rem .i64 donX1 (.li 8)) (.li 3)), false)]
def donR11 : EV × List (Option BV) := ((.tup [(.s (.int .i64 0)), (.s (.int .i64 0)), (.agg [(.xs (.va 0)), (.xi .u64 (.va 1))])]), [])
def donP12 : List (X × Bool) := [((.lt (.va 3) (.li 0)), true), ((.eq (.bin .rem .i64 donX1 (.li 8)) (.li 5)), false), ((.eq (.bin .rem .i64 donX1 (.li 8)) (.li 4)), false), ((.eq (.bin .rem .i64 donX1 (.li 8)) (.li 3)), false)]
def donR12 : EV × List (Option BV) := ((.tup [(.s (.int .i64 0)), (.s (.int .i64 1)), (.agg [(.xs (.va 0)), (.xi .u64 (.va 1))])]), [])
def donP13 : List (X × Bool) := [((.lt (.li 1048576) (.len (.va 5))), true), ((.lt (.va 3) (.li 0)), false), ((.eq (.bin .rem .i64 donX1 (.li 8)) (.li 5)), false), ((.eq (.bin .rem .i64 donX1 (.li 8)) (.li 4)), false), ((.eq (.bin .rem .i64 donX1 (.li 8)) (.li 3)), false)]
def donR13 : EV × List (Option BV) := ((.tup [(.s (.int .i64 0)), (.s (.int .i64 160)), (.agg [(.xs (.va 0)), (.xi .u64 (.va 1))])]), [])
def donP14 : List (X × Bool) := [((.lt donX9 (.va 3)), true), ((.lt (.li 1048576) (.len (.va 5))), false), ((.lt (.va 3) (.li 0)), false), ((.eq (.bin .rem .i64 donX1 (.li 8)) (.li 5)), false), ((.eq (.bin .rem .i64 donX1 (.li 8)) (.li 4)), false), ((.eq (.bin .rem .i64 donX1 (.li 8)) (.li 3)), false)]
def donR14 : EV × List (Option BV) := ((.tup [(.s (.int .i64 0)), (.s (.int .i64 160)), (.agg [(.xs (.va 0)), (.xi .u64 (.va 1))])]), [])
def donP15 : List (X × Bool) := [((.seq (.va 5) (.ls ⟨#[]⟩)), true), ((.lt donX9 (.va 3)), false), ((.lt (.li 1048576) (.len (.va 5))), false), ((.lt (.va 3) (.li 0)), false), ((.eq (.bin .rem .i64 donX1 (.li 8)) (.li 5)), false), ((.eq (.bin .rem .i64 donX1 (.li 8)) (.li 4)), false), ((.eq (.bin .rem .i64 donX1 (.li 8)) (.li 3)), false)]
def donR15 : EV × List (Option BV) := ((.tup [(.s (.xi .i64 (.va 3))), (.s (.int .i64 0)), (.agg [(.xs (.va 0)), (.xi .u64 (.va 1))])]), [])
def donP16 : List (X × Bool) := [((.big (.cat donX12 (.va 5)) donX14), false), ((.lt donX13 donX10), false), ((.lt donX10 (.li 0)), false), ((.big donX12 (.va 5)), false), ((.lt donX13 (.va 3)), false), ((.big (.va 0) (.app 69 donX11)), false), ((.lt (.li 1048576) donX11), false), ((.app 902 donX11), true), ((.seq (.va 5) (.ls ⟨#[]⟩)), false), ((.lt donX9 (.va 3)), false), ((.lt (.li 1048576) (.len (.va 5))), false), ((.lt (.va 3) (.li 0)), false), ((.eq (.bin .rem .i64 donX1 (.li 8)) (.li 5)), false), ((.eq (.bin .rem .i64 donX1 (.li 8)) (.li 4)), false), ((.eq (.bin .rem .i64 donX1 (.li 8)) (.li 3)), false)]
def donR16 : EV × List (Option BV) := ((.tup [(.s (.xi .i64 donX10)), (.s (.int .i64 0)), (.agg [(.xs (.cat (.cat donX12 (.va 5)) donX14)), (.xi .u64 (.va 6))])]), [])
end Go.Proofs.YtcnimekhpnejlaaGreat.Ev

/- What is done to a file, and what it comes to: the plain side of the plays. -/
namespace Go.Proofs.YtcnimekhpnejlaaGreat.Ev
open Go Go.RowKit
set_option linter.unusedVariables false
theorem wrN_links (N : Nd) (a : Nat) (s : List UInt8) (t : Int) : (wrN N a s t).links = N.links := by
  unfold wrN
  split <;> rfl
theorem layN_links' (N : Nd) (a : Nat) (s : List UInt8) (t : Int) : (layN N a s t).links = N.links := by
  unfold layN
  split <;> rfl
theorem doN_same (k : Int) (N : Nd) (a m : Int) (t : List UInt8) (st : Int) : (doN k N a m t st).2.2.kind = N.kind ∧ (doN k N a m t st).2.2.links = N.links := by
  have h1 : ∀ (a : Nat) (s : List UInt8), (wrN N a s st).kind = N.kind := fun a s => by unfold wrN; split <;> rfl
  have h2 : ∀ (a : Nat) (s : List UInt8), (layN N a s st).kind = N.kind := fun a s => by unfold layN; split <;> rfl
  unfold doN
  split
  · split
    · exact ⟨h1 _ _, wrN_links _ _ _ _⟩
    · exact ⟨rfl, rfl⟩
  · split
    · split
      · exact ⟨rfl, rfl⟩
      · split <;> exact ⟨rfl, rfl⟩
    · split
      · split
        · exact ⟨rfl, rfl⟩
        · split
          · exact ⟨rfl, rfl⟩
          · exact ⟨h2 _ _, layN_links' _ _ _ _⟩
      · split
        · exact ⟨h1 _ _, wrN_links _ _ _ _⟩
        · exact ⟨rfl, rfl⟩
/-! ### The document's words for it -/
theorem res_doc {s : List UInt8} {a : Nat} : (s ++ zeros (a - s.length)).take a = resizeB s a := by
  unfold resizeB
  by_cases h : a ≤ s.length
  · rw [show a - s.length = 0 by omega]
    simp [zeros]
  · rw [List.take_append, List.take_of_length_le (by omega : s.length ≤ a), List.take_of_length_le (by rw [zeros_length]; omega : (zeros (a - s.length)).length ≤ a - s.length)]
theorem over_doc {s t : List UInt8} {a : Nat} : s.take a ++ t ++ s.drop (a + t.length) = overB s a t := rfl
theorem grown_doc {s : List UInt8} {e : Nat} : s ++ zeros (e - s.length) = resizeB s (max s.length e) := by
  unfold resizeB
  rw [List.take_of_length_le (by omega), show max s.length e - s.length = e - s.length by omega]
theorem app_doc {s t : List UInt8} : s ++ t = writeB s s.length t := by
  unfold writeB
  split
  · rename_i e
    rw [e, List.append_nil]
  · rw [show max s.length (s.length + t.length) = s.length + t.length by omega]
    unfold overB resizeB
    rw [show s.length + t.length - s.length = t.length by omega, List.take_of_length_le (by omega : s.length ≤ s.length + t.length), List.take_left', List.drop_of_length_le (by rw [List.length_append, zeros_length]; exact Nat.le_refl _), List.append_nil]
    rfl
theorem write_doc {s t : List UInt8} {a : Nat} (h : t ≠ []) : (s ++ zeros (a + t.length - s.length)).take a ++ t ++ (s ++ zeros (a + t.length - s.length)).drop (a + t.length) = writeB s a t := by
  unfold writeB
  rw [if_neg h, grown_doc]
  rfl
theorem part_doc {s : List UInt8} {a m : Nat} : readB s a m = if s.length ≤ a then [] else (s.drop a).take m := by
  split
  · exact readB_past (by assumption)
  · rfl
end Go.Proofs.YtcnimekhpnejlaaGreat.Ev

/- The statements of files: what is to come of a call (the document's done). -/
namespace Go.Proofs.YtcnimekhpnejlaaGreat.Ev
open Go Go.RowKit
set_option linter.unusedVariables false
set_option linter.unusedSimpArgs false
set_option maxRecDepth 10000
def donArgs : List EV := [.a (.agg [.xs (.va 0), .xi .u64 (.va 1)]), .a (.agg [.xi .i64 (.va 2), .xi .i64 (.va 3), .xi .i64 (.va 4), .xs (.va 5), .xi .u64 (.va 6)])]
theorem don_ev0 (ρ : Rho) : (evCall (ctx rules0 ρ donP0) funT.get (sumP (rZer donP0)) 100000 1000 18 donArgs .nil 0).map (view []) = some donR0 := by kernel_rfl
theorem don_ev1 (ρ : Rho) : (evCall (ctx rules0 ρ donP1) funT.get (sumP (rZer donP1)) 100000 1000 18 donArgs .nil 0).map (view []) = some donR1 := by kernel_rfl
theorem don_ev2 (ρ : Rho) : (evCall (ctx rules0 ρ donP2) funT.get (sumP (rZer donP2)) 100000 1000 18 donArgs .nil 0).map (view []) = some donR2 := by kernel_rfl
theorem don_ev3 (ρ : Rho) : (evCall (ctx rules0 ρ donP3) funT.get (sumP (rZer donP3)) 100000 1000 18 donArgs .nil 0).map (view []) = some donR3 := by kernel_rfl
theorem don_ev4 (ρ : Rho) : (evCall (ctx rules0 ρ donP4) funT.get (sumP (rZer donP4)) 100000 1000 18 donArgs .nil 0).map (view []) = some donR4 := by kernel_rfl
theorem don_ev5 (ρ : Rho) : (evCall (ctx rules0 ρ donP5) funT.get (sumP (rZer donP5)) 100000 1000 18 donArgs .nil 0).map (view []) = some donR5 := by kernel_rfl
theorem don_ev6 (ρ : Rho) : (evCall (ctx rules0 ρ donP6) funT.get (sumP (rZer donP6)) 100000 1000 18 donArgs .nil 0).map (view []) = some donR6 := by kernel_rfl
theorem don_ev7 (ρ : Rho) : (evCall (ctx rules0 ρ donP7) funT.get (sumP (rZer donP7)) 100000 1000 18 donArgs .nil 0).map (view []) = some donR7 := by kernel_rfl
theorem don_ev8 (ρ : Rho) : (evCall (ctx rules0 ρ donP8) funT.get (sumP (rZer donP8)) 100000 1000 18 donArgs .nil 0).map (view []) = some donR8 := by kernel_rfl
theorem don_ev9 (ρ : Rho) : (evCall (ctx rules0 ρ donP9) funT.get (sumP (rZer donP9)) 100000 1000 18 donArgs .nil 0).map (view []) = some donR9 := by kernel_rfl
theorem don_ev10 (ρ : Rho) : (evCall (ctx rules0 ρ donP10) funT.get (sumP (rZer donP10)) 100000 1000 18 donArgs .nil 0).map (view []) = some donR10 := by kernel_rfl
theorem don_ev11 (ρ : Rho) : (evCall (ctx rules0 ρ donP11) funT.get (sumP (rZer donP11)) 100000 1000 18 donArgs .nil 0).map (view []) = some donR11 := by kernel_rfl
theorem don_ev12 (ρ : Rho) : (evCall (ctx rules0 ρ donP12) funT.get (sumP (rZer donP12)) 100000 1000 18 donArgs .nil 0).map (view []) = some donR12 := by kernel_rfl
theorem don_ev13 (ρ : Rho) : (evCall (ctx rules0 ρ donP13) funT.get (sumP (rZer donP13)) 100000 1000 18 donArgs .nil 0).map (view []) = some donR13 := by kernel_rfl
theorem don_ev14 (ρ : Rho) : (evCall (ctx rules0 ρ donP14) funT.get (sumP (rZer donP14)) 100000 1000 18 donArgs .nil 0).map (view []) = some donR14 := by kernel_rfl
theorem don_ev15 (ρ : Rho) : (evCall (ctx rules0 ρ donP15) funT.get (sumP (rZer donP15)) 100000 1000 18 donArgs .nil 0).map (view []) = some donR15 := by kernel_rfl
theorem don_ev16 (ρ : Rho) : (evCall (ctx rules0 ρ donP16) funT.get (sumP (rZer donP16)) 100000 1000 18 donArgs .nil 0).map (view []) = some donR16 := by kernel_rfl
theorem tupV3 {E : Env} {a b c : AV} {v va vb vc : Value} (h : (EV.tup [a, b, c]).rel E v) (ha : ∀ x, a.rel E x → x = va) (hb : ∀ x, b.rel E x → x = vb) (hc : ∀ x, c.rel E x → x = vc) : v = .tuple #[va, vb, vc] := by
  obtain ⟨vs, rfl, hvs⟩ := h
  match vs, hvs with
  | [x, y, z], hvs => rw [ha x hvs.1, hb y hvs.2.1, hc z hvs.2.2.1]
theorem md_rel {E : Env} {c d : X} {v : Value} (h : (AV.agg [.xs c, .xi .u64 d]).rel E v) : v = .agg #[.string (c.str E.ρ), .int .u64 (d.int E.ρ)] := by
  obtain ⟨vs, rfl, hvs⟩ := h
  match vs, hvs with
  | [x, y], hvs =>
    obtain ⟨h1, h2, _⟩ := hvs
    have h1 : x = .string (c.str E.ρ) := h1
    have h2 : y = .int .u64 (d.int E.ρ) := h2
    rw [h1, h2]
/-- What done answers. -/
def doneV (x : Int × Int × Nd) : Value := .tuple #[.int .i64 x.1, .int .i64 x.2.1, .agg #[.string ⟨x.2.2.bytes.toArray⟩, .int .u64 x.2.2.stamp]]
/-- A thing that is done, as a value. -/
def actV (k a m : Int) (t : ByteArray) (st : Int) : Value := .agg #[.int .i64 k, .int .i64 a, .int .i64 m, .string t, .int .u64 st]
def mdV (N : Nd) : Value := .agg #[.string ⟨N.bytes.toArray⟩, .int .u64 N.stamp]
theorem done_fin {ρ : Rho} {a b : SV} {c d : X} {x : Int × Int × Nd} (ha : ∀ E u, E.ρ = ρ → a.rel E u → u = .int .i64 x.1) (hb : ∀ E u, E.ρ = ρ → b.rel E u → u = .int .i64 x.2.1) (hc : c.str ρ = ⟨x.2.2.bytes.toArray⟩) (hd : d.int ρ = x.2.2.stamp) :
    ∀ E u, E.ρ = ρ → (EV.tup [.s a, .s b, .agg [.xs c, .xi .u64 d]]).rel E u → u = doneV x := fun E u hE hu =>
  tupV3 hu (ha E · hE) (hb E · hE) fun z hz => by rw [md_rel hz, hE, hc, hd]
theorem int_fin {ρ : Rho} {n m : Int} (h : n = m) : ∀ (E : Env) (u : Value), E.ρ = ρ → (SV.int .i64 n).rel E u → u = .int .i64 m := fun E u _ hu => by rw [show u = .int .i64 n from hu, h]
theorem xi_fin {ρ : Rho} {e : X} {m : Int} (h : e.int ρ = m) : ∀ (E : Env) (u : Value), E.ρ = ρ → (SV.xi .i64 e).rel E u → u = .int .i64 m := fun E u hE hu => by rw [show u = .int .i64 (e.int E.ρ) from hu, hE, h]
theorem size_bs (l : List UInt8) : (⟨l.toArray⟩ : ByteArray).size = l.length := List.size_toArray
theorem cat_bs (l m : List UInt8) : (⟨l.toArray⟩ : ByteArray) ++ ⟨m.toArray⟩ = ⟨(l ++ m).toArray⟩ := by
  apply ByteArray.ext
  simp
theorem ext_bs (l : List UInt8) (a b : Nat) : (⟨l.toArray⟩ : ByteArray).extract a b = ⟨((l.take b).drop a).toArray⟩ := sub_str
theorem sub_st {ρ : Rho} {a b c : X} : X.str ρ (.sub a b c) = (X.str ρ a).extract (X.int ρ b).toNat (X.int ρ c).toNat := rfl
theorem big_false {ρ : Rho} {a b : X} (h : (((X.str ρ a).size + (X.str ρ b).size : Nat) : Int) ≤ 9223372036854775807) : X.bool ρ (.big a b) = false := decide_eq_false (show ¬ ((((X.str ρ a).size + (X.str ρ b).size : Nat) : Int) > 9223372036854775807) by omega)
theorem rem_int' {ρ : Rho} {a b : X} : X.int ρ (.bin .rem .i64 a b) = (X.int ρ a).tmod (X.int ρ b) := rfl
theorem tmod8 (k : Int) : -8 < k.tmod 8 ∧ k.tmod 8 < 8 := by
  rcases Int.le_total 0 k with h | h
  · rw [Int.tmod_eq_emod_of_nonneg h]
    omega
  · obtain ⟨j, rfl⟩ : ∃ j, k = -j := ⟨-k, by omega⟩
    rw [Int.neg_tmod, Int.tmod_eq_emod_of_nonneg (by omega : 0 ≤ j)]
    omega
set_option maxHeartbeats 4000000 in
theorem done_any (N : Nd) (hl : N.bytes.length ≤ 1048576) (k a m : Int) (ha : i64 a) (hm : i64 m) (t : ByteArray) (st : Int) (w : World) :
    Calls Tryz.prog 18 #[mdV N, actV k a m t st] w fun e w' => e = .returned (doneV (doN (kindA k) N a m t.data.toList st)) ∧ Below w.heap.size w w' := by
  unfold i64 at ha hm
  have lt := ba_size t
  obtain ⟨v, hv⟩ : ∃ v, v = ofL [.s ⟨N.bytes.toArray⟩, .i N.stamp, .i k, .i a, .i m, .s t, .i st] := ⟨_, rfl⟩
  obtain ⟨o, ho⟩ : ∃ o : Nat → Value, o = fun _ => undef := ⟨_, rfl⟩
  have hrel : Rels (EV.rel ⟨fun _ => none, rhoI v o⟩) donArgs [mdV N, actV k a m t st] := by
    rw [hv]
    exact ⟨⟨_, rfl, rfl, rfl, trivial⟩, ⟨_, rfl, rfl, rfl, rfl, rfl, rfl, trivial⟩, trivial⟩
  have go : ∀ (pc : List (X × Bool)) (r : EV) (x : Int × Int × Nd), Told (rhoI v o) pc → (∀ ρ, (evCall (ctx rules0 ρ pc) funT.get (sumP (rZer pc)) 100000 1000 18 donArgs .nil 0).map (view []) = some (r, [])) →
      (∀ E u, E.ρ = rhoI v o → r.rel E u → u = doneV x) → Calls Tryz.prog 18 #[mdV N, actV k a m t st] w fun e w' => e = .returned (doneV x) ∧ Below w.heap.size w w' := fun pc r x hpc hev hb =>
    nil_came (call_at (rules0_ok _) hpc (sumP_ok (rZer_ok hpc)) (hev _) (nil_rel _ w) rfl (fun _ _ => rfl) (vs := [mdV N, actV k a m t st]) hrel) hb
  have s0 : X.str (rhoI v o) (.va 0) = ⟨N.bytes.toArray⟩ := by rw [hv]; rfl
  have i1 : X.int (rhoI v o) (.va 1) = N.stamp := by rw [hv]; rfl
  have i2 : X.int (rhoI v o) (.va 2) = k := by rw [hv]; rfl
  have i3 : X.int (rhoI v o) (.va 3) = a := by rw [hv]; rfl
  have i4 : X.int (rhoI v o) (.va 4) = m := by rw [hv]; rfl
  have s5 : X.str (rhoI v o) (.va 5) = t := by rw [hv]; rfl
  have i6 : X.int (rhoI v o) (.va 6) = st := by rw [hv]; rfl
  clear hv ho hrel
  have l0 : X.int (rhoI v o) (.len (.va 0)) = (N.bytes.length : Nat) := by rw [len_int, s0, size_bs]
  have l5 : X.int (rhoI v o) (.len (.va 5)) = (t.data.toList.length : Nat) := by rw [len_int, s5, lt]
  have s5' : X.str (rhoI v o) (.va 5) = ⟨t.data.toList.toArray⟩ := s5
  obtain ⟨T, hT⟩ : ∃ T, T = t.data.toList := ⟨_, rfl⟩
  rw [← hT] at l5 s5' ⊢
  have hk8 := tmod8 k
  have qk : X.int (rhoI v o) (.bin .rem .i64 donX1 (.li 8)) = kindA k := by
    unfold donX1 kindA
    rw [rem_int', add_int, rem_int', li_int, i2, wrap_i (by omega) (by omega)]
  obtain ⟨K, hK⟩ : ∃ K, K = kindA k := ⟨_, rfl⟩
  rw [← hK] at qk ⊢
  have x0 : X.int (rhoI v o) donX0 = 1048576 - (N.bytes.length : Nat) := by
    unfold donX0
    rw [sub_int, l0, li_int, wrap_i (by omega) (by omega)]
  have hse : X.bool (rhoI v o) (.seq (.va 5) (.ls ⟨#[]⟩)) = decide (T = []) := by
    rw [hT]
    exact seq_bool s5 rfl
  have b902 := fun e => b902 (v := v) (o := o) (e := e)
  have z69 : ∀ e, X.str (rhoI v o) (.app 69 e) = ⟨(zeros (X.int (rhoI v o) e).toNat).toArray⟩ := fun e => rfl
  clear hT lt s5 i2 hK hk8
  by_cases c3 : K = 3
  · have e : ∀ x, doN K N a m T st = x ↔ (if (N.bytes.length : Int) + (T.length : Nat) ≤ 1048576 then (((N.bytes.length : Nat) : Int), (0 : Int), wrN N N.bytes.length T st) else (0, 160, N)) = x := fun x => by unfold doN; rw [if_pos c3]
    by_cases c : 1048576 - (N.bytes.length : Int) < (T.length : Nat)
    · refine go donP0 _ _ (by simp only [donP0, told_cons, told_nil, lt_true, lt_false, eq_true, eq_false, x0, l5, qk, li_int, and_true]; omega) don_ev0 (done_fin (int_fin ?_) (int_fin ?_) ?_ ?_) <;> rw [(e _).2 (if_neg (by omega))]
      · exact s0
      · exact i1
    · rw [(e _).2 (if_pos (by omega))]
      by_cases ct : T = []
      · have e2 : wrN N N.bytes.length T st = N := if_pos ct
        rw [e2]
        exact go donP1 _ _ (by simp only [donP1, told_cons, told_nil, lt_true, lt_false, eq_true, eq_false, x0, l5, qk, li_int, and_true, hse, decide_eq_true_eq]; exact ⟨ct, by omega, c3⟩) don_ev1 (done_fin (xi_fin l0) (int_fin rfl) s0 i1)
      · have e2 : wrN N N.bytes.length T st = { N with bytes := writeB N.bytes N.bytes.length T, stamp := st } := if_neg ct
        have hb : X.bool (rhoI v o) (.big (.va 0) (.va 5)) = false := big_false (by rw [s0, s5', size_bs, size_bs]; omega)
        rw [e2]
        refine go donP2 _ _ (by simp only [donP2, told_cons, told_nil, lt_true, lt_false, eq_true, eq_false, x0, l5, qk, li_int, and_true, hse, decide_eq_false_iff_not]; exact ⟨hb, ct, by omega, c3⟩) don_ev2 (done_fin (xi_fin l0) (int_fin rfl) ?_ i6)
        rw [cat_str, s0, s5', cat_bs]
        exact tl_eq app_doc
  by_cases c4 : K = 4
  · have e : ∀ x, doN K N a m T st = x ↔ (if a < 0 then ((0 : Int), (1 : Int), N) else if 1048576 < a then (0, 160, N) else (0, 0, resN N a.toNat st)) = x := fun x => by unfold doN; rw [if_neg c3, if_pos c4]
    by_cases c : a < 0
    · rw [(e _).2 (if_pos c)]
      exact go donP3 _ _ (by simp only [donP3, told_cons, told_nil, lt_true, lt_false, eq_true, eq_false, i3, qk, li_int, and_true]; omega) don_ev3 (done_fin (int_fin rfl) (int_fin rfl) s0 i1)
    by_cases c2 : 1048576 < a
    · rw [(e _).2 ((if_neg c).trans (if_pos c2))]
      exact go donP4 _ _ (by simp only [donP4, told_cons, told_nil, lt_true, lt_false, eq_true, eq_false, i3, qk, li_int, and_true]; omega) don_ev4 (done_fin (int_fin rfl) (int_fin rfl) s0 i1)
    rw [(e _).2 ((if_neg c).trans (if_neg c2))]
    have x2 : X.int (rhoI v o) donX2 = a - (N.bytes.length : Nat) := by
      unfold donX2
      rw [sub_int, l0, i3, wrap_i (by omega) (by omega)]
    have z2 := z69 donX2
    rw [x2] at z2
    have hcat : X.str (rhoI v o) (.cat (.va 0) (.app 69 donX2)) = ⟨(N.bytes ++ zeros (a.toNat - N.bytes.length)).toArray⟩ := by
      rw [cat_str, s0, z2, cat_bs]
      congr 4
      omega
    have hlc : X.int (rhoI v o) (.len (.cat (.va 0) (.app 69 donX2))) = ((N.bytes.length + (a.toNat - N.bytes.length) : Nat) : Int) := by rw [len_int, hcat, size_bs, List.length_append, zeros_length]
    have hb : X.bool (rhoI v o) (.big (.va 0) (.app 69 donX2)) = false := big_false (by rw [s0, z2, size_bs, size_bs, zeros_length]; omega)
    refine go donP5 _ _ (by simp only [donP5, told_cons, told_nil, lt_true, lt_false, eq_true, eq_false, i3, qk, li_int, and_true, x2, hlc, b902, decide_eq_true_eq]; exact ⟨by omega, hb, by omega, by omega, by omega, by omega, by omega, by omega⟩) don_ev5 (done_fin (int_fin rfl) (int_fin rfl) ?_ i6)
    rw [sub_st, hcat, i3, ext_bs, li_int]
    exact tl_eq (by rw [show (0 : Int).toNat = 0 from rfl, List.drop_zero]; exact res_doc)
  by_cases c5 : K = 5
  · have e : ∀ x, doN K N a m T st = x ↔ (if a < 0 ∨ m < 0 then ((0 : Int), (1 : Int), N) else if (N.bytes.length : Int) ≤ a ∨ m = 0 then (0, 0, N) else (0, 0, zeroN N a.toNat m.toNat st)) = x := fun x => by unfold doN; rw [if_neg c3, if_neg c4, if_pos c5]
    by_cases c : a < 0
    · rw [(e _).2 (if_pos (.inl c))]
      exact go donP6 _ _ (by simp only [donP6, told_cons, told_nil, lt_true, lt_false, eq_true, eq_false, i3, qk, li_int, and_true]; omega) don_ev6 (done_fin (int_fin rfl) (int_fin rfl) s0 i1)
    by_cases c2 : m < 0
    · rw [(e _).2 (if_pos (.inr c2))]
      exact go donP7 _ _ (by simp only [donP7, told_cons, told_nil, lt_true, lt_false, eq_true, eq_false, i3, i4, qk, li_int, and_true]; omega) don_ev7 (done_fin (int_fin rfl) (int_fin rfl) s0 i1)
    have nc : ¬ (a < 0 ∨ m < 0) := by omega
    by_cases c6 : (N.bytes.length : Int) ≤ a
    · rw [(e _).2 ((if_neg nc).trans (if_pos (.inl c6)))]
      exact go donP11 _ _ (by simp only [donP11, told_cons, told_nil, lt_true, lt_false, eq_true, eq_false, i3, i4, l0, qk, li_int, and_true]; omega) don_ev11 (done_fin (int_fin rfl) (int_fin rfl) s0 i1)
    by_cases c7 : m = 0
    · rw [(e _).2 ((if_neg nc).trans (if_pos (.inr c7)))]
      exact go donP8 _ _ (by simp only [donP8, told_cons, told_nil, lt_true, lt_false, eq_true, eq_false, i3, i4, l0, qk, li_int, and_true]; omega) don_ev8 (done_fin (int_fin rfl) (int_fin rfl) s0 i1)
    rw [(e _).2 ((if_neg nc).trans (if_neg (by omega)))]
    have x6 : X.int (rhoI v o) donX6 = (N.bytes.length : Nat) - a := by
      unfold donX6
      rw [sub_int, l0, i3, wrap_i (by omega) (by omega)]
    have hz : min m.toNat (N.bytes.length - a.toNat) ≠ 0 := by omega
    have ez : zeroN N a.toNat m.toNat st = { N with bytes := overB N.bytes a.toNat (zeros (min m.toNat (N.bytes.length - a.toNat))), stamp := st } := if_neg fun h0 => hz (by rw [← zeros_length (min m.toNat (N.bytes.length - a.toNat)), h0]; rfl)
    rw [ez]
    have sa : X.str (rhoI v o) (.sub (.va 0) (.li 0) (.va 3)) = ⟨(N.bytes.take a.toNat).toArray⟩ := by
      rw [sub_st, s0, i3, li_int, ext_bs]
      rfl
    by_cases c8 : m < (N.bytes.length : Nat) - a
    · have xs : X.int (rhoI v o) (.bin .add .i64 (.va 3) (.va 4)) = a + m := by rw [add_int, i3, i4, wrap_i (by omega) (by omega)]
      have x3 : X.int (rhoI v o) donX3 = m := by
        unfold donX3
        rw [sub_int, xs, i3, wrap_i (by omega) (by omega)]
        omega
      have z3 := z69 donX3
      rw [x3] at z3
      have e4 : X.str (rhoI v o) donX4 = ⟨(N.bytes.take a.toNat ++ zeros m.toNat).toArray⟩ := by
        unfold donX4
        rw [cat_str, sa, z3, cat_bs]
      have e5 : X.str (rhoI v o) donX5 = ⟨(N.bytes.drop (a.toNat + m.toNat)).toArray⟩ := by
        unfold donX5
        rw [sub_st, s0, xs, l0, ext_bs, Int.toNat_natCast, List.take_length, show (a + m).toNat = a.toNat + m.toNat by omega]
      have h1 : X.bool (rhoI v o) (.big (.sub (.va 0) (.li 0) (.va 3)) (.app 69 donX3)) = false := big_false (by rw [sa, z3, size_bs, size_bs, zeros_length, List.length_take]; omega)
      have h2 : X.bool (rhoI v o) (.big donX4 donX5) = false := big_false (by rw [e4, e5, size_bs, size_bs, List.length_append, zeros_length, List.length_take, List.length_drop]; omega)
      refine go donP9 _ _ (by simp only [donP9, told_cons, told_nil, lt_true, lt_false, eq_true, eq_false, i3, i4, l0, qk, li_int, and_true, x3, x6, xs, b902, decide_eq_true_eq]; exact ⟨h2, h1, by omega⟩) don_ev9 (done_fin (int_fin rfl) (int_fin rfl) ?_ i6)
      rw [cat_str, e4, e5, cat_bs]
      refine tl_eq ?_
      show _ = overB N.bytes a.toNat (zeros (min m.toNat (N.bytes.length - a.toNat)))
      rw [show min m.toNat (N.bytes.length - a.toNat) = m.toNat by omega, ← over_doc, zeros_length]
    · have z6 := z69 donX6
      rw [x6] at z6
      have e7 : X.str (rhoI v o) donX7 = ⟨(N.bytes.take a.toNat ++ zeros (N.bytes.length - a.toNat)).toArray⟩ := by
        unfold donX7
        rw [cat_str, sa, z6, cat_bs]
        congr 4
        omega
      have e8 : X.str (rhoI v o) donX8 = ⟨([] : List UInt8).toArray⟩ := by
        unfold donX8
        rw [sub_st, s0, l0, ext_bs, Int.toNat_natCast, List.take_length, List.drop_length]
      have h1 : X.bool (rhoI v o) (.big (.sub (.va 0) (.li 0) (.va 3)) (.app 69 donX6)) = false := big_false (by rw [sa, z6, size_bs, size_bs, zeros_length, List.length_take]; omega)
      have h2 : X.bool (rhoI v o) (.big donX7 donX8) = false := big_false (by rw [e7, e8, size_bs, size_bs, List.length_append, zeros_length, List.length_take, List.length_nil]; omega)
      refine go donP10 _ _ (by simp only [donP10, told_cons, told_nil, lt_true, lt_false, eq_true, eq_false, i3, i4, l0, qk, li_int, and_true, x6, b902, decide_eq_true_eq]; exact ⟨h2, h1, by omega⟩) don_ev10 (done_fin (int_fin rfl) (int_fin rfl) ?_ i6)
      rw [cat_str, e7, e8, cat_bs]
      refine tl_eq ?_
      show _ = overB N.bytes a.toNat (zeros (min m.toNat (N.bytes.length - a.toNat)))
      rw [show min m.toNat (N.bytes.length - a.toNat) = N.bytes.length - a.toNat by omega, ← over_doc, zeros_length, List.drop_of_length_le (by omega)]
  have e : ∀ x, doN K N a m T st = x ↔ (if 0 ≤ a ∧ a + (T.length : Nat) ≤ 1048576 then (a + (T.length : Nat), (0 : Int), wrN N a.toNat T st) else (0, (if a < 0 then 1 else 160), N)) = x := fun x => by unfold doN; rw [if_neg c3, if_neg c4, if_neg c5]
  by_cases c : a < 0
  · rw [(e _).2 (if_neg (by omega)), if_pos c]
    exact go donP12 _ _ (by simp only [donP12, told_cons, told_nil, lt_true, lt_false, eq_true, eq_false, i3, qk, li_int, and_true]; omega) don_ev12 (done_fin (int_fin rfl) (int_fin rfl) s0 i1)
  by_cases c2 : (1048576 : Int) < (T.length : Nat)
  · rw [(e _).2 (if_neg (by omega)), if_neg c]
    exact go donP13 _ _ (by simp only [donP13, told_cons, told_nil, lt_true, lt_false, eq_true, eq_false, i3, l5, qk, li_int, and_true]; omega) don_ev13 (done_fin (int_fin rfl) (int_fin rfl) s0 i1)
  have x9 : X.int (rhoI v o) donX9 = 1048576 - (T.length : Nat) := by
    unfold donX9
    rw [sub_int, l5, li_int, wrap_i (by omega) (by omega)]
  by_cases c6 : 1048576 - (T.length : Nat) < a
  · rw [(e _).2 (if_neg (by omega)), if_neg c]
    exact go donP14 _ _ (by simp only [donP14, told_cons, told_nil, lt_true, lt_false, eq_true, eq_false, i3, l5, x9, qk, li_int, and_true]; omega) don_ev14 (done_fin (int_fin rfl) (int_fin rfl) s0 i1)
  rw [(e _).2 (if_pos (by omega))]
  by_cases ct : T = []
  · have e2 : wrN N a.toNat T st = N := if_pos ct
    have e3 : T.length = 0 := by rw [ct]; rfl
    rw [e2]
    exact go donP15 _ _ (by simp only [donP15, told_cons, told_nil, lt_true, lt_false, eq_true, eq_false, i3, l5, x9, qk, li_int, and_true, hse, decide_eq_true_eq]; exact ⟨ct, by omega⟩) don_ev15 (done_fin (xi_fin (by rw [i3]; show a = a + _; omega)) (int_fin rfl) s0 i1)
  have e2 : wrN N a.toNat T st = { N with bytes := writeB N.bytes a.toNat T, stamp := st } := if_neg ct
  rw [e2]
  have x10 : X.int (rhoI v o) donX10 = a + (T.length : Nat) := by
    unfold donX10
    rw [add_int, i3, l5, wrap_i (by omega) (by omega)]
  have x11 : X.int (rhoI v o) donX11 = a + (T.length : Nat) - (N.bytes.length : Nat) := by
    unfold donX11
    rw [sub_int, x10, l0, wrap_i (by omega) (by omega)]
  have z11 := z69 donX11
  rw [x11] at z11
  have hcat : X.str (rhoI v o) (.cat (.va 0) (.app 69 donX11)) = ⟨(N.bytes ++ zeros (a.toNat + T.length - N.bytes.length)).toArray⟩ := by
    rw [cat_str, s0, z11, cat_bs]
    congr 4
    omega
  have hb1 : X.bool (rhoI v o) (.big (.va 0) (.app 69 donX11)) = false := big_false (by rw [s0, z11, size_bs, size_bs, zeros_length]; omega)
  have x13 : X.int (rhoI v o) donX13 = ((N.bytes.length + (a.toNat + T.length - N.bytes.length) : Nat) : Int) := by
    unfold donX13
    rw [len_int, hcat, size_bs, List.length_append, zeros_length]
  have e12 : X.str (rhoI v o) donX12 = ⟨((N.bytes ++ zeros (a.toNat + T.length - N.bytes.length)).take a.toNat).toArray⟩ := by
    unfold donX12
    rw [sub_st, hcat, i3, li_int, ext_bs]
    rfl
  have e14 : X.str (rhoI v o) donX14 = ⟨((N.bytes ++ zeros (a.toNat + T.length - N.bytes.length)).drop (a.toNat + T.length)).toArray⟩ := by
    unfold donX14
    rw [sub_st, hcat, x10, x13, ext_bs, Int.toNat_natCast, List.take_of_length_le (by rw [List.length_append, zeros_length]; exact Nat.le_refl _), show (a + ((T.length : Nat) : Int)).toNat = a.toNat + T.length by omega]
  have hb2 : X.bool (rhoI v o) (.big donX12 (.va 5)) = false := big_false (by rw [e12, s5', size_bs, size_bs, List.length_take]; omega)
  have ecat : X.str (rhoI v o) (.cat donX12 (.va 5)) = ⟨((N.bytes ++ zeros (a.toNat + T.length - N.bytes.length)).take a.toNat ++ T).toArray⟩ := by rw [cat_str, e12, s5', cat_bs]
  have hb3 : X.bool (rhoI v o) (.big (.cat donX12 (.va 5)) donX14) = false := big_false (by rw [ecat, e14, size_bs, size_bs, List.length_append, List.length_take, List.length_drop, List.length_append, zeros_length]; omega)
  refine go donP16 _ _ (by simp only [donP16, told_cons, told_nil, lt_true, lt_false, eq_true, eq_false, i3, l5, x9, x10, x11, x13, qk, li_int, and_true, hse, decide_eq_true_eq, decide_eq_false_iff_not, b902]; exact ⟨hb3, by omega, by omega, hb2, by omega, hb1, by omega, by omega, ct, by omega⟩) don_ev16 (done_fin (xi_fin x10) (int_fin rfl) ?_ i6)
  rw [cat_str, ecat, e14, cat_bs]
  exact tl_eq (write_doc ct)
end Go.Proofs.YtcnimekhpnejlaaGreat.Ev

/- Slices of things that are done, opened. -/
namespace Go.Proofs.YtcnimekhpnejlaaGreat.Ev
set_option maxRecDepth 100000
open Go Go.ChangeShapes Go.WideShapes Go.Deep
set_option linter.unusedVariables false
/-- What is to be known of a thing that is done. -/
structure ActOk (k a m : Int) (t : ByteArray) (st : Int) : Prop where
  k : i64 k
  a : i64 a
  m : i64 m
  st : 0 ≤ st ∧ st ≤ 18446744073709551615
/-- A slice of things that are done. -/
def ActsAt (w : World) (v : Value) : Prop := v = .slice none 0 0 ∨ ∃ (b : Addr) (len cap : Nat), v = .slice (some b) len cap ∧ len ≤ cap ∧ cap ≤ maxLen ∧ ∀ i, i < len → ∃ k a m t st, ActOk k a m t st ∧
  w.cell? (b.add (i * 5)) = some (.int .i64 k) ∧ w.cell? (b.add (i * 5 + 1)) = some (.int .i64 a) ∧ w.cell? (b.add (i * 5 + 2)) = some (.int .i64 m) ∧ w.cell? (b.add (i * 5 + 3)) = some (.string t) ∧ w.cell? (b.add (i * 5 + 4)) = some (.int .u64 st)
def fieldOf (x : Option TypeDesc) : Array Field := match x with
  | some (.struct fs) => fs
  | _ => #[]
theorem act_und : Tryz.prog.underlying 43 = some (.struct (fieldOf (Tryz.prog.underlying 43))) := by kernel_rfl
theorem act_cells : Tryz.prog.cellsOf 43 = 5 := by kernel_rfl
theorem act_fields : (fieldOf (Tryz.prog.underlying 43)).toList.map (fun f => (f.offset, f.type)) = [(0, 3), (1, 3), (2, 3), (3, 9), (4, 29)] := by kernel_rfl
theorem acts_open {H : Type} {enc : TypeId × Value → H} {w : World} {base : Nat} {spare : Nat → Bool} {held : Bool} {v : Value} {d : DataW H} {ps : List MemPlace} (h : ∃ n, DataW.trod enc Tryz.prog w base spare held n 37 [v] = some (d, ps)) : ActsAt w v := by
  obtain ⟨n, h⟩ := h
  have hf : ∀ (i : Nat) (f : Field), (fieldOf (Tryz.prog.underlying 43))[i]? = some f → (f.offset, f.type) ∈ [((0 : Nat), 3), (1, 3), (2, 3), (3, 9), (4, 29)][i]? := fun i f hi => by
    have e := congrArg (fun l => l[i]?) act_fields
    simp only [List.getElem?_map, Array.getElem?_toList, hi, Option.map_some] at e
    exact e.symm
  have hsz : (fieldOf (Tryz.prog.underlying 43)).size = 5 := by
    have := congrArg List.length act_fields
    rw [List.length_map, Array.length_toList] at this
    exact this
  have hat : ∀ (i : Nat), i < 5 → ∃ f, (fieldOf (Tryz.prog.underlying 43))[i]? = some f := fun i hi => ⟨_, Array.getElem?_eq_getElem (by omega)⟩
  have hoff : ∀ (i : Nat) (f : Field), (fieldOf (Tryz.prog.underlying 43))[i]? = some f → f.offset = i ∧ Tryz.prog.cellsOf f.type = 1 := fun i f hi => by
    have hm := hf i f hi
    match i, hm with
    | 0, hm => obtain ⟨h1, h2⟩ := Prod.mk.inj (Option.some.inj hm); exact ⟨h1.symm, by rw [← h2]; exact cells_int⟩
    | 1, hm => obtain ⟨h1, h2⟩ := Prod.mk.inj (Option.some.inj hm); exact ⟨h1.symm, by rw [← h2]; exact cells_int⟩
    | 2, hm => obtain ⟨h1, h2⟩ := Prod.mk.inj (Option.some.inj hm); exact ⟨h1.symm, by rw [← h2]; exact cells_int⟩
    | 3, hm => obtain ⟨h1, h2⟩ := Prod.mk.inj (Option.some.inj hm); exact ⟨h1.symm, by rw [← h2]; exact cells_string⟩
    | 4, hm => obtain ⟨h1, h2⟩ := Prod.mk.inj (Option.some.inj hm); exact ⟨h1.symm, by rw [← h2]; exact cells_u64⟩
    | i + 5, hm => cases hm
  rcases open_rows Tryz.underlying37 act_und act_cells hoff hsz h with h0 | ⟨b, len, cap, hv, hl, hc, hrow⟩
  · exact .inl (by simpa using h0)
  · refine .inr ⟨b, len, cap, by simpa using hv, hl, hc, fun i hi => ?_⟩
    obtain ⟨vs, hlen, hcell, hfield⟩ := hrow i hi
    match vs, hlen with
    | [v0, v1, v2, v3, v4], _ =>
      have field : ∀ (j : Nat) (t : TypeId) (v : Value), j < 5 → [((0 : Nat), 3), (1, 3), (2, 3), (3, 9), (4, 29)][j]? = some (j, t) → [v0, v1, v2, v3, v4][j]? = some v → ∃ n y, DataW.trod enc Tryz.prog w base spare held n t [v] = some y := fun j t v hj ht hv => by
        obtain ⟨f, hfj⟩ := hat j hj
        obtain ⟨n, y, v', h1, h2⟩ := hfield j f hfj
        have h3 := hf j f hfj
        rw [ht] at h3
        obtain ⟨_, h4⟩ := Prod.mk.inj (Option.some.inj h3)
        rw [hv] at h1
        obtain rfl := Option.some.inj h1
        exact ⟨n, y, by rw [h4]; exact h2⟩
      obtain ⟨_, _, t0⟩ := field 0 3 v0 (by omega) rfl rfl
      obtain ⟨_, _, t1⟩ := field 1 3 v1 (by omega) rfl rfl
      obtain ⟨_, _, t2⟩ := field 2 3 v2 (by omega) rfl rfl
      obtain ⟨_, _, t3⟩ := field 3 9 v3 (by omega) rfl rfl
      obtain ⟨_, _, t4⟩ := field 4 29 v4 (by omega) rfl rfl
      obtain ⟨k, e0, _, w0⟩ := DataW.trod_int Tryz.underlying3 t0
      obtain ⟨a, e1, _, w1⟩ := DataW.trod_int Tryz.underlying3 t1
      obtain ⟨m, e2, _, w2⟩ := DataW.trod_int Tryz.underlying3 t2
      obtain ⟨t, e3, _, w3⟩ := DataW.trod_string Tryz.underlying9 t3
      obtain ⟨st, e4, _, w4⟩ := DataW.trod_int Tryz.underlying29 t4
      have e0 : v0 = .int .i64 k := by simpa using e0
      have e1 : v1 = .int .i64 a := by simpa using e1
      have e2 : v2 = .int .i64 m := by simpa using e2
      have e3 : v3 = .string t := by simpa using e3
      have e4 : v4 = .int .u64 st := by simpa using e4
      subst e0 e1 e2 e3 e4
      exact ⟨k, a, m, t, st, ⟨lit_i64 w0, lit_i64 w1, lit_i64 w2, lit_u64 w4⟩, by simpa using hcell 0 (by omega), hcell 1 (by omega), hcell 2 (by omega), hcell 3 (by omega), hcell 4 (by omega)⟩
end Go.Proofs.YtcnimekhpnejlaaGreat.Ev

/- Slices of moves, opened. -/
namespace Go.Proofs.YtcnimekhpnejlaaGreat.Ev
set_option maxRecDepth 100000
open Go Go.ChangeShapes Go.WideShapes Go.Deep
set_option linter.unusedVariables false
/-- A slice of moves. -/
def MovesAt (w : World) (v : Value) : Prop := v = .slice none 0 0 ∨ ∃ (b : Addr) (len cap : Nat), v = .slice (some b) len cap ∧ len ≤ cap ∧ cap ≤ maxLen ∧ ∀ i, i < len → ∃ k a m pl t st, ActOk k a m t st ∧ i64 pl ∧
  w.cell? (b.add (i * 6)) = some (.int .i64 k) ∧ w.cell? (b.add (i * 6 + 1)) = some (.int .i64 a) ∧ w.cell? (b.add (i * 6 + 2)) = some (.int .i64 m) ∧ w.cell? (b.add (i * 6 + 3)) = some (.int .i64 pl) ∧ w.cell? (b.add (i * 6 + 4)) = some (.string t) ∧ w.cell? (b.add (i * 6 + 5)) = some (.int .u64 st)
theorem mov_und : Tryz.prog.underlying 51 = some (.struct (fieldOf (Tryz.prog.underlying 51))) := by kernel_rfl
theorem mov_cells : Tryz.prog.cellsOf 51 = 6 := by kernel_rfl
theorem mov_fields : (fieldOf (Tryz.prog.underlying 51)).toList.map (fun f => (f.offset, f.type)) = [(0, 3), (1, 3), (2, 3), (3, 3), (4, 9), (5, 29)] := by kernel_rfl
theorem moves_open {H : Type} {enc : TypeId × Value → H} {w : World} {base : Nat} {spare : Nat → Bool} {held : Bool} {v : Value} {d : DataW H} {ps : List MemPlace} (h : ∃ n, DataW.trod enc Tryz.prog w base spare held n 49 [v] = some (d, ps)) : MovesAt w v := by
  obtain ⟨n, h⟩ := h
  have hf : ∀ (i : Nat) (f : Field), (fieldOf (Tryz.prog.underlying 51))[i]? = some f → (f.offset, f.type) ∈ [((0 : Nat), 3), (1, 3), (2, 3), (3, 3), (4, 9), (5, 29)][i]? := fun i f hi => by
    have e := congrArg (fun l => l[i]?) mov_fields
    simp only [List.getElem?_map, Array.getElem?_toList, hi, Option.map_some] at e
    exact e.symm
  have hsz : (fieldOf (Tryz.prog.underlying 51)).size = 6 := by
    have := congrArg List.length mov_fields
    rw [List.length_map, Array.length_toList] at this
    exact this
  have hat : ∀ (i : Nat), i < 6 → ∃ f, (fieldOf (Tryz.prog.underlying 51))[i]? = some f := fun i hi => ⟨_, Array.getElem?_eq_getElem (by omega)⟩
  have hoff : ∀ (i : Nat) (f : Field), (fieldOf (Tryz.prog.underlying 51))[i]? = some f → f.offset = i ∧ Tryz.prog.cellsOf f.type = 1 := fun i f hi => by
    have hm := hf i f hi
    match i, hm with
    | 0, hm => obtain ⟨h1, h2⟩ := Prod.mk.inj (Option.some.inj hm); exact ⟨h1.symm, by rw [← h2]; exact cells_int⟩
    | 1, hm => obtain ⟨h1, h2⟩ := Prod.mk.inj (Option.some.inj hm); exact ⟨h1.symm, by rw [← h2]; exact cells_int⟩
    | 2, hm => obtain ⟨h1, h2⟩ := Prod.mk.inj (Option.some.inj hm); exact ⟨h1.symm, by rw [← h2]; exact cells_int⟩
    | 3, hm => obtain ⟨h1, h2⟩ := Prod.mk.inj (Option.some.inj hm); exact ⟨h1.symm, by rw [← h2]; exact cells_int⟩
    | 4, hm => obtain ⟨h1, h2⟩ := Prod.mk.inj (Option.some.inj hm); exact ⟨h1.symm, by rw [← h2]; exact cells_string⟩
    | 5, hm => obtain ⟨h1, h2⟩ := Prod.mk.inj (Option.some.inj hm); exact ⟨h1.symm, by rw [← h2]; exact cells_u64⟩
    | i + 6, hm => cases hm
  rcases open_rows Tryz.underlying49 mov_und mov_cells hoff hsz h with h0 | ⟨b, len, cap, hv, hl, hc, hrow⟩
  · exact .inl (by simpa using h0)
  · refine .inr ⟨b, len, cap, by simpa using hv, hl, hc, fun i hi => ?_⟩
    obtain ⟨vs, hlen, hcell, hfield⟩ := hrow i hi
    match vs, hlen with
    | [v0, v1, v2, v3, v4, v5], _ =>
      have field : ∀ (j : Nat) (t : TypeId) (v : Value), j < 6 → [((0 : Nat), 3), (1, 3), (2, 3), (3, 3), (4, 9), (5, 29)][j]? = some (j, t) → [v0, v1, v2, v3, v4, v5][j]? = some v → ∃ n y, DataW.trod enc Tryz.prog w base spare held n t [v] = some y := fun j t v hj ht hv => by
        obtain ⟨f, hfj⟩ := hat j hj
        obtain ⟨n, y, v', h1, h2⟩ := hfield j f hfj
        have h3 := hf j f hfj
        rw [ht] at h3
        obtain ⟨_, h4⟩ := Prod.mk.inj (Option.some.inj h3)
        rw [hv] at h1
        obtain rfl := Option.some.inj h1
        exact ⟨n, y, by rw [h4]; exact h2⟩
      obtain ⟨_, _, t0⟩ := field 0 3 v0 (by omega) rfl rfl
      obtain ⟨_, _, t1⟩ := field 1 3 v1 (by omega) rfl rfl
      obtain ⟨_, _, t2⟩ := field 2 3 v2 (by omega) rfl rfl
      obtain ⟨_, _, t3⟩ := field 3 3 v3 (by omega) rfl rfl
      obtain ⟨_, _, t4⟩ := field 4 9 v4 (by omega) rfl rfl
      obtain ⟨_, _, t5⟩ := field 5 29 v5 (by omega) rfl rfl
      obtain ⟨k, e0, _, w0⟩ := DataW.trod_int Tryz.underlying3 t0
      obtain ⟨a, e1, _, w1⟩ := DataW.trod_int Tryz.underlying3 t1
      obtain ⟨m, e2, _, w2⟩ := DataW.trod_int Tryz.underlying3 t2
      obtain ⟨pl, e3, _, w3⟩ := DataW.trod_int Tryz.underlying3 t3
      obtain ⟨t, e4, _, w4⟩ := DataW.trod_string Tryz.underlying9 t4
      obtain ⟨st, e5, _, w5⟩ := DataW.trod_int Tryz.underlying29 t5
      have e0 : v0 = .int .i64 k := by simpa using e0
      have e1 : v1 = .int .i64 a := by simpa using e1
      have e2 : v2 = .int .i64 m := by simpa using e2
      have e3 : v3 = .int .i64 pl := by simpa using e3
      have e4 : v4 = .string t := by simpa using e4
      have e5 : v5 = .int .u64 st := by simpa using e5
      subst e0 e1 e2 e3 e4 e5
      exact ⟨k, a, m, pl, t, st, ⟨lit_i64 w0, lit_i64 w1, lit_i64 w2, lit_u64 w5⟩, lit_i64 w3, by simpa using hcell 0 (by omega), hcell 1 (by omega), hcell 2 (by omega), hcell 3 (by omega), hcell 4 (by omega), hcell 5 (by omega)⟩
end Go.Proofs.YtcnimekhpnejlaaGreat.Ev
