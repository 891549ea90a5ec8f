/- A range over a function whose iterator keeps a state of its own in one cell (a captured variable): the law. -/
import Derived.RangeFuncBox
import Derived.RangeFuncCalls
import Derived.Test.YtoehfadjpficiaaGreatDoorShelf
import Derived.RangeFuncLeaves
import Derived.RangeFuncNested
import Derived.Shelf.Abstract
import Derived.WalkKit
import Derived.OwnWalkIn
import Derived.TacticsInMore
import Derived.LoopNIn
import Derived.LoopIn
import Derived.Lib.Hide
import Derived.Test.YtoehfadjpficiaaGreatDoorProg
import Derived.Test.YtoehfadjpficiaaGreatDoorG1
import Derived.Test.YtoehfadjpficiaaGreatDoorPxNameCheck
import Derived.Maps.AppendAt
import Derived.Outline

namespace Go
open Go.RowKit

/-- The iterator's contract: its steps between two rounds are 'St'. -/
def SeqBox {α : Type} (F : Fence) (n : Nat) (P : Program) (g : Nat) (lb : Array Value) (encs : α → Array Value) (Kp St : World → World → Prop) (Ok : List α → Prop) (S : List α → Prop) (w : World) : Prop :=
  ∀ (l : Nat) (J Jx : List α → World → Prop) (W : World), Below w.heap.size w W → (∀ s A B, J s A → St A B → J s B) →
    (∀ pre x W1, J pre W1 → Ok (pre ++ [x]) → YieldAt F (n - 1) P l (encs x) W1 fun e W' =>
      (e = .returned (.bool true) ∧ J (pre ++ [x]) W' ∧ Kp W1 W') ∨ (e = .returned (.bool false) ∧ Jx (pre ++ [x]) W')) →
    J [] W →
    CallsIn F n P g (#[.func (.yield l) #[] #[]] ++ lb) W fun e W' => (∃ v, e = .returned v) ∧ ((∃ xs, S xs ∧ J xs W') ∨ (∃ pre, Jx pre W'))

variable {F : Fence} {n : Nat} {P : Program}

theorem wpIn_rangeFunc_boxed {α : Type} {g : Operand} {ps : Array Tmp} {assign body : Code} {Q : Exit → Act → World → Prop} {a : Act} {w : World}
    (hro : F.round = none) (h1 : 1 ≤ n) {gf : Nat} {lb : Array Value} (hg : a.eval g = .func (.func gf) #[] lb) (hFg : F.fn gf) (eg : ∀ args w, (callFunc gf args).run P w = .ok (.enter gf args) w)
    {encs : α → Array Value} {Kp St : World → World → Prop} {Ok S : List α → Prop} (hseq : SeqBox F (n - 1) P gf lb encs Kp St Ok S w)
    (hKt : ∀ {A B C : World}, Kp A B → Kp B C → Kp A C) (hKb : ∀ (W : World) (l : Nat) (o o' : Obj), w.heap.size ≤ l → W.heap[l]? = some o → Kp W (W.putObj l o'))
    (hSt : ∀ {A B : World}, St A B → ∀ k, w.heap.size ≤ k → B.heap[k]? = A.heap[k]?) (hps : ∀ x, (encs x).size = ps.size)
    (I : List α → World → Prop) (Ix : Code → List α → World → Prop)
    (hIa : ∀ o, I [] (w.alloc o) → ∀ o', I [] ((w.alloc o).alloc o')) (hIa0 : ∀ o, I [] (w.alloc o))
    (hISt : ∀ s A B, I s A → St A B → I s B)
    (hI : ∀ s (W : World) (l : Nat) (o o' : Obj), I s W → w.heap.size ≤ l → l ≤ w.heap.size + 1 → W.heap[l]? = some o → o.isCells = false → I s (W.putObj l o'))
    (hIx : ∀ c s (W : World) (l : Nat) (o o' : Obj), Ix c s W → w.heap.size ≤ l → l ≤ w.heap.size + 1 → W.heap[l]? = some o → o.isCells = false → Ix c s (W.putObj l o'))
    (a₁ : α → Act)
    (hassign : ∀ (l : Nat) (x : α) (W : World) (K : Act → World → Prop), K (a₁ x) W →
      assign.wpIn (F.inRound l) (n - 1 - 1) P (Exit.then K (fun _ _ _ => False)) { tmps := (ps.zip (encs x)).foldl (fun t (p, v) => t.setIfInBounds p v) a.tmps, defers := [] } W)
    (hbody : ∀ (l : Nat) (pre : List α) (x : α) (W : World), I pre W → w.heap.size + 2 ≤ W.heap.size → Ok (pre ++ [x]) → body.wpIn (F.inRound l) (n - 1 - 1) P (ownPostG w.heap.size Kp I Ix (pre ++ [x]) W) (a₁ x) W)
    (hdone : ∀ (xs : List α) (W : World), S xs → I xs W → W.heap[w.heap.size]? = some (.deferred (some [])) → Q .normal { a with defers := { target := .collected w.heap.size, args := #[] } :: a.defers } W)
    (hstop : ∀ (c : Code) (pre : List α) (W : World), Ix c pre W → W.heap[w.heap.size]? = some (.deferred (some [])) → c.wpIn F n P Q { a with defers := { target := .collected w.heap.size, args := #[] } :: a.defers } W) :
    (Code.rangeFunc g ps assign body).wpIn F n P Q a w := by
  refine wpIn_rangeFunc ?_
  intro fn hfn
  rw [hro]
  obtain ⟨rec, hrec⟩ : ∃ rec : LoopState → Option Code → Loop, rec = fun st pe => { state := st, pending := pe, fn, tmps := a.tmps, params := ps, assign, body, defers := w.heap.size } := ⟨_, rfl⟩
  obtain ⟨W1, hW1⟩ : ∃ W1, (w.alloc (.deferred (some []))).alloc (.loop (rec .ready none)) = W1 := ⟨_, rfl⟩
  have hL1 : W1.heap[w.heap.size + 1]? = some (.loop (rec .ready none)) := by
    rw [← hW1]; have := World.alloc_heap_new (w.alloc (.deferred (some []))) (.loop (rec .ready none)); rwa [World.size_alloc] at this
  have hK1 : W1.heap[w.heap.size]? = some (.deferred (some [])) := by
    rw [← hW1]; exact (Below.heap_alloc _ _ _ (by simp)).trans (World.alloc_heap_new w _)
  have hI1 : I [] W1 := by rw [← hW1]; exact hIa _ (hIa0 _) _
  have hb1 : Below w.heap.size w W1 := by
    rw [← hW1]; exact (((Below.refl _ w).alloc (Nat.le_refl _) _).alloc (by simp) _)
  refine ⟨w.heap.size + 1, [{ target := .collected w.heap.size, args := #[] }], W1, { target := .fn (.func gf) lb, args := #[.func (.yield (w.heap.size + 1)) #[] #[]] }, W1, gf,
    #[.func (.yield (w.heap.size + 1)) #[] #[]] ++ lb, W1, ?_, ?_, ?_, ?_, fun _ => h1, ?_⟩
  · rw [← hW1, hrec]; exact run_enterLoop_outer _ _ _ _ _
  · simp only [resolve, hg]
    simp [go_sem]
  · intro f' hf'; simp [Target.leads] at hf'; subst hf'; exact hFg
  · simp [invoke, go_sem, eg]
  · refine (hseq (w.heap.size + 1)
      (fun pre W => I pre W ∧ W.heap[w.heap.size + 1]? = some (.loop (rec .ready none)) ∧ W.heap[w.heap.size]? = some (.deferred (some [])))
      (fun pre W => ∃ c, Ix c pre W ∧ W.heap[w.heap.size + 1]? = some (.loop (rec .done (some c))) ∧ W.heap[w.heap.size]? = some (.deferred (some [])))
      W1 hb1
      (fun s A B hs hst => ⟨hISt s A B hs.1 hst, (hSt hst _ (by omega)).trans hs.2.1, (hSt hst _ (Nat.le_refl _)).trans hs.2.2⟩)
      ?_ ⟨hI1, hL1, hK1⟩).mono ?_
    · rintro pre x W ⟨hi, hl, hk⟩ hok
      have hlt : w.heap.size + 1 < W.heap.size := (Array.getElem?_eq_some_iff.1 hl).1
      have hy := run_yield (P := P) (args := encs x) hl (by rw [hrec]; exact hps x)
      rw [hrec] at hy
      refine ⟨fn, _, assign, body, hy, roundIn_of_wpIn hfn (hassign _ x W _ ⟨_, run_beginRound hl (by rw [hrec]), ?_⟩)⟩
      have hl2 : (W.putObj (w.heap.size + 1) (.loop { rec .ready none with state := .busy })).heap[w.heap.size + 1]? = some (.loop { rec .ready none with state := .busy }) := World.putObj_heap_same hlt
      have hk2 : (W.putObj (w.heap.size + 1) (.loop { rec .ready none with state := .busy })).heap[w.heap.size]? = some (.deferred (some [])) := (World.putObj_heap_other (by omega)).trans hk
      have hw2 : Kp W (W.putObj (w.heap.size + 1) (.loop { rec .ready none with state := .busy })) := hKb _ _ _ _ (by omega) hl
      refine wpIn_mono (hbody _ pre x _ (hI _ _ _ _ _ hi (by omega) (by omega) hl rfl) (by simp; omega) hok) ?_
      have fin : ∀ (jump : Option Code) (W3 : World), KeepsFrom w.heap.size (W.putObj (w.heap.size + 1) (.loop { rec .ready none with state := .busy })) W3 →
          (Instr.endRound (w.heap.size + 1) jump).run P W3 = .ok (.bool jump.isNone) (W3.putObj (w.heap.size + 1) (.loop (rec (if jump.isNone then .ready else .done) jump))) ∧
          W3.heap[w.heap.size + 1]? = some (.loop { rec .ready none with state := .busy }) ∧
          (W3.putObj (w.heap.size + 1) (.loop (rec (if jump.isNone then .ready else .done) jump))).heap[w.heap.size + 1]? = some (.loop (rec (if jump.isNone then .ready else .done) jump)) ∧
          (W3.putObj (w.heap.size + 1) (.loop (rec (if jump.isNone then .ready else .done) jump))).heap[w.heap.size]? = some (.deferred (some [])) := fun jump W3 hk3 => by
        have hl3 := hk3.same _ _ (by omega) hl2 rfl
        have := run_endRound (P := P) jump hl3
        rw [hrec] at this ⊢
        exact ⟨this, by rw [hrec] at hl3; exact hl3, World.putObj_heap_same (Array.getElem?_eq_some_iff.1 hl3).1, (World.putObj_heap_other (by omega)).trans (hk3.same _ _ (Nat.le_refl _) hk2 rfl)⟩
      rintro e a3 W3 hp
      cases e with
      | normal =>
        obtain ⟨hk3, hkp3, hi3⟩ := hp
        obtain ⟨hr, hl3, hl4, hk4⟩ := fin none W3 hk3
        exact ⟨_, _, hr, .inl ⟨rfl, ⟨hI _ _ _ _ _ hi3 (by omega) (by omega) hl3 rfl, hl4, hk4⟩, hKt (hKt hw2 hkp3) (hKb _ _ _ _ (by omega) hl3)⟩⟩
      | ret =>
        obtain ⟨hk3, hi3⟩ := hp
        obtain ⟨hr, hl3, hl4, hk4⟩ := fin (some .ret) W3 hk3
        exact ⟨_, _, hr, .inr ⟨rfl, .ret, hIx _ _ _ _ _ _ hi3 (by omega) (by omega) hl3 rfl, hl4, hk4⟩⟩
      | exit id =>
        obtain ⟨hk3, hi3⟩ := hp
        obtain ⟨hr, hl3, hl4, hk4⟩ := fin (some (.exit id)) W3 hk3
        exact ⟨_, _, hr, .inr ⟨rfl, .exit id, hIx _ _ _ _ _ _ hi3 (by omega) (by omega) hl3 rfl, hl4, hk4⟩⟩
      | goto t =>
        obtain ⟨hk3, hi3⟩ := hp
        obtain ⟨hr, hl3, hl4, hk4⟩ := fin (some (.goto t)) W3 hk3
        exact ⟨_, _, hr, .inr ⟨rfl, .goto t, hIx _ _ _ _ _ _ hi3 (by omega) (by omega) hl3 rfl, hl4, hk4⟩⟩
      | panic ch => exact hp.elim
      | outgrown => exact hp.elim
    · rintro e W2 ⟨⟨v, rfl⟩, (⟨xs, hS, hi, hl, hk⟩ | ⟨pre, c, hi, hl, hk⟩)⟩
      · exact ⟨none, _, by have := run_endLoop (P := P) hl (by rw [hrec]; simp); rw [hrec] at this; exact this, hdone xs _ hS (hI _ _ _ _ _ hi (by omega) (by omega) hl rfl) ((World.putObj_heap_other (by omega)).trans hk)⟩
      · exact ⟨some c, _, by have := run_endLoop (P := P) hl (by rw [hrec]; simp); rw [hrec] at this; exact this, hstop c pre _ (hIx _ _ _ _ _ _ hi (by omega) (by omega) hl rfl) ((World.putObj_heap_other (by omega)).trans hk)⟩

end Go

namespace Go.Proofs.YtoehfadjpficiaaGreatDoor
open Go.RowKit Go.Shelf

/-- What stands between the slashes. -/
def splitSlash : List UInt8 → List (List UInt8)
  | [] => [[]]
  | c :: l => if c = 47 then [] :: splitSlash l else match splitSlash l with
    | [] => [[c]]
    | p :: ps => (c :: p) :: ps

theorem splitSlash_ne : ∀ l, splitSlash l ≠ []
  | [] => by simp [splitSlash]
  | c :: l => by
    unfold splitSlash
    split
    · simp
    · split <;> simp

theorem split_none : ∀ l : List UInt8, Lib.indexByte l 47 < 0 → splitSlash l = [l]
  | [], _ => rfl
  | c :: l, h => by
    have hge := Lib.indexByte_ge l 47
    rw [Lib.indexByte] at h
    by_cases hc : c = 47
    · subst hc; simp at h
    · have hc' : (c == 47) = false := by simpa using hc
      rw [hc'] at h
      by_cases h1 : Lib.indexByte l 47 = -1
      · have ih := split_none l (by omega)
        rw [splitSlash, if_neg hc, ih]
      · have h1' : (Lib.indexByte l 47 == -1) = false := by simpa using h1
        rw [h1'] at h
        simp at h
        omega

theorem split_some : ∀ (l : List UInt8) (k : Nat), Lib.indexByte l 47 = k → k < l.length ∧ splitSlash l = l.take k :: splitSlash (l.drop (k + 1))
  | [], k, h => by simp [Lib.indexByte] at h
  | c :: l, k, h => by
    have hge := Lib.indexByte_ge l 47
    rw [Lib.indexByte] at h
    by_cases hc : c = 47
    · subst hc
      simp at h
      obtain rfl : k = 0 := by omega
      exact ⟨by simp, by rw [splitSlash, if_pos rfl]; simp⟩
    · have hc' : (c == 47) = false := by simpa using hc
      rw [hc'] at h
      by_cases h1 : Lib.indexByte l 47 = -1
      · simp [h1] at h
      · have h1' : (Lib.indexByte l 47 == -1) = false := by simpa using h1
        rw [h1'] at h
        simp at h
        obtain ⟨k', rfl⟩ : ∃ k', k = k' + 1 := ⟨k - 1, by omega⟩
        obtain ⟨hl, ih⟩ := split_some l k' (by omega)
        refine ⟨by simp; omega, ?_⟩
        rw [splitSlash, if_neg hc, ih]
        simp

def ofL (l : List UInt8) : ByteArray := ⟨l.toArray⟩
theorem ofL_data (s : ByteArray) : ofL s.data.toList = s := by obtain ⟨⟨l⟩⟩ := s; rfl
theorem data_ofL (l : List UInt8) : (ofL l).data.toList = l := rfl
theorem ba_ext {s t : ByteArray} (h : s.data.toList = t.data.toList) : s = t := by rw [← ofL_data s, ← ofL_data t, h]
/-- The parts of a text. -/
def parts (s : ByteArray) : List ByteArray := (splitSlash s.data.toList).map ofL

theorem parts_none (s : ByteArray) (h : Lib.indexByte s.data.toList 47 < 0) : parts s = [s] := by rw [parts, split_none _ h]; simp [ofL_data]
theorem parts_some (s : ByteArray) (k : Nat) (h : Lib.indexByte s.data.toList 47 = k) : k < s.size ∧ parts s = s.extract 0 k :: parts (s.extract (k + 1) s.size) := by
  obtain ⟨h1, h2⟩ := split_some _ k h
  rw [← Lib.size_eq] at h1
  refine ⟨h1, ?_⟩
  rw [parts, h2, parts, Lib.extract_to_end, List.map_cons]
  congr 1
  apply ba_ext
  rw [data_ofL, Lib.extract_data]
  simp

/-- How long is the text in a variable's box. -/
def boxLen (w : World) (b : Nat) : Nat := match w.cell? ⟨b, 0, none⟩ with | some (.string s) => s.size | _ => 0
theorem boxLen_of {w : World} {b : Nat} {s : ByteArray} (h : Boxed w b 9 (.string s)) : boxLen w b = s.size := by unfold boxLen; rw [h.cell]

attribute [local go_sem] Oper.semAt_some

set_option maxRecDepth 100000 in
set_option maxHeartbeats 4000000 in
theorem split1_in (n : Nat) (hn : 1 ≤ n) (l bs bp bv : Nat) (s0 : ByteArray) (hs : s0.size ≤ 9223372036854775807) (J Jx : List ByteArray → World → Prop)
    (hJ : ∀ pre A u, J pre A → J pre (A.setCell ⟨bs, 0, none⟩ (.string u))) (hne : bs ≠ bp ∧ bs ≠ bv)
    (hY : ∀ pre x W1, J pre W1 → pre ++ [x] <+: parts s0 → YieldAt Fence.wide (n - 1) Tryz.prog l #[.string x] W1 fun e W' =>
      (e = .returned (.bool true) ∧ J (pre ++ [x]) W' ∧ (W'.heap[bs]? = W1.heap[bs]? ∧ W'.heap[bp]? = W1.heap[bp]? ∧ W'.heap[bv]? = W1.heap[bv]?)) ∨ (e = .returned (.bool false) ∧ Jx (pre ++ [x]) W'))
    (W : World) (hbs : Boxed W bs 9 (.string s0)) (hbp : Boxed W bp 9 (.string ⟨#[47]⟩)) (hbv : Boxed W bv 3 (.int .i64 0)) (h0 : J [] W) :
    CallsIn Fence.wide n Tryz.prog 192 #[.func (.yield l) #[] #[], .pointer (some ⟨bp, 0, none⟩), .pointer (some ⟨bs, 0, none⟩), .pointer (some ⟨bv, 0, none⟩)] W fun e W' => (∃ v, e = .returned v) ∧
      ((∃ xs, xs = parts s0 ∧ J xs W') ∨ (∃ pre, Jx pre W')) := by
  refine callsIn_of_wp Tryz.func192 rfl trivial ?_ rfl
  simp only [Tryz.ntmps192, List.size_toArray, List.length_cons, List.length_nil, Nat.reduceAdd, Nat.reduceSub, Array.replicate_succ, Array.replicate_zero, List.push_toArray, List.append_toArray, List.nil_append, List.cons_append]
  have hcp := hbp.cell
  have hcs := hbs.cell
  gi_wp2
  gi_loopw [] (fun wr => ∃ (pre : List ByteArray) (r : ByteArray), Hid (parts s0 = pre ++ parts r) ∧ r.size ≤ 9223372036854775807 ∧ Boxed wr bs 9 (.string r) ∧ Boxed wr bp 9 (.string ⟨#[47]⟩) ∧ Boxed wr bv 3 (.int .i64 0) ∧ J pre wr) (fun wr => boxLen wr bs)
  case atStart => exact ⟨[], s0, rfl, hs, hbs, hbp, hbv, h0⟩
  case round =>
    obtain ⟨pre, r, hpr, hrs, hbs, hbp, hbv, hj⟩ := hrel
    clear hcp hcs h0
    have hcp := hbp.cell
    have hcs := hbs.cell
    have hcv := hbv.cell
    have hfs := hbs.frozen
    have hge := Lib.indexByte_ge r.data.toList 47
    by_cases hlt : Lib.indexByte r.data.toList 47 < 0
    · have hlast := parts_none r hlt
      have hok : pre ++ [r] = parts s0 := by rw [hpr, hlast]
      obtain ⟨fn, tmps, assign, body, hy, hR⟩ := hY pre r wr hj (by rw [hok]; exact List.prefix_refl _)
      have HO := Lib.hid hok
      clear hok hlast
      gi_wp2_with (refine ⟨trivial, ?_⟩; gi_at_call 194; refine (callsIn_wide.2 (Tryz.strings_Index_one r 47 _)).mono ?_; rintro e w' ⟨rfl, rfl⟩)
      refine hR.mono ?_
      rintro e W3 (⟨rfl, hJ3, -⟩ | ⟨rfl, hJx3⟩)
      · gi_wp2
        go_end0
        exact ⟨⟨_, rfl⟩, .inl ⟨_, HO.out, hJ3⟩⟩
      · gi_wp2
        go_end0
        exact ⟨⟨_, rfl⟩, .inr ⟨_, hJx3⟩⟩
    · obtain ⟨k, hk⟩ : ∃ k : Nat, Lib.indexByte r.data.toList 47 = (k : Int) := ⟨(Lib.indexByte r.data.toList 47).toNat, by omega⟩
      obtain ⟨hkl, hps⟩ := parts_some r k hk
      have hok : parts s0 = (pre ++ [r.extract 0 k]) ++ parts (r.extract (k + 1) r.size) := by rw [hpr, hps]; simp
      obtain ⟨fn, tmps, assign, body, hy, hR⟩ := hY pre (r.extract 0 k) wr hj (by rw [hok]; exact List.prefix_append _ _)
      have HO := Lib.hid hok
      have hsz : (r.extract (k + 1) r.size).size = r.size - (k + 1) := by simp
      have HS := Lib.hid hsz
      have hbl := Lib.hid (boxLen_of hbs)
      clear hok hps hsz hpr
      gi_wp2_with (refine ⟨trivial, ?_⟩; gi_at_call 194; refine (callsIn_wide.2 (Tryz.strings_Index_one r 47 _)).mono ?_; rintro e w' ⟨rfl, rfl⟩; rw [hk])
      refine hR.mono ?_
      rintro e W3 (⟨rfl, hJ3, he1, he2, he3⟩ | ⟨rfl, hJx3⟩)
      · have b1 : Boxed W3 bs 9 (.string r) := he1.trans hbs
        have b2 : Boxed W3 bp 9 (.string ⟨#[47]⟩) := he2.trans hbp
        have b3 : Boxed W3 bv 3 (.int .i64 0) := he3.trans hbv
        clear hbs hbp hbv hcp hcs hcv hfs he1 he2 he3 hy hR hY
        have hcp := b2.cell
        have hcs := b1.cell
        have hfs := b1.frozen
        gi_wp2
        go_roundw
        case rel => exact ⟨pre ++ [r.extract 0 k], r.extract (k + 1) r.size, HO.out, by rw [HS.out]; omega, b1.set _, b2.other (Ne.symm hne.1) _, b3.other (Ne.symm hne.2) _, hJ _ _ _ hJ3⟩
        case measure => rw [boxLen_of (b1.set _), hbl.out, HS.out]; omega
      · gi_wp2
        refine bodyPost_ret (results_none rfl _ _ _) rfl ?_
        exact ⟨⟨_, rfl⟩, .inr ⟨_, hJx3⟩⟩

/-- The world with the iterator's three boxes. -/
def splitWorld (w : World) (s : ByteArray) : World := ((w.alloc (.cells #[.string s] 9)).alloc (.cells #[.string ⟨#[47]⟩] 9)).alloc (.cells #[.int .i64 0] 3)

set_option maxRecDepth 100000 in
set_option maxHeartbeats 2000000 in
theorem splitSeq_any (s : ByteArray) (w : World) :
    Calls Tryz.prog 165 #[.string s, .string ⟨#[47]⟩, .int .i64 0] w fun e w' => e = .returned (.func (.func 192) #[] #[.pointer (some ⟨w.heap.size + 1, 0, none⟩), .pointer (some ⟨w.heap.size, 0, none⟩), .pointer (some ⟨w.heap.size + 1 + 1, 0, none⟩)]) ∧ w' = splitWorld w s := by
  go_enter Tryz.func165, Tryz.ntmps165
  go_wp2
  go_ret
  exact ⟨rfl, rfl⟩

set_option maxRecDepth 100000 in
set_option maxHeartbeats 2000000 in
theorem SplitSeq_any (s : ByteArray) (w : World) :
    Calls Tryz.prog 135 #[.string s, .string ⟨#[47]⟩] w fun e w' => e = .returned (.func (.func 192) #[] #[.pointer (some ⟨w.heap.size + 1, 0, none⟩), .pointer (some ⟨w.heap.size, 0, none⟩), .pointer (some ⟨w.heap.size + 1 + 1, 0, none⟩)]) ∧ w' = splitWorld w s := by
  go_enter Tryz.func135, Tryz.ntmps135
  go_wp2_with (go_at_call 165; refine (splitSeq_any s _).mono ?_; rintro e w' ⟨rfl, rfl⟩)
  go_ret
  exact ⟨rfl, rfl⟩

end Go.Proofs.YtoehfadjpficiaaGreatDoor

namespace Go.Proofs.YtoehfadjpficiaaGreatDoor
open Go.RowKit

/-- The error of a name. -/
def checkE (x : ByteArray) : Int := if x.toList = [] then 130 else if 56 < x.size then 130 else if hasBad x = true then 130 else if x.toList = [46] then 130 else if x.toList = [46, 46] then 130 else 0

abbrev PSt := List ByteArray × Bool × Int

/-- One part more. -/
def stepP (st : PSt) (x : ByteArray) : Except (Int × Int) PSt :=
  if x.toList = [] then .ok (st.1, true, st.2.2 + (x.size + 1)) else if x.toList = [46] then .ok (st.1, true, st.2.2 + (x.size + 1))
  else if x.toList = [46, 46] then .ok (st.1.dropLast, true, st.2.2 + (x.size + 1))
  else if checkE x ≠ 0 then .error (st.2.2, checkE x) else if st.1.length = 32 then .error (st.2.2, 182)
  else .ok (st.1 ++ [x], false, st.2.2 + (x.size + 1))

def runP : PSt → List ByteArray → Except (Int × Int) PSt
  | st, [] => .ok st
  | st, x :: xs => match stepP st x with
    | .ok st' => runP st' xs
    | .error e => .error e

theorem runP_append (st : PSt) (a b : List ByteArray) : runP st (a ++ b) = match runP st a with
    | .ok st' => runP st' b
    | .error e => .error e := by
  induction a generalizing st with
  | nil => rfl
  | cons x a ih =>
    simp only [List.cons_append, runP]
    cases stepP st x with
    | ok st' => exact ih st'
    | error e => rfl

theorem runP_snoc {st st' : PSt} {a : List ByteArray} (x : ByteArray) (h : runP st a = .ok st') : runP st (a ++ [x]) = stepP st' x := by
  rw [runP_append, h]
  simp only [runP]
  cases stepP st' x <;> rfl

theorem runP_err {st : PSt} {a : List ByteArray} {e : Int × Int} (h : runP st a = .error e) (b : List ByteArray) : runP st (a ++ b) = .error e := by
  rw [runP_append, h]

/-- The answer. -/
def finP : Except (Int × Int) PSt → List ByteArray × Bool × Int × Int
  | .ok st => (st.1, st.2.1, 0, 0)
  | .error e => ([], false, e.1, e.2)

def parseR (s : ByteArray) : List ByteArray × Bool × Int × Int := finP (runP ([], true, 1) (parts (s.extract 1 s.size)))

def lensP (l : List ByteArray) : Nat := (l.map fun x => x.size + 1).sum
theorem lensP_append (a b : List ByteArray) : lensP (a ++ b) = lensP a + lensP b := by simp [lensP]

theorem splitSlash_sum : ∀ l : List UInt8, ((splitSlash l).map fun x => x.length + 1).sum = l.length + 1
  | [] => rfl
  | c :: l => by
    have ih := splitSlash_sum l
    unfold splitSlash
    split
    · simp [ih]; omega
    · split
      · next h => exact absurd h (splitSlash_ne l)
      · next p ps h => rw [h] at ih; simp at ih ⊢; omega

theorem lensP_parts (s : ByteArray) : lensP (parts s) = s.size + 1 := by
  have := splitSlash_sum s.data.toList
  rw [← Lib.size_eq] at this
  rw [← this, lensP, parts, List.map_map]
  rfl

theorem prefix_lens {a b : List ByteArray} (h : a <+: b) : lensP a ≤ lensP b := by
  obtain ⟨c, rfl⟩ := h
  rw [lensP_append]
  omega

theorem runP_at : ∀ (a : List ByteArray) (st st' : PSt), runP st a = .ok st' → st'.2.2 = st.2.2 + lensP a
  | [], st, st', h => by cases h; simp [lensP]
  | x :: a, st, st', h => by
    rw [runP] at h
    cases hs : stepP st x with
    | error e => rw [hs] at h; cases h
    | ok st1 =>
      rw [hs] at h
      have ih := runP_at a st1 st' h
      have h1 : st1.2.2 = st.2.2 + (x.size + 1) := by
        unfold stepP at hs
        repeat' split at hs
        all_goals first | (cases hs; rfl) | cases hs
      rw [ih, h1]
      simp [lensP]
      omega

theorem runP_len : ∀ (a : List ByteArray) (st st' : PSt), runP st a = .ok st' → st.1.length ≤ 32 → st'.1.length ≤ 32
  | [], st, st', h, hl => by cases h; exact hl
  | x :: a, st, st', h, hl => by
    rw [runP] at h
    cases hs : stepP st x with
    | error e => rw [hs] at h; cases h
    | ok st1 =>
      rw [hs] at h
      refine runP_len a st1 st' h ?_
      unfold stepP at hs
      repeat' split at hs
      all_goals first | (cases hs; simp; omega) | cases hs

end Go.Proofs.YtoehfadjpficiaaGreatDoor

namespace Go.Proofs.YtoehfadjpficiaaGreatDoor
open Go.RowKit Go.Shelf

theorem check_any (x : ByteArray) (w : World) (hx : x.size < 4294967281) : Calls Tryz.prog 51 #[.string x] w fun e w' => e = .returned (.int .i64 (checkE x)) ∧ Below w.heap.size w w' := by
  refine P.name_Check.calls x _ w ?_
  have hca : P.strings_ContainsAny.f x (⟨#[0, 47]⟩ : ByteArray) = some (hasBad x) := if_pos ⟨rfl, hx⟩
  unfold P.name_Check.f checkE
  rw [hca]
  simp only [Option.bind_some]
  repeat' split
  all_goals first | rfl | omega

def parsePost (w : World) (r : List ByteArray × Bool × Int × Int) (e : Ending) (w' : World) : Prop :=
  ∃ v0, e = .returned (.tuple #[.agg #[v0, .bool r.2.1], .int .i64 r.2.2.1, .int .i64 r.2.2.2]) ∧ w'.ownsRow w.heap.size 9 1 v0 r.1.length (r.1.map Value.string) ∧ Below w.heap.size w w'

attribute [local go_sem] Oper.semAt_some

/-- Between two rounds. -/
def PInv (B : Nat) (w : World) (pre : List ByteArray) (W : World) : Prop :=
  ∃ (ns : List ByteArray) (d : Bool) (at_ : Int) (v : Value), Hid (runP ([], true, 1) pre = .ok (ns, d, at_)) ∧ W.heap[B]? = some (.cells #[.slice none 0 0, .bool false] 166 (0, 0)) ∧ W.heap[B + 1]? = some (.cells #[.int .i64 0] 3 (0, 0)) ∧
    W.heap[B + 2]? = some (.cells #[.int .i64 0] 25 (0, 0)) ∧ W.heap[B + 3]? = some (.cells #[v, .bool d] 166 (0, 0)) ∧ W.heap[B + 4]? = some (.cells #[.int .i64 at_] 3 (0, 0)) ∧
    W.ownsRow (B + 10) 9 1 v ns.length (ns.map Value.string) ∧ Below B w W
/-- A round has left by a return. -/
def PEnd (B : Nat) (w : World) (c : Code) (pre : List ByteArray) (W : World) : Prop :=
  c = .ret ∧ ∃ (at_ er : Int), Hid (runP ([], true, 1) pre = .error (at_, er)) ∧ W.heap[B]? = some (.cells #[.slice none 0 0, .bool false] 166 (0, 0)) ∧ W.heap[B + 1]? = some (.cells #[.int .i64 at_] 3 (0, 0)) ∧
    W.heap[B + 2]? = some (.cells #[.int .i64 er] 25 (0, 0)) ∧ Below B w W

theorem own_same {W W' : World} {base : Nat} {e : TypeId} {size n : Nat} {v : Value} {xs : List Value} (h : W.ownsRow base e size v n xs) (hm : ∀ k, base ≤ k → k < W.heap.size → W'.heap[k]? = W.heap[k]?) : W'.ownsRow base e size v n xs := by
  obtain ⟨h1, h2⟩ := h
  refine ⟨h1, ?_⟩
  rcases h2 with h2 | ⟨g, cap, cur, rfl, hg, hh, r⟩
  · exact .inl h2
  · exact .inr ⟨g, cap, cur, rfl, hg, (hm g hg (Array.getElem?_eq_some_iff.1 hh).1).trans hh, r⟩
theorem own_base {W : World} {base base' : Nat} {e : TypeId} {size n : Nat} {v : Value} {xs : List Value} (h : W.ownsRow base e size v n xs) (hb : base' ≤ base) : W.ownsRow base' e size v n xs := by
  obtain ⟨h1, h2⟩ := h
  refine ⟨h1, ?_⟩
  rcases h2 with h2 | ⟨g, cap, cur, rfl, hg, r⟩
  · exact .inl h2
  · exact .inr ⟨g, cap, cur, rfl, by omega, r⟩

theorem PInv.step {B : Nat} {w W W' : World} {pre : List ByteArray} (h : PInv B w pre W) (hb : Below B W W') (hm : ∀ k, (B ≤ k ∧ k ≤ B + 4) ∨ (B + 10 ≤ k ∧ k < W.heap.size) → W'.heap[k]? = W.heap[k]?) : PInv B w pre W' := by
  obtain ⟨ns, d, at_, v, h0, h1, h2, h3, h4, h5, h6, h7⟩ := h
  exact ⟨ns, d, at_, v, h0, (hm _ (.inl (by omega))).trans h1, (hm _ (.inl (by omega))).trans h2, (hm _ (.inl (by omega))).trans h3, (hm _ (.inl (by omega))).trans h4, (hm _ (.inl (by omega))).trans h5, own_same h6 (fun k hk hl => hm k (.inr ⟨hk, hl⟩)), h7.trans hb⟩
theorem PEnd.step {B : Nat} {w W W' : World} {c : Code} {pre : List ByteArray} (h : PEnd B w c pre W) (hb : Below B W W') (hm : ∀ k, (B ≤ k ∧ k ≤ B + 4) → W'.heap[k]? = W.heap[k]?) : PEnd B w c pre W' := by
  obtain ⟨h0, at_, er, h1, h2, h3, h4, h5⟩ := h
  exact ⟨h0, at_, er, h1, (hm _ (by omega)).trans h2, (hm _ (by omega)).trans h3, (hm _ (by omega)).trans h4, h5.trans hb⟩

theorem below_putObj {B : Nat} {W : World} {l : Nat} (o' : Obj) (hl : B ≤ l) : Below B W (W.putObj l o') :=
  ⟨rfl, rfl, rfl, by simp, fun k hk => World.putObj_heap_other (by omega)⟩

def sameBoxes (B : Nat) (W W' : World) : Prop := W'.heap[B + 5]? = W.heap[B + 5]? ∧ W'.heap[B + 6]? = W.heap[B + 6]? ∧ W'.heap[B + 7]? = W.heap[B + 7]?

/-- The world ahead of the loop. -/
def aheadW (w : World) (s1 : ByteArray) : World := splitWorld (((((w.alloc (Obj.cells #[Value.slice none 0 0, Value.bool false] 166)).alloc (Obj.cells #[Value.int IntKind.i64 0] 3)).alloc (Obj.cells #[Value.int IntKind.i64 0] 25)).alloc
            (Obj.cells #[Value.slice none 0 0, Value.bool true] 166)).alloc (Obj.cells #[Value.int IntKind.i64 1] 3)) s1

theorem alloc_at (w : World) (o : Obj) (k : Nat) (h : k = w.heap.size) : (w.alloc o).heap[k]? = some o := by subst h; exact World.alloc_heap_new w o
theorem alloc_past {w : World} {k : Nat} {x : Obj} (o : Obj) (h : w.heap[k]? = some x) : (w.alloc o).heap[k]? = some x := (Below.heap_alloc w o k (Array.getElem?_eq_some_iff.1 h).1).trans h

theorem ahead_size (w : World) (s1 : ByteArray) : (aheadW w s1).heap.size = w.heap.size + 8 := by simp [aheadW, splitWorld]
theorem ahead_box (w : World) (s1 : ByteArray) : Boxed (aheadW w s1) (w.heap.size + 5) 9 (.string s1) ∧ Boxed (aheadW w s1) (w.heap.size + 6) 9 (.string ⟨#[47]⟩) ∧ Boxed (aheadW w s1) (w.heap.size + 7) 3 (.int .i64 0) := by
  refine ⟨?_, ?_, ?_⟩ <;> unfold Boxed aheadW splitWorld
  · exact alloc_past _ (alloc_past _ (alloc_at _ _ _ (by simp)))
  · exact alloc_past _ (alloc_at _ _ _ (by simp))
  · exact alloc_at _ _ _ (by simp)
theorem ahead_inv (w : World) (s1 : ByteArray) : PInv w.heap.size w [] (aheadW w s1) := by
  refine ⟨[], true, 1, .slice none 0 0, rfl, ?_, ?_, ?_, ?_, ?_, World.ownsRow_nil _ _ _ _, ?_⟩ <;> unfold aheadW splitWorld
  · exact alloc_past _ (alloc_past _ (alloc_past _ (alloc_past _ (alloc_past _ (alloc_past _ (alloc_past _ (alloc_at _ _ _ rfl)))))))
  · exact alloc_past _ (alloc_past _ (alloc_past _ (alloc_past _ (alloc_past _ (alloc_past _ (alloc_at _ _ _ (by simp)))))))
  · exact alloc_past _ (alloc_past _ (alloc_past _ (alloc_past _ (alloc_past _ (alloc_at _ _ _ (by simp))))))
  · exact alloc_past _ (alloc_past _ (alloc_past _ (alloc_past _ (alloc_at _ _ _ (by simp)))))
  · exact alloc_past _ (alloc_past _ (alloc_past _ (alloc_at _ _ _ (by simp))))
  · exact ((((((((Below.refl _ _).alloc (Nat.le_refl _) _).alloc (by simp) _).alloc (by simp; omega) _).alloc (by simp; omega) _).alloc (by simp; omega) _).alloc (by simp; omega) _).alloc (by simp; omega) _).alloc (by simp; omega) _

end Go.Proofs.YtoehfadjpficiaaGreatDoor

namespace Go.Proofs.YtoehfadjpficiaaGreatDoor
open Go.RowKit Go.Shelf
attribute [local go_sem] Oper.semAt_some

theorem heap_cells {W : World} {b : Nat} {cs : Array Value} {t : TypeId} {fz : Nat × Nat} (h : W.heap[b]? = some (.cells cs t fz)) (j : Nat) (v : Value) (hv : cs[j]? = some v) : W.cell? ⟨b, j, none⟩ = some v := by simp [World.cell?, h, hv]

theorem heap_frozen {W : World} {b : Nat} {cs : Array Value} {t : TypeId} (h : W.heap[b]? = some (.cells cs t (0, 0))) (j : Nat) : W.frozen? ⟨b, j, none⟩ = false := by simp [World.frozen?, h]
theorem set_heap {W : World} {b j : Nat} {cs : Array Value} {t : TypeId} {fz : Nat × Nat} (u : Value) (h : W.heap[b]? = some (.cells cs t fz)) : (W.setCell ⟨b, j, none⟩ u).heap[b]? = some (.cells (cs.setIfInBounds j u) t fz) := by
  obtain ⟨hlt, hk⟩ := Array.getElem?_eq_some_iff.1 h
  show (W.heap.modify b _)[b]? = _
  rw [Array.getElem?_eq_getElem (by rw [Array.size_modify]; exact hlt), Array.getElem_modify_self, hk]
  rfl
theorem setCell_size (W : World) (a : Addr) (u : Value) : (W.setCell a u).heap.size = W.heap.size := by simp [World.setCell]
theorem own_cells {W : World} {base : Nat} {e : TypeId} {size n : Nat} {v : Value} {xs : List Value} (h : W.ownsRow base e size v n xs) (k : Nat) (hk : some k = v.ownBlock) : base ≤ k ∧ ∃ c, W.heap[k]? = some (.cells c e (0, 0)) := by
  rcases h.2 with ⟨rfl, _⟩ | ⟨g, cap, cur, rfl, hg, hh, r⟩
  · simp [Value.ownBlock] at hk
  · obtain rfl : k = g := by simpa [Value.ownBlock] using hk
    exact ⟨hg, cur, hh⟩

theorem round_ok {B : Nat} {w W W2 : World} {pre : List ByteArray} {x : ByteArray} {v v' : Value} {n : Nat} {xs : List Value} {ns' : List ByteArray} {d' : Bool} {at' : Int}
    (hc0 : W.heap[B]? = some (.cells #[.slice none 0 0, .bool false] 166 (0, 0))) (hc1 : W.heap[B + 1]? = some (.cells #[.int .i64 0] 3 (0, 0))) (hc2 : W.heap[B + 2]? = some (.cells #[.int .i64 0] 25 (0, 0)))
    (hown : W.ownsRow (B + 10) 9 1 v n xs) (hbel : Below B w W) (hsz : B + 10 ≤ W.heap.size) (hsize : W.heap.size ≤ W2.heap.size)
    (hsame : ∀ k, k < W.heap.size → k ≠ B + 3 → k ≠ B + 4 → some k ≠ v.ownBlock → W2.heap[k]? = W.heap[k]?) (hB : Below B W W2)
    (h3' : W2.heap[B + 3]? = some (.cells #[v', .bool d'] 166 (0, 0))) (h4' : W2.heap[B + 4]? = some (.cells #[.int .i64 at'] 3 (0, 0)))
    (hown' : W2.ownsRow (B + 10) 9 1 v' ns'.length (ns'.map Value.string)) (hrun' : runP ([], true, 1) (pre ++ [x]) = .ok (ns', d', at')) :
    KeepsFrom (B + 8) W W2 ∧ sameBoxes B W W2 ∧ PInv B w (pre ++ [x]) W2 := by
  have hno : ∀ k, k < B + 8 → some k ≠ v.ownBlock := fun k hk e => by have := (own_cells hown k e).1; omega
  refine ⟨⟨hsize, fun k o hk ho hc => ?_⟩, ⟨hsame _ (by omega) (by omega) (by omega) (hno _ (by omega)), hsame _ (by omega) (by omega) (by omega) (hno _ (by omega)), hsame _ (by omega) (by omega) (by omega) (hno _ (by omega))⟩, ?_⟩
  · rw [hsame k (Array.getElem?_eq_some_iff.1 ho).1 (by omega) (by omega) (fun e => ?_)]
    · exact ho
    · obtain ⟨_, c, hcc⟩ := own_cells hown k e
      rw [hcc] at ho
      cases ho
      cases hc
  · exact ⟨ns', d', at', v', hrun', (hsame _ (by omega) (by omega) (by omega) (hno _ (by omega))).trans hc0, (hsame _ (by omega) (by omega) (by omega) (hno _ (by omega))).trans hc1, (hsame _ (by omega) (by omega) (by omega) (hno _ (by omega))).trans hc2, h3', h4', hown', hbel.trans hB⟩

/-- Two stores: the mark, the place. -/
theorem round_two {B : Nat} {w W : World} {pre : List ByteArray} {x : ByteArray} {v : Value} {ns : List ByteArray} {d d' : Bool} {at_ at' : Int}
    (hc0 : W.heap[B]? = some (.cells #[.slice none 0 0, .bool false] 166 (0, 0))) (hc1 : W.heap[B + 1]? = some (.cells #[.int .i64 0] 3 (0, 0))) (hc2 : W.heap[B + 2]? = some (.cells #[.int .i64 0] 25 (0, 0)))
    (hc3 : W.heap[B + 3]? = some (.cells #[v, .bool d] 166 (0, 0))) (hc4 : W.heap[B + 4]? = some (.cells #[.int .i64 at_] 3 (0, 0)))
    (hown : W.ownsRow (B + 10) 9 1 v ns.length (ns.map Value.string)) (hbel : Below B w W) (hsz : B + 10 ≤ W.heap.size) (hrun' : runP ([], true, 1) (pre ++ [x]) = .ok (ns, d', at')) :
    KeepsFrom (B + 8) W ((W.setCell ⟨B + 3, 1, none⟩ (.bool d')).setCell ⟨B + 4, 0, none⟩ (.int .i64 at')) ∧ sameBoxes B W ((W.setCell ⟨B + 3, 1, none⟩ (.bool d')).setCell ⟨B + 4, 0, none⟩ (.int .i64 at')) ∧
      PInv B w (pre ++ [x]) ((W.setCell ⟨B + 3, 1, none⟩ (.bool d')).setCell ⟨B + 4, 0, none⟩ (.int .i64 at')) := by
  have hs : ∀ k, k ≠ B + 3 → k ≠ B + 4 → ((W.setCell ⟨B + 3, 1, none⟩ (.bool d')).setCell ⟨B + 4, 0, none⟩ (.int .i64 at')).heap[k]? = W.heap[k]? := fun k h3 h4 =>
    (Below.heap_setCell _ _ _ k (by simpa using h4)).trans (Below.heap_setCell _ _ _ k (by simpa using h3))
  exact round_ok hc0 hc1 hc2 hown hbel hsz (by rw [setCell_size, setCell_size]; exact Nat.le_refl _) (fun k _ h3 h4 _ => hs k h3 h4) (((Below.refl _ _).setCell (by simp) _).setCell (by simp) _)
    ((Below.heap_setCell _ _ _ _ (by simp)).trans (set_heap _ hc3)) (set_heap _ ((Below.heap_setCell _ _ _ _ (by simp)).trans hc4)) (own_same hown (fun k hk _ => hs k (by omega) (by omega))) hrun'

/-- An error is laid. -/
theorem round_err {B : Nat} {w W W3 : World} {pre : List ByteArray} {x : ByteArray} {at_ er : Int}
    (hc0 : W3.heap[B]? = some (.cells #[.slice none 0 0, .bool false] 166 (0, 0))) (hc1 : W3.heap[B + 1]? = some (.cells #[.int .i64 0] 3 (0, 0))) (hc2 : W3.heap[B + 2]? = some (.cells #[.int .i64 0] 25 (0, 0)))
    (hb3 : Below W.heap.size W W3) (hbel : Below B w W) (hsz : B + 10 ≤ W.heap.size) (hrun' : runP ([], true, 1) (pre ++ [x]) = .error (at_, er)) :
    KeepsFrom (B + 8) W ((((W3.setCell ⟨B, 0, none⟩ (.slice none 0 0)).setCell ⟨B, 1, none⟩ (.bool false)).setCell ⟨B + 1, 0, none⟩ (.int .i64 at_)).setCell ⟨B + 1 + 1, 0, none⟩ (.int .i64 er)).drew ∧
      PEnd B w .ret (pre ++ [x]) ((((W3.setCell ⟨B, 0, none⟩ (.slice none 0 0)).setCell ⟨B, 1, none⟩ (.bool false)).setCell ⟨B + 1, 0, none⟩ (.int .i64 at_)).setCell ⟨B + 1 + 1, 0, none⟩ (.int .i64 er)).drew := by
  have hs : ∀ k, k ≠ B → k ≠ B + 1 → k ≠ B + 2 → ((((W3.setCell ⟨B, 0, none⟩ (.slice none 0 0)).setCell ⟨B, 1, none⟩ (.bool false)).setCell ⟨B + 1, 0, none⟩ (.int .i64 at_)).setCell ⟨B + 1 + 1, 0, none⟩ (.int .i64 er)).drew.heap[k]? = W3.heap[k]? := fun k h0 h1 h2 =>
    (Below.heap_setCell _ _ _ k (by simpa using h2)).trans ((Below.heap_setCell _ _ _ k (by simpa using h1)).trans ((Below.heap_setCell _ _ _ k (by simpa using h0)).trans (Below.heap_setCell _ _ _ k (by simpa using h0))))
  have hbb : Below B W ((((W3.setCell ⟨B, 0, none⟩ (.slice none 0 0)).setCell ⟨B, 1, none⟩ (.bool false)).setCell ⟨B + 1, 0, none⟩ (.int .i64 at_)).setCell ⟨B + 1 + 1, 0, none⟩ (.int .i64 er)).drew :=
    (((((hb3.mono (by omega)).setCell (by simp) _).setCell (by simp) _).setCell (by simp) _).setCell (by simp; omega) _).drew
  refine ⟨⟨hbb.size, fun k o hk ho hc => (hs k (by omega) (by omega) (by omega)).trans ((hb3.block k (Array.getElem?_eq_some_iff.1 ho).1).trans ho)⟩, rfl, at_, er, hrun', ?_, ?_, ?_, hbel.trans hbb⟩
  · exact (Below.heap_setCell _ _ _ _ (by dsimp only; omega)).trans ((Below.heap_setCell _ _ _ _ (by dsimp only; omega)).trans (set_heap _ (set_heap _ hc0)))
  · exact (Below.heap_setCell _ _ _ _ (by dsimp only; omega)).trans (set_heap _ ((Below.heap_setCell _ _ _ _ (by dsimp only; omega)).trans ((Below.heap_setCell _ _ _ _ (by dsimp only; omega)).trans hc1)))
  · exact set_heap _ ((Below.heap_setCell _ _ _ _ (by dsimp only; omega)).trans ((Below.heap_setCell _ _ _ _ (by dsimp only; omega)).trans ((Below.heap_setCell _ _ _ _ (by dsimp only; omega)).trans hc2)))

theorem cell_one_at (w : World) (n : Nat) (hn : n = w.heap.size) (v : Value) (t : TypeId) : ∀ j u, [v][j]? = some u → (w.alloc (.cells #[v] t)).cell? ((⟨n, 0, none⟩ : Addr).add j) = some u := by
  subst hn
  exact cell_one_new _ _ _

theorem after_append {B : Nat} {W3 w1 : World} {v : Value} {n : Nat} {xs : List Value} {d : Bool} {at_ : Int} {tmp : Obj}
    (hc3 : W3.heap[B + 3]? = some (.cells #[v, .bool d] 166 (0, 0))) (hc4 : W3.heap[B + 4]? = some (.cells #[.int .i64 at_] 3 (0, 0)))
    (own3 : W3.ownsRow (B + 10) 9 1 v n xs) (hgrow : ((W3.setCell ⟨B + 1 + 1 + 1, 1, none⟩ (.bool false)).alloc tmp).grownBy w1 v.ownBlock) (hsz : B + 10 ≤ W3.heap.size) :
    w1.heap[B + 1 + 1 + 1]? = some (.cells #[v, .bool false] 166 (0, 0)) ∧ w1.heap[B + 1 + 1 + 1 + 1]? = some (.cells #[.int .i64 at_] 3 (0, 0)) := by
  have hno : ∀ k, k < B + 8 → some k ≠ v.ownBlock := fun k hk e => by have := (own_cells own3 k e).1; omega
  refine ⟨(hgrow.block _ (by rw [World.size_alloc, setCell_size]; omega) (hno _ (by omega))).trans (alloc_past _ (set_heap _ hc3)), (hgrow.block _ (by rw [World.size_alloc, setCell_size]; omega) (hno _ (by omega))).trans (alloc_past _ ((Below.heap_setCell _ _ _ _ (by simp)).trans hc4))⟩

/-- A name more. -/
theorem round_append {B : Nat} {w W W3 w1 : World} {pre : List ByteArray} {x : ByteArray} {v v' : Value} {ns : List ByteArray} {d : Bool} {at_ at' : Int} {tmp : Obj}
    (hc0 : W3.heap[B]? = some (.cells #[.slice none 0 0, .bool false] 166 (0, 0))) (hc1 : W3.heap[B + 1]? = some (.cells #[.int .i64 0] 3 (0, 0))) (hc2 : W3.heap[B + 2]? = some (.cells #[.int .i64 0] 25 (0, 0)))
    (hc3 : W3.heap[B + 3]? = some (.cells #[v, .bool d] 166 (0, 0))) (hc4 : W3.heap[B + 4]? = some (.cells #[.int .i64 at_] 3 (0, 0)))
    (own3 : W3.ownsRow (B + 10) 9 1 v ns.length (ns.map Value.string)) (hgrow : ((W3.setCell ⟨B + 1 + 1 + 1, 1, none⟩ (.bool false)).alloc tmp).grownBy w1 v.ownBlock)
    (hown' : w1.ownsRow (B + 10) 9 1 v' (ns.length + 1) (ns.map Value.string ++ [.string x])) (hb3 : Below W.heap.size W W3) (hown : W.ownsRow (B + 10) 9 1 v ns.length (ns.map Value.string)) (hbel : Below B w W) (hsz : B + 10 ≤ W.heap.size)
    (hrun' : runP ([], true, 1) (pre ++ [x]) = .ok (ns ++ [x], false, at')) :
    KeepsFrom (B + 8) W ((w1.setCell ⟨B + 1 + 1 + 1, 0, none⟩ v').setCell ⟨B + 1 + 1 + 1 + 1, 0, none⟩ (.int .i64 at')) ∧ sameBoxes B W ((w1.setCell ⟨B + 1 + 1 + 1, 0, none⟩ v').setCell ⟨B + 1 + 1 + 1 + 1, 0, none⟩ (.int .i64 at')) ∧
      PInv B w (pre ++ [x]) ((w1.setCell ⟨B + 1 + 1 + 1, 0, none⟩ v').setCell ⟨B + 1 + 1 + 1 + 1, 0, none⟩ (.int .i64 at')) := by
  have hz := hb3.size
  have hA := after_append hc3 hc4 own3 hgrow (by omega)
  have hgs := hgrow.size
  rw [World.size_alloc, setCell_size] at hgs
  have hs : ∀ k, k < W3.heap.size → k ≠ B + 3 → k ≠ B + 4 → some k ≠ v.ownBlock → ((w1.setCell ⟨B + 1 + 1 + 1, 0, none⟩ v').setCell ⟨B + 1 + 1 + 1 + 1, 0, none⟩ (.int .i64 at')).heap[k]? = W3.heap[k]? := fun k hk h3 h4 hv =>
    (Below.heap_setCell _ _ _ k (by simpa using h4)).trans ((Below.heap_setCell _ _ _ k (by simpa using h3)).trans ((hgrow.block k (by rw [World.size_alloc, setCell_size]; omega) hv).trans ((Below.heap_alloc _ _ _ (by rw [setCell_size]; exact hk)).trans (Below.heap_setCell _ _ _ k (by simpa using h3)))))
  have hno : ∀ k, k < B + 8 → some k ≠ v.ownBlock := fun k hk e => by have := (own_cells own3 k e).1; omega
  have h0 : W.heap[B]? = W3.heap[B]? := (hb3.block _ (by omega)).symm
  have h1 : W.heap[B + 1]? = W3.heap[B + 1]? := (hb3.block _ (by omega)).symm
  have h2 : W.heap[B + 2]? = W3.heap[B + 2]? := (hb3.block _ (by omega)).symm
  refine round_ok (v' := v') (h0.trans hc0) (h1.trans hc1) (h2.trans hc2) hown hbel hsz (by rw [setCell_size, setCell_size]; omega) (fun k hk h3 h4 hv => (hs k (by omega) h3 h4 hv).trans (hb3.block k hk)) ?_ ?_ ?_ ?_ hrun'
  · refine Below.setCell (Below.setCell ?_ (by simp; omega) _) (by simp; omega) _
    exact ((((hb3.mono (by omega)).setCell (by simp; omega) _).alloc (by rw [setCell_size]; omega) _).grown hgrow (by rw [World.size_alloc, setCell_size]; omega) (fun k hk => by have := (own_cells own3 k hk.symm).1; omega))
  · exact (Below.heap_setCell _ _ _ _ (by simp)).trans (set_heap _ hA.1)
  · exact set_heap _ ((Below.heap_setCell _ _ _ _ (by simp)).trans hA.2)
  · rw [List.length_append, List.map_append]
    refine own_same hown' (fun k hk _ => ?_)
    exact (Below.heap_setCell _ _ _ k (by simp; omega)).trans (Below.heap_setCell _ _ _ k (by simp; omega))

/-- Three stores: the mark, the names, the place. -/
theorem round_three {B : Nat} {w W : World} {pre : List ByteArray} {x : ByteArray} {v v' : Value} {ns ns' : List ByteArray} {d d' : Bool} {at_ at' : Int}
    (hc0 : W.heap[B]? = some (.cells #[.slice none 0 0, .bool false] 166 (0, 0))) (hc1 : W.heap[B + 1]? = some (.cells #[.int .i64 0] 3 (0, 0))) (hc2 : W.heap[B + 2]? = some (.cells #[.int .i64 0] 25 (0, 0)))
    (hc3 : W.heap[B + 3]? = some (.cells #[v, .bool d] 166 (0, 0))) (hc4 : W.heap[B + 4]? = some (.cells #[.int .i64 at_] 3 (0, 0)))
    (hown : W.ownsRow (B + 10) 9 1 v ns.length (ns.map Value.string)) (hown' : W.ownsRow (B + 10) 9 1 v' ns'.length (ns'.map Value.string)) (hbel : Below B w W) (hsz : B + 10 ≤ W.heap.size) (hrun' : runP ([], true, 1) (pre ++ [x]) = .ok (ns', d', at')) :
    KeepsFrom (B + 8) W (((W.setCell ⟨B + 3, 1, none⟩ (.bool d')).setCell ⟨B + 3, 0, none⟩ v').setCell ⟨B + 4, 0, none⟩ (.int .i64 at')) ∧ sameBoxes B W (((W.setCell ⟨B + 3, 1, none⟩ (.bool d')).setCell ⟨B + 3, 0, none⟩ v').setCell ⟨B + 4, 0, none⟩ (.int .i64 at')) ∧
      PInv B w (pre ++ [x]) (((W.setCell ⟨B + 3, 1, none⟩ (.bool d')).setCell ⟨B + 3, 0, none⟩ v').setCell ⟨B + 4, 0, none⟩ (.int .i64 at')) := by
  have hs : ∀ k, k ≠ B + 3 → k ≠ B + 4 → (((W.setCell ⟨B + 3, 1, none⟩ (.bool d')).setCell ⟨B + 3, 0, none⟩ v').setCell ⟨B + 4, 0, none⟩ (.int .i64 at')).heap[k]? = W.heap[k]? := fun k h3 h4 =>
    (Below.heap_setCell _ _ _ k (by simpa using h4)).trans ((Below.heap_setCell _ _ _ k (by simpa using h3)).trans (Below.heap_setCell _ _ _ k (by simpa using h3)))
  exact round_ok hc0 hc1 hc2 hown hbel hsz (by rw [setCell_size, setCell_size, setCell_size]; exact Nat.le_refl _) (fun k _ h3 h4 _ => hs k h3 h4) ((((Below.refl _ _).setCell (by simp) _).setCell (by simp) _).setCell (by simp) _)
    ((Below.heap_setCell _ _ _ _ (by simp)).trans (set_heap _ (set_heap _ hc3))) (set_heap _ ((Below.heap_setCell _ _ _ _ (by simp)).trans ((Below.heap_setCell _ _ _ _ (by simp)).trans hc4))) (own_same hown' (fun k hk _ => hs k (by omega) (by omega))) hrun'

set_option maxRecDepth 100000 in
theorem res17 {tmps : Array Value} {W : World} {B : Nat} {va : Option Addr} {vl vc : Nat} {d : Bool} {at_ er : Int} (h2 : tmps.getD 2 undef = .pointer (some ⟨B, 0, none⟩)) (h3 : tmps.getD 3 undef = .pointer (some ⟨B + 1, 0, none⟩)) (h4 : tmps.getD 4 undef = .pointer (some ⟨B + 1 + 1, 0, none⟩))
    (g0 : W.heap[B]? = some (.cells #[.slice va vl vc, .bool d] 166 (0, 0))) (g1 : W.heap[B + 1]? = some (.cells #[.int .i64 at_] 3 (0, 0))) (g2 : W.heap[B + 1 + 1]? = some (.cells #[.int .i64 er] 25 (0, 0))) :
    (results Tryz.f94 tmps).run Tryz.prog W = .ok (.tuple #[.agg #[.slice va vl vc, .bool d], .int .i64 at_, .int .i64 er]) W := by
  have k00 : W.cell? ⟨B, 0, none⟩ = some (.slice va vl vc) := heap_cells g0 0 _ rfl
  have k01 : W.cell? ⟨B, 1, none⟩ = some (.bool d) := heap_cells g0 1 _ rfl
  have k1 : W.cell? ⟨B + 1, 0, none⟩ = some (.int .i64 at_) := heap_cells g1 0 _ rfl
  have k2 : W.cell? ⟨B + 1 + 1, 0, none⟩ = some (.int .i64 er) := heap_cells g2 0 _ rfl
  rw [Array.getD_eq_getD_getElem?] at h2 h3 h4
  simp [results, Tryz.results94, go_sem, h2, h3, h4, k00, k01, k1, k2]

set_option maxRecDepth 100000 in
set_option maxHeartbeats 8000000 in
theorem parse_good (s : ByteArray) (w : World) (h : s.size ≤ 1024) (h0 : s.toList.isEmpty = false) (hp : 0 < s.size) (h47 : (((s[0]'hp).toNat : Int) != 47) = false) : Calls Tryz.prog 94 #[.string s] w (parsePost w (parseR s)) := by
  have hd : decide ((1024 : Int) < (s.size : Int)) = false := decide_eq_false (by omega)
  obtain ⟨i0, hi, hz0, hz1, hz2⟩ := info_parts P.info9
  refine (callsIn_wide (n := 5)).1 ?_
  refine callsIn_of_wp_marks Tryz.func94 rfl trivial ?_ rfl
  simp only [Tryz.ntmps94, List.size_toArray, List.length_cons, List.length_nil, Nat.reduceAdd, Nat.reduceSub, Array.replicate_succ, Array.replicate_zero, List.push_toArray, List.append_toArray, List.nil_append, List.cons_append]
  gi_wp2_with (refine ⟨trivial, ?_⟩; gi_at_call 135; refine (callsIn_wide.2 (SplitSeq_any _ _)).mono ?_; rintro e w' ⟨rfl, rfl⟩)
  have hW : ∃ W0, W0 = aheadW w (s.extract 1 s.size) := ⟨_, rfl⟩
  obtain ⟨W0, hW0⟩ := hW
  have hsz : W0.heap.size = w.heap.size + 8 := by rw [hW0]; exact ahead_size _ _
  have hin : PInv w.heap.size w [] W0 := by rw [hW0]; exact ahead_inv _ _
  obtain ⟨hb1, hb2, hb3⟩ : Boxed W0 (w.heap.size + 5) 9 (.string (s.extract 1 s.size)) ∧ Boxed W0 (w.heap.size + 6) 9 (.string ⟨#[47]⟩) ∧ Boxed W0 (w.heap.size + 7) 3 (.int .i64 0) := by rw [hW0]; exact ahead_box _ _
  change Code.wpIn _ _ _ _ _ _ (aheadW w (s.extract 1 s.size))
  rw [← hW0]
  clear hW0
  refine wpIn_rangeFunc_boxed rfl (by omega) (gf := 192) (lb := #[.pointer (some ⟨w.heap.size + 6, 0, none⟩), .pointer (some ⟨w.heap.size + 5, 0, none⟩), .pointer (some ⟨w.heap.size + 7, 0, none⟩)]) rfl trivial (enters_of Tryz.func192 (by kernel_rfl) rfl)
    (encs := fun x : ByteArray => #[Value.string x]) (Kp := sameBoxes w.heap.size) (St := fun A B => ∃ u, B = A.setCell ⟨w.heap.size + 5, 0, none⟩ (.string u)) (Ok := fun ys => ys <+: parts (s.extract 1 s.size)) (S := fun ys => ys = parts (s.extract 1 s.size)) ?seq
    (fun h k => ⟨k.1.trans h.1, k.2.1.trans h.2.1, k.2.2.trans h.2.2⟩)
    (fun W l o o' hl _ => ⟨World.putObj_heap_other (by omega), World.putObj_heap_other (by omega), World.putObj_heap_other (by omega)⟩)
    (fun {A B} hst k hk => by obtain ⟨u, rfl⟩ := hst; exact Below.heap_setCell _ _ _ k (by simp; omega)) (fun _ => rfl)
    (PInv w.heap.size w) (fun c pre W => pre <+: parts (s.extract 1 s.size) ∧ PEnd w.heap.size w c pre W)
    (fun o hi o' => hi.step ((Below.refl _ _).alloc (by simp; omega) _) (fun k hk => Below.heap_alloc _ _ k (by rcases hk with hk | hk; (simp; omega); exact hk.2)))
    (fun o => hin.step ((Below.refl _ _).alloc (by omega) _) (fun k hk => Below.heap_alloc _ _ k (by omega)))
    (fun pre A B hi hst => by obtain ⟨u, rfl⟩ := hst; exact hi.step ((Below.refl _ _).setCell (by simp) _) (fun k hk => Below.heap_setCell _ _ _ k (by simp; omega)))
    (fun pre W l o o' hi hl hl2 ho hc => hi.step (below_putObj _ (by omega)) (fun k hk => World.putObj_heap_other (by omega)))
    (fun c pre W l o o' hi hl hl2 ho hc => ⟨hi.1, hi.2.step (below_putObj _ (by omega)) (fun k hk => World.putObj_heap_other (by omega))⟩)
    (fun x => { tmps := #[Value.string s, undef, Value.pointer (some { block := w.heap.size, off := 0 }),
          Value.pointer (some { block := w.heap.size + 1, off := 0 }),
          Value.pointer (some { block := w.heap.size + 1 + 1, off := 0 }),
          Value.pointer (some { block := w.heap.size + 1 + 1 + 1, off := 0 }),
          Value.pointer (some { block := w.heap.size + 1 + 1 + 1 + 1, off := 0 }), .string x, undef, Value.bool false,
          Value.string s, Value.int IntKind.i64 ↑s.size, Value.bool false, undef, Value.bool false, Value.string s,
          Value.bool false, Value.bool false, Value.string s, Value.int IntKind.u8 ↑s[0].toNat, Value.bool false,
          Value.bool false, undef, Value.agg #[Value.slice none 0 0, Value.bool true], Value.string s,
          Value.string (s.extract 1 s.size),
          Value.func (Fn.func 192) #[]
            #[Value.pointer (some { block := w.heap.size + 1 + 1 + 1 + 1 + 1 + 1, off := 0 }),
              Value.pointer (some { block := w.heap.size + 1 + 1 + 1 + 1 + 1, off := 0 }),
              Value.pointer (some { block := w.heap.size + 1 + 1 + 1 + 1 + 1 + 1 + 1, off := 0 })],
          .string x, undef, undef, undef, undef, undef, undef, undef, undef, undef, undef, undef, undef, undef, undef,
          undef, undef, undef, undef, undef, undef, undef, undef, undef, undef, undef, undef, undef, undef, undef, undef, undef, undef, undef, undef, undef, undef, undef, undef, undef, undef, undef, undef, undef, undef, undef], defers := [] }) ?assign ?body ?done ?stop
  case seq =>
    intro l J Jx W hbw hJ hY hJ0
    have e1 : W.heap[w.heap.size + 5]? = W0.heap[w.heap.size + 5]? := hbw.block _ (by omega)
    have e2 : W.heap[w.heap.size + 6]? = W0.heap[w.heap.size + 6]? := hbw.block _ (by omega)
    have e3 : W.heap[w.heap.size + 7]? = W0.heap[w.heap.size + 7]? := hbw.block _ (by omega)
    exact split1_in 4 (by omega) l (w.heap.size + 5) (w.heap.size + 6) (w.heap.size + 7) (s.extract 1 s.size) (by simp; omega) J Jx (fun pre A u hj => hJ _ _ _ hj ⟨u, rfl⟩) ⟨by omega, by omega⟩ hY W (e1.trans hb1) (e2.trans hb2) (e3.trans hb3) hJ0
  case assign =>
    intro l x W K hK
    gi_wp2
    exact hK
  case body =>
    intro l pre x W hi hWs hok
    obtain ⟨ns, d, at_, v, hrun, hc0, hc1, hc2, hc3, hc4, hown, hbel⟩ := hi
    have hbs : Below w.heap.size W W := Below.refl _ _
    have hat := runP_at _ _ _ hrun
    have hnl := runP_len _ _ _ hrun (by simp)
    have hle := prefix_lens hok
    rw [lensP_parts, lensP_append] at hle
    have hxs : lensP [x] = x.size + 1 := by simp [lensP]
    have hs1 : (s.extract 1 s.size).size = s.size - 1 := by simp
    rw [hxs, hs1] at hle
    dsimp only at hat hnl
    have hat1 : 1 ≤ at_ := by omega
    have hat2 : at_ + x.size + 1 ≤ 1200 := by omega
    have hx1 : x.size ≤ 1200 := by omega
    clear hat hle hxs hs1 h47 hin hb1 hb2 hb3
    have hC0 := Lib.hid hc0
    have hC1 := Lib.hid hc1
    have hC2 := Lib.hid hc2
    have hC3 := Lib.hid hc3
    have hC4 := Lib.hid hc4
    have k00 : W.cell? ⟨w.heap.size, 0, none⟩ = some (.slice none 0 0) := heap_cells hc0 0 _ rfl
    have k01 : W.cell? ⟨w.heap.size, 1, none⟩ = some (.bool false) := heap_cells hc0 1 _ rfl
    have k1 : W.cell? ⟨w.heap.size + 1, 0, none⟩ = some (.int .i64 0) := heap_cells hc1 0 _ rfl
    have k2 : W.cell? ⟨w.heap.size + 1 + 1, 0, none⟩ = some (.int .i64 0) := heap_cells hc2 0 _ rfl
    have k30 : W.cell? ⟨w.heap.size + 1 + 1 + 1, 0, none⟩ = some v := heap_cells hc3 0 _ rfl
    have k31 : W.cell? ⟨w.heap.size + 1 + 1 + 1, 1, none⟩ = some (.bool d) := heap_cells hc3 1 _ rfl
    have k4 : W.cell? ⟨w.heap.size + 1 + 1 + 1 + 1, 0, none⟩ = some (.int .i64 at_) := heap_cells hc4 0 _ rfl
    have f00 : W.frozen? ⟨w.heap.size, 0, none⟩ = false := heap_frozen hc0 0
    have f01 : W.frozen? ⟨w.heap.size, 1, none⟩ = false := heap_frozen hc0 1
    have f1 : W.frozen? ⟨w.heap.size + 1, 0, none⟩ = false := heap_frozen hc1 0
    have f2 : W.frozen? ⟨w.heap.size + 1 + 1, 0, none⟩ = false := heap_frozen hc2 0
    have f30 : W.frozen? ⟨w.heap.size + 1 + 1 + 1, 0, none⟩ = false := heap_frozen hc3 0
    have f31 : W.frozen? ⟨w.heap.size + 1 + 1 + 1, 1, none⟩ = false := heap_frozen hc3 1
    have f4 : W.frozen? ⟨w.heap.size + 1 + 1 + 1 + 1, 0, none⟩ = false := heap_frozen hc4 0
    clear hc0 hc1 hc2 hc3 hc4
    have hstep := runP_snoc x hrun
    have HR := Lib.hid hstep
    clear hstep
    by_cases e1 : x.toList = []
    · have t1 : x.toList.isEmpty = true := by rw [e1]; rfl
      have E1 := Lib.hid e1
      clear e1
      gi_wp2
      rw [hsz]
      exact round_two hC0.out hC1.out hC2.out hC3.out hC4.out hown hbel (by omega) (by rw [HR.out, stepP, if_pos E1.out])
    · have t1 : x.toList.isEmpty = false := by simpa using e1
      have E1 := Lib.hid e1
      clear e1
      by_cases e2 : x.toList = [46]
      · have t2 : (x.toList == [46]) = true := by simpa using e2
        have E2 := Lib.hid e2
        clear e2
        gi_wp2
        rw [hsz]
        exact round_two hC0.out hC1.out hC2.out hC3.out hC4.out hown hbel (by omega) (by rw [HR.out, stepP, if_neg E1.out, if_pos E2.out])
      · have t2 : (x.toList == [46]) = false := by simpa using e2
        have E2 := Lib.hid e2
        clear e2
        by_cases e3 : x.toList = [46, 46]
        · have t3 : (x.toList == [46, 46]) = true := by simpa using e3
          have E3 := Lib.hid e3
          clear e3
          rcases hown.2 with ⟨rfl, hn⟩ | ⟨g, cap, cur, rfl, hg, hh, hcap, hmax, hcur, htake⟩
          · obtain rfl : ns = [] := List.eq_nil_of_length_eq_zero hn
            gi_wp2
            rw [hsz]
            exact round_three (ns := []) (ns' := []) hC0.out hC1.out hC2.out hC3.out hC4.out hown (World.ownsRow_nil _ _ _ _) hbel (by omega) (by rw [HR.out, stepP, if_neg E1.out, if_neg E2.out, if_pos E3.out]; rfl)
          · have hmx0 : 0 ≤ max 0 ((ns.length : Int) - 1) := by omega
            have hmx1 : max 0 ((ns.length : Int) - 1) ≤ (cap : Int) := by omega
            have hmx2 : (max 0 ((ns.length : Int) - 1)).toNat = ns.length - 1 := by omega
            have HM := Lib.hid hmx2
            have HT := Lib.hid htake
            have HC := Lib.hid hcur
            clear hmx2 htake hcur
            gi_wp2
            rw [HM.out, hsz]
            refine round_three (ns := ns) (ns' := ns.dropLast) hC0.out hC1.out hC2.out hC3.out hC4.out hown ⟨by simp, .inr ⟨g, cap, cur, by rw [List.length_dropLast], hg, hh, by simp; omega, hmax, HC.out, ?_⟩⟩ hbel (by omega) (by rw [HR.out, stepP, if_neg E1.out, if_neg E2.out, if_pos E3.out])
            have ht := HT.out
            rw [Nat.mul_one] at ht ⊢
            rw [List.length_dropLast, List.dropLast_eq_take, List.map_take, ← ht, List.take_take]
            congr 1
            omega
        · have t3 : (x.toList == [46, 46]) = false := by simpa using e3
          have E3 := Lib.hid e3
          clear e3
          have hck := check_any x W (by omega)
          have HP : stepP (ns, d, at_) x = if checkE x ≠ 0 then .error (at_, checkE x) else if ns.length = 32 then .error (at_, 182) else .ok (ns ++ [x], false, at_ + (x.size + 1)) := by rw [stepP, if_neg E1.out, if_neg E2.out, if_neg E3.out]
          have HQ := Lib.hid (HR.out.trans HP)
          clear HP HR
          generalize checkE x = er at *
          have hck2 := Lib.hid hck
          clear hck
          have hg0 : w.heap.size + 10 ≤ W.heap.size := by omega
          gi_wp2_with fail
          refine ⟨trivial, ?_⟩
          refine (CallsIn.inRound l (callsIn_wide.2 hck2.out)).mono ?_
          rintro e W3 ⟨rfl, hb3⟩
          have D0 := (hb3.block (w.heap.size) (by omega)).trans hC0.out
          have D1 := (hb3.block (w.heap.size + 1) (by omega)).trans hC1.out
          have D2 := (hb3.block (w.heap.size + 2) (by omega)).trans hC2.out
          have D3 := (hb3.block (w.heap.size + 3) (by omega)).trans hC3.out
          have D4 := (hb3.block (w.heap.size + 4) (by omega)).trans hC4.out
          have own3 : W3.ownsRow (w.heap.size + 10) 9 1 v ns.length (ns.map Value.string) := own_same hown (fun k _ hk => hb3.block k hk)
          clear k00 k01 k1 k2 k30 k31 k4 f00 f01 f1 f2 f30 f31 f4 hck2
          have k00 : W3.cell? ⟨w.heap.size, 0, none⟩ = some (.slice none 0 0) := heap_cells D0 0 _ rfl
          have k01 : W3.cell? ⟨w.heap.size, 1, none⟩ = some (.bool false) := heap_cells D0 1 _ rfl
          have k1 : W3.cell? ⟨w.heap.size + 1, 0, none⟩ = some (.int .i64 0) := heap_cells D1 0 _ rfl
          have k2 : W3.cell? ⟨w.heap.size + 1 + 1, 0, none⟩ = some (.int .i64 0) := heap_cells D2 0 _ rfl
          have k30 : W3.cell? ⟨w.heap.size + 1 + 1 + 1, 0, none⟩ = some v := heap_cells D3 0 _ rfl
          have k31 : W3.cell? ⟨w.heap.size + 1 + 1 + 1, 1, none⟩ = some (.bool d) := heap_cells D3 1 _ rfl
          have k4 : W3.cell? ⟨w.heap.size + 1 + 1 + 1 + 1, 0, none⟩ = some (.int .i64 at_) := heap_cells D4 0 _ rfl
          have f00 : W3.frozen? ⟨w.heap.size, 0, none⟩ = false := heap_frozen D0 0
          have f01 : W3.frozen? ⟨w.heap.size, 1, none⟩ = false := heap_frozen D0 1
          have f1 : W3.frozen? ⟨w.heap.size + 1, 0, none⟩ = false := heap_frozen D1 0
          have f2 : W3.frozen? ⟨w.heap.size + 1 + 1, 0, none⟩ = false := heap_frozen D2 0
          have f30 : W3.frozen? ⟨w.heap.size + 1 + 1 + 1, 0, none⟩ = false := heap_frozen D3 0
          have f31 : W3.frozen? ⟨w.heap.size + 1 + 1 + 1, 1, none⟩ = false := heap_frozen D3 1
          have f4 : W3.frozen? ⟨w.heap.size + 1 + 1 + 1 + 1, 0, none⟩ = false := heap_frozen D4 0
          have E0 := Lib.hid D0
          have E11 := Lib.hid D1
          have E22 := Lib.hid D2
          have E33 := Lib.hid D3
          have E44 := Lib.hid D4
          clear D0 D1 D2 D3 D4
          by_cases her : er = 0
          · have hne : (er != 0) = false := by rw [her]; rfl
            have HE := Lib.hid her
            clear her
            have hgW : W.heap.size ≤ W3.heap.size := hb3.size
            have own4 : (W3.setCell ⟨w.heap.size + 1 + 1 + 1, 1, none⟩ (.bool false)).ownsRow (w.heap.size + 10) 9 1 v ns.length (ns.map Value.string) := own_same own3 (fun k hk _ => Below.heap_setCell _ _ _ k (by simp; omega))
            rcases own3.2 with ⟨rfl, hn⟩ | ⟨g, cap, cur, rfl, hg, hh, hcap, hmax, hcur, htake⟩
            · have h32 : ((ns.length : Int) == 32) = false := by rw [beq_eq_false_iff_ne]; omega
              have h32' : ((0 : Int) == 32) = false := rfl
              obtain rfl : ns = [] := List.eq_nil_of_length_eq_zero hn
              gi_wp2_with (gi_at_builtin; refine wpListIn_append_own _ rfl _ _ 38 rfl (w.heap.size + 10) 9 i0 (.string ⟨#[]⟩) 1 16 Tryz.underlying38 hi hz0 hz1 hz2 rfl (by decide) _ _ _ rfl (own4.alloc _) ⟨W3.heap.size, 0, none⟩ 1 1 [.string x] rfl rfl (cell_one_at _ _ (by rw [setCell_size]) _ _) (by simp [Value.oneCell']) (by unfold maxLen; decide) (by decide) (by rw [World.size_alloc, setCell_size]; omega) ?_; intro v' w1 hown' hgrow _; obtain ⟨g', cap', rfl⟩ := ownsRow_succ hown'; have hA := after_append E33.out E44.out own3 hgrow (by omega); have m30 := heap_cells hA.1 0 _ rfl; have m31 := heap_cells hA.1 1 _ rfl; have m4 := heap_cells hA.2 0 _ rfl; have q30 := heap_frozen hA.1 0; have q31 := heap_frozen hA.1 1; have q4 := heap_frozen hA.2 0)
              rw [hsz]
              exact round_append E0.out E11.out E22.out E33.out E44.out own3 hgrow hown' hb3 hown hbel hg0 (by rw [HQ.out, if_neg (by rw [HE.out]; decide), if_neg (by decide)])
            · have hgg : w.heap.size + 1 + 1 + 1 ≠ g := by omega
              by_cases hl : ns.length = 32
              · have h32 : ((ns.length : Int) == 32) = true := by rw [beq_iff_eq]; omega
                have HL := Lib.hid hl
                clear hl
                gi_wp2
                gi_region
                all_goals gi_wp2
                all_goals (rw [hsz]; obtain ⟨q1, q2⟩ := round_err E0.out E11.out E22.out hb3 hbel hg0 (by rw [HQ.out, if_neg (by rw [HE.out]; decide), if_pos HL.out]); exact ⟨q1, hok, q2⟩)
              · have h32 : ((ns.length : Int) == 32) = false := by rw [beq_eq_false_iff_ne]; omega
                have HL := Lib.hid hl
                clear hl
                gi_wp2_with (gi_at_builtin; refine wpListIn_append_own _ rfl _ _ 38 rfl (w.heap.size + 10) 9 i0 (.string ⟨#[]⟩) 1 16 Tryz.underlying38 hi hz0 hz1 hz2 rfl (by decide) _ _ _ rfl (own4.alloc _) ⟨W3.heap.size, 0, none⟩ 1 1 [.string x] rfl rfl (cell_one_at _ _ (by rw [setCell_size]) _ _) (by simp [Value.oneCell']) (by unfold maxLen; omega) (by omega) (by rw [World.size_alloc, setCell_size]; omega) ?_; intro v' w1 hown' hgrow _; obtain ⟨g', cap', rfl⟩ := ownsRow_succ hown'; have hA := after_append E33.out E44.out own3 hgrow (by omega); have m30 := heap_cells hA.1 0 _ rfl; have m31 := heap_cells hA.1 1 _ rfl; have m4 := heap_cells hA.2 0 _ rfl; have q30 := heap_frozen hA.1 0; have q31 := heap_frozen hA.1 1; have q4 := heap_frozen hA.2 0)
                rw [hsz]
                exact round_append E0.out E11.out E22.out E33.out E44.out own3 hgrow hown' hb3 hown hbel hg0 (by rw [HQ.out, if_neg (by rw [HE.out]; decide), if_neg HL.out])
          · have hne : (er != 0) = true := by rw [bne_iff_ne]; exact her
            have HE := Lib.hid her
            clear her
            gi_wp2
            gi_region
            all_goals gi_wp2
            all_goals (rw [hsz]; obtain ⟨q1, q2⟩ := round_err E0.out E11.out E22.out hb3 hbel hg0 (by rw [HQ.out, if_pos HE.out]); exact ⟨q1, hok, q2⟩)
  case done =>
    rintro xs W rfl hi hK
    obtain ⟨ns, d, at_, v, hrun, hc0, hc1, hc2, hc3, hc4, hown, hbel⟩ := hi
    have HR : Hid (parseR s = (ns, d, 0, 0)) := by
      show parseR s = (ns, d, 0, 0)
      unfold parseR
      rw [hrun]
      rfl
    have k00 : W.cell? ⟨w.heap.size, 0, none⟩ = some (.slice none 0 0) := heap_cells hc0 0 _ rfl
    have k01 : W.cell? ⟨w.heap.size, 1, none⟩ = some (.bool false) := heap_cells hc0 1 _ rfl
    have k1 : W.cell? ⟨w.heap.size + 1, 0, none⟩ = some (.int .i64 0) := heap_cells hc1 0 _ rfl
    have k2 : W.cell? ⟨w.heap.size + 1 + 1, 0, none⟩ = some (.int .i64 0) := heap_cells hc2 0 _ rfl
    have k30 : W.cell? ⟨w.heap.size + 1 + 1 + 1, 0, none⟩ = some v := heap_cells hc3 0 _ rfl
    have k31 : W.cell? ⟨w.heap.size + 1 + 1 + 1, 1, none⟩ = some (.bool d) := heap_cells hc3 1 _ rfl
    have f00 : W.frozen? ⟨w.heap.size, 0, none⟩ = false := heap_frozen hc0 0
    have f01 : W.frozen? ⟨w.heap.size, 1, none⟩ = false := heap_frozen hc0 1
    have f1 : W.frozen? ⟨w.heap.size + 1, 0, none⟩ = false := heap_frozen hc1 0
    have f2 : W.frozen? ⟨w.heap.size + 1 + 1, 0, none⟩ = false := heap_frozen hc2 0
    obtain ⟨va, vl, vc, rfl⟩ : ∃ a l c, v = .slice a l c := by rcases hown.2 with ⟨rfl, _⟩ | ⟨g, cap, cur, rfl, _⟩ <;> exact ⟨_, _, _, rfl⟩
    gi_wp2
    obtain ⟨W2, hW2⟩ : ∃ W2, ((((W.setCell ⟨w.heap.size, 0, none⟩ (.slice va vl vc)).setCell ⟨w.heap.size, 1, none⟩ (.bool d)).setCell ⟨w.heap.size + 1, 0, none⟩ (.int .i64 0)).setCell ⟨w.heap.size + 1 + 1, 0, none⟩ (.int .i64 0)) = W2 := ⟨_, rfl⟩
    rw [hW2]
    have hs : ∀ k, k ≠ w.heap.size → k ≠ w.heap.size + 1 → k ≠ w.heap.size + 2 → W2.heap[k]? = W.heap[k]? := fun k h0 h1 h2 => by
      rw [← hW2]
      exact (Below.heap_setCell _ _ _ k (by simpa using h2)).trans ((Below.heap_setCell _ _ _ k (by simpa using h1)).trans ((Below.heap_setCell _ _ _ k (by simpa using h0)).trans (Below.heap_setCell _ _ _ k (by simpa using h0))))
    have hbb : Below w.heap.size W W2 := by
      rw [← hW2]
      exact (((((Below.refl _ _).setCell (by simp) _).setCell (by simp) _).setCell (by simp) _).setCell (by dsimp only; omega) _)
    have g0 : W2.heap[w.heap.size]? = some (.cells #[.slice va vl vc, .bool d] 166 (0, 0)) := by
      rw [← hW2]
      exact (Below.heap_setCell _ _ _ _ (by dsimp only; omega)).trans ((Below.heap_setCell _ _ _ _ (by dsimp only; omega)).trans (set_heap _ (set_heap _ hc0)))
    have g1 : W2.heap[w.heap.size + 1]? = some (.cells #[.int .i64 0] 3 (0, 0)) := by
      rw [← hW2]
      exact (Below.heap_setCell _ _ _ _ (by dsimp only; omega)).trans (set_heap _ ((Below.heap_setCell _ _ _ _ (by dsimp only; omega)).trans ((Below.heap_setCell _ _ _ _ (by dsimp only; omega)).trans hc1)))
    have g2 : W2.heap[w.heap.size + 1 + 1]? = some (.cells #[.int .i64 0] 25 (0, 0)) := by
      rw [← hW2]
      exact set_heap _ ((Below.heap_setCell _ _ _ _ (by dsimp only; omega)).trans ((Below.heap_setCell _ _ _ _ (by dsimp only; omega)).trans ((Below.heap_setCell _ _ _ _ (by dsimp only; omega)).trans hc2)))
    have hK2 : W2.heap[W0.heap.size]? = some (.deferred (some [])) := (hs _ (by omega) (by omega) (by omega)).trans hK
    have own2 : W2.ownsRow (w.heap.size + 10) 9 1 (.slice va vl vc) ns.length (ns.map Value.string) := own_same hown (fun k hk _ => hs k (by omega) (by omega) (by omega))
    clear hW2 hs k00 k01 k1 k2 k30 k31 f00 f01 f1 f2
    refine ⟨by simp, .inl ⟨_, _, rfl, run_takeDeferred hK2, ?_⟩⟩
    refine ⟨_, res17 (W := W2.putObj W0.heap.size (.deferred none)) rfl rfl rfl ((World.putObj_heap_other (by omega)).trans g0) ((World.putObj_heap_other (by omega)).trans g1) ((World.putObj_heap_other (by omega)).trans g2), ?_⟩
    rw [HR.out]
    exact ⟨_, rfl, own_base (ownsRow_putObj own2 _ hK2 rfl) (by omega), (hbel.trans hbb).trans (below_putObj _ (by omega))⟩
  case stop =>
    rintro c pre W ⟨hpre, hx⟩ hK
    obtain ⟨rfl, at_, er, hrun, hc0, hc1, hc2, hbel⟩ := hx
    have HR : parseR s = ([], false, at_, er) := by
      obtain ⟨rest, hrest⟩ := hpre
      unfold parseR
      rw [← hrest, runP_err hrun rest]
      rfl
    gi_wp2
    refine ⟨by simp, .inl ⟨_, _, rfl, run_takeDeferred hK, ?_⟩⟩
    refine ⟨_, res17 (W := W.putObj W0.heap.size (.deferred none)) rfl rfl rfl ((World.putObj_heap_other (by omega)).trans hc0) ((World.putObj_heap_other (by omega)).trans hc1) ((World.putObj_heap_other (by omega)).trans hc2), ?_⟩
    rw [HR]
    exact ⟨_, rfl, World.ownsRow_nil _ _ _ _, hbel.trans (below_putObj _ (by omega))⟩

end Go.Proofs.YtoehfadjpficiaaGreatDoor

namespace Go.Proofs.YtoehfadjpficiaaGreatDoor
open Go.RowKit Go.Shelf

set_option maxRecDepth 100000 in
set_option maxHeartbeats 4000000 in
theorem parse_long (s : ByteArray) (w : World) (h : 1024 < s.size) : Calls Tryz.prog 94 #[.string s] w (parsePost w ([], false, 1024, 181)) := by
  have hd : decide ((1024 : Int) < (s.size : Int)) = true := decide_eq_true (by omega)
  go_enter Tryz.func94, Tryz.ntmps94
  go_wp2
  refine bodyPost_ret (v := .tuple #[.agg #[.slice none 0 0, .bool false], .int .i64 1024, .int .i64 181]) (by simp [results, Tryz.results94, go_sem]) rfl ⟨_, rfl, World.ownsRow_nil _ _ _ _, ?_⟩
  exact (((Below.refl _ _).alloc (Nat.le_refl _) _).alloc (by simp) _).alloc (by simp; omega) _

set_option maxRecDepth 100000 in
set_option maxHeartbeats 4000000 in
theorem parse_empty (s : ByteArray) (w : World) (h : s.size ≤ 1024) (h0 : s.toList.isEmpty = true) : Calls Tryz.prog 94 #[.string s] w (parsePost w ([], false, 0, 180)) := by
  have hd : decide ((1024 : Int) < (s.size : Int)) = false := decide_eq_false (by omega)
  go_enter Tryz.func94, Tryz.ntmps94
  go_wp2
  refine bodyPost_ret (v := .tuple #[.agg #[.slice none 0 0, .bool false], .int .i64 0, .int .i64 180]) (by simp [results, Tryz.results94, go_sem]) rfl ⟨_, rfl, World.ownsRow_nil _ _ _ _, ?_⟩
  exact (((Below.refl _ _).alloc (Nat.le_refl _) _).alloc (by simp) _).alloc (by simp; omega) _

set_option maxRecDepth 100000 in
set_option maxHeartbeats 4000000 in
theorem parse_other (s : ByteArray) (w : World) (h : s.size ≤ 1024) (h0 : s.toList.isEmpty = false) (hp : 0 < s.size) (h47 : (((s[0]'hp).toNat : Int) != 47) = true) : Calls Tryz.prog 94 #[.string s] w (parsePost w ([], false, 0, 180)) := by
  have hd : decide ((1024 : Int) < (s.size : Int)) = false := decide_eq_false (by omega)
  go_enter Tryz.func94, Tryz.ntmps94
  go_wp2
  refine bodyPost_ret (v := .tuple #[.agg #[.slice none 0 0, .bool false], .int .i64 0, .int .i64 180]) (by simp [results, Tryz.results94, go_sem]) rfl ⟨_, rfl, World.ownsRow_nil _ _ _ _, ?_⟩
  exact (((Below.refl _ _).alloc (Nat.le_refl _) _).alloc (by simp) _).alloc (by simp; omega) _

/-- What path.Parse answers. -/
def parseA (s : ByteArray) : List ByteArray × Bool × Int × Int :=
  if 1024 < s.size then ([], false, 1024, 181) else if s.data.toList.head? = some 47 then parseR s else ([], false, 0, 180)

theorem parse_any (s : ByteArray) (w : World) : Calls Tryz.prog 94 #[.string s] w (parsePost w (parseA s)) := by
  unfold parseA
  by_cases h : 1024 < s.size
  · rw [if_pos h]; exact parse_long s w h
  · rw [if_neg h]
    cases he : s.data.toList with
    | nil =>
      rw [if_neg (by simp)]
      exact parse_empty s w (by omega) (by rw [Lib.toList_data, he]; rfl)
    | cons c l =>
      have hp : 0 < s.size := by rw [Lib.size_eq, he]; simp
      have hc : s[0]'hp = c := by
        have := Lib.data_getElem? s 0 hp
        rw [he] at this
        simpa using this.symm
      have h0 : s.toList.isEmpty = false := by rw [Lib.toList_data, he]; rfl
      by_cases hc47 : c = 47
      · subst hc47
        rw [if_pos (by simp)]
        exact parse_good s w (by omega) h0 hp (by rw [hc]; rfl)
      · rw [if_neg (by simpa using hc47)]
        refine parse_other s w (by omega) h0 hp ?_
        rw [hc, bne_iff_ne]
        intro e
        exact hc47 (UInt8.toNat_inj.1 (by simpa using Int.ofNat.inj e))

end Go.Proofs.YtoehfadjpficiaaGreatDoor

namespace Go.Proofs.YtoehfadjpficiaaGreatDoor.P
open Go.RowKit Go.Proofs.YtoehfadjpficiaaGreatDoor Go.Proofs.YtoehfadjpficiaaGreatDoorW.PrintWords

def path_Parse.f (a0 : ByteArray) : Option (List ByteArray × Bool × Int × Int) := some (parseA a0)
theorem path_Parse.calls (a0 : ByteArray) (r1 : List ByteArray) (r2 : Bool) (r3 : Int) (r4 : Int) (w : World) (h : path_Parse.f a0 = some (r1, r2, r3, r4)) :
    Calls Tryz.prog 94 #[.string a0] w fun e w' => ∃ v0_ : Value, e = .returned (.tuple #[.agg #[v0_, .bool r2], .int .i64 r3, .int .i64 r4]) ∧ Kd.R Kd.string 9 w' w.heap.size (fun _ => True) v0_ r1 ∧ Below w.heap.size w w' := by
  have h' : parseA a0 = (r1, r2, r3, r4) := Option.some.inj h
  refine (parse_any a0 w).mono fun e w' hp => ?_
  rw [h'] at hp
  obtain ⟨v0, he, ho, hb⟩ := hp
  exact ⟨v0, he, Kd.R_of_own ho (fun _ _ => trivial), hb⟩

end Go.Proofs.YtoehfadjpficiaaGreatDoor.P
