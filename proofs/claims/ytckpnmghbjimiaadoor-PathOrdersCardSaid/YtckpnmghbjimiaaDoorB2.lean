/- strings.SplitSeq at the separator '/': its parts one by one; the iterator's contract. -/
import Derived.Test.YtckpnmghbjimiaaDoorB1
import Derived.Test.YtckpnmghbjimiaaDoorShelf
import Derived.RangeFuncLeaves
import Derived.RangeFuncNested
import Derived.Shelf.Abstract
import Derived.WalkKit
import Derived.OwnWalkIn
import Derived.TacticsInMore
import Derived.LoopNIn
import Derived.LoopIn
import Derived.Lib.Hide
import Derived.Test.YtckpnmghbjimiaaDoorProg
namespace Go.Proofs.YtckpnmghbjimiaaDoor
open Go.RowKit Go.Shelf

/-- What stands between the slashes. -/
def splitSlash : List UInt8 → List (List UInt8)
  | [] => [[]]
  | c :: l => if c = 47 then [] :: splitSlash l else match splitSlash l with
    | [] => [[c]]
    | p :: ps => (c :: p) :: ps

theorem splitSlash_ne : ∀ l, splitSlash l ≠ []
  | [] => by simp [splitSlash]
  | c :: l => by
    unfold splitSlash
    split
    · simp
    · split <;> simp

theorem split_none : ∀ l : List UInt8, Lib.indexByte l 47 < 0 → splitSlash l = [l]
  | [], _ => rfl
  | c :: l, h => by
    have hge := Lib.indexByte_ge l 47
    rw [Lib.indexByte] at h
    by_cases hc : c = 47
    · subst hc; simp at h
    · have hc' : (c == 47) = false := by simpa using hc
      rw [hc'] at h
      by_cases h1 : Lib.indexByte l 47 = -1
      · have ih := split_none l (by omega)
        rw [splitSlash, if_neg hc, ih]
      · have h1' : (Lib.indexByte l 47 == -1) = false := by simpa using h1
        rw [h1'] at h
        simp at h
        omega

theorem split_some : ∀ (l : List UInt8) (k : Nat), Lib.indexByte l 47 = k → k < l.length ∧ splitSlash l = l.take k :: splitSlash (l.drop (k + 1))
  | [], k, h => by simp [Lib.indexByte] at h
  | c :: l, k, h => by
    have hge := Lib.indexByte_ge l 47
    rw [Lib.indexByte] at h
    by_cases hc : c = 47
    · subst hc
      simp at h
      obtain rfl : k = 0 := by omega
      exact ⟨by simp, by rw [splitSlash, if_pos rfl]; simp⟩
    · have hc' : (c == 47) = false := by simpa using hc
      rw [hc'] at h
      by_cases h1 : Lib.indexByte l 47 = -1
      · simp [h1] at h
      · have h1' : (Lib.indexByte l 47 == -1) = false := by simpa using h1
        rw [h1'] at h
        simp at h
        obtain ⟨k', rfl⟩ : ∃ k', k = k' + 1 := ⟨k - 1, by omega⟩
        obtain ⟨hl, ih⟩ := split_some l k' (by omega)
        refine ⟨by simp; omega, ?_⟩
        rw [splitSlash, if_neg hc, ih]
        simp

def ofL (l : List UInt8) : ByteArray := ⟨l.toArray⟩
theorem ofL_data (s : ByteArray) : ofL s.data.toList = s := by obtain ⟨⟨l⟩⟩ := s; rfl
theorem data_ofL (l : List UInt8) : (ofL l).data.toList = l := rfl
theorem ba_ext {s t : ByteArray} (h : s.data.toList = t.data.toList) : s = t := by rw [← ofL_data s, ← ofL_data t, h]
/-- The parts of a text. -/
def parts (s : ByteArray) : List ByteArray := (splitSlash s.data.toList).map ofL

theorem parts_none (s : ByteArray) (h : Lib.indexByte s.data.toList 47 < 0) : parts s = [s] := by rw [parts, split_none _ h]; simp [ofL_data]
theorem parts_some (s : ByteArray) (k : Nat) (h : Lib.indexByte s.data.toList 47 = k) : k < s.size ∧ parts s = s.extract 0 k :: parts (s.extract (k + 1) s.size) := by
  obtain ⟨h1, h2⟩ := split_some _ k h
  rw [← Lib.size_eq] at h1
  refine ⟨h1, ?_⟩
  rw [parts, h2, parts, Lib.extract_to_end, List.map_cons]
  congr 1
  apply ba_ext
  rw [data_ofL, Lib.extract_data]
  simp

/-- How long is the text in a variable's box. -/
def boxLen (w : World) (b : Nat) : Nat := match w.cell? ⟨b, 0, none⟩ with | some (.string s) => s.size | _ => 0
theorem boxLen_of {w : World} {b : Nat} {s : ByteArray} (h : Boxed w b 9 (.string s)) : boxLen w b = s.size := by unfold boxLen; rw [h.cell]

attribute [local go_sem] Oper.semAt_some

set_option maxRecDepth 100000 in
set_option maxHeartbeats 4000000 in
theorem split1_in (n : Nat) (hn : 1 ≤ n) (l bs bp bv : Nat) (s0 : ByteArray) (hs : s0.size ≤ 9223372036854775807) (J Jx : List ByteArray → World → Prop)
    (hJ : ∀ pre A u, J pre A → J pre (A.setCell ⟨bs, 0, none⟩ (.string u))) (hne : bs ≠ bp ∧ bs ≠ bv)
    (hY : ∀ pre x W1, J pre W1 → pre ++ [x] <+: parts s0 → YieldAt Fence.wide (n - 1) Tryd.prog l #[.string x] W1 fun e W' =>
      (e = .returned (.bool true) ∧ J (pre ++ [x]) W' ∧ (W'.heap[bs]? = W1.heap[bs]? ∧ W'.heap[bp]? = W1.heap[bp]? ∧ W'.heap[bv]? = W1.heap[bv]?)) ∨ (e = .returned (.bool false) ∧ Jx (pre ++ [x]) W'))
    (W : World) (hbs : Boxed W bs 9 (.string s0)) (hbp : Boxed W bp 9 (.string ⟨#[47]⟩)) (hbv : Boxed W bv 3 (.int .i64 0)) (h0 : J [] W) :
    CallsIn Fence.wide n Tryd.prog 64 #[.func (.yield l) #[] #[], .pointer (some ⟨bp, 0, none⟩), .pointer (some ⟨bs, 0, none⟩), .pointer (some ⟨bv, 0, none⟩)] W fun e W' => (∃ v, e = .returned v) ∧
      ((∃ xs, xs = parts s0 ∧ J xs W') ∨ (∃ pre, Jx pre W')) := by
  refine callsIn_of_wp Tryd.func64 rfl trivial ?_ rfl
  simp only [Tryd.ntmps64, List.size_toArray, List.length_cons, List.length_nil, Nat.reduceAdd, Nat.reduceSub, Array.replicate_succ, Array.replicate_zero, List.push_toArray, List.append_toArray, List.nil_append, List.cons_append]
  have hcp := hbp.cell
  have hcs := hbs.cell
  gi_wp2
  gi_loopw [] (fun wr => ∃ (pre : List ByteArray) (r : ByteArray), Hid (parts s0 = pre ++ parts r) ∧ r.size ≤ 9223372036854775807 ∧ Boxed wr bs 9 (.string r) ∧ Boxed wr bp 9 (.string ⟨#[47]⟩) ∧ Boxed wr bv 3 (.int .i64 0) ∧ J pre wr) (fun wr => boxLen wr bs)
  case atStart => exact ⟨[], s0, rfl, hs, hbs, hbp, hbv, h0⟩
  case round =>
    obtain ⟨pre, r, hpr, hrs, hbs, hbp, hbv, hj⟩ := hrel
    clear hcp hcs h0
    have hcp := hbp.cell
    have hcs := hbs.cell
    have hcv := hbv.cell
    have hfs := hbs.frozen
    have hge := Lib.indexByte_ge r.data.toList 47
    by_cases hlt : Lib.indexByte r.data.toList 47 < 0
    · have hlast := parts_none r hlt
      have hok : pre ++ [r] = parts s0 := by rw [hpr, hlast]
      obtain ⟨fn, tmps, assign, body, hy, hR⟩ := hY pre r wr hj (by rw [hok]; exact List.prefix_refl _)
      have HO := Lib.hid hok
      clear hok hlast
      gi_wp2_with (refine ⟨trivial, ?_⟩; gi_at_call 66; refine (callsIn_wide.2 (Tryd.strings_Index_one r 47 _)).mono ?_; rintro e w' ⟨rfl, rfl⟩)
      refine hR.mono ?_
      rintro e W3 (⟨rfl, hJ3, -⟩ | ⟨rfl, hJx3⟩)
      · gi_wp2
        go_end0
        exact ⟨⟨_, rfl⟩, .inl ⟨_, HO.out, hJ3⟩⟩
      · gi_wp2
        go_end0
        exact ⟨⟨_, rfl⟩, .inr ⟨_, hJx3⟩⟩
    · obtain ⟨k, hk⟩ : ∃ k : Nat, Lib.indexByte r.data.toList 47 = (k : Int) := ⟨(Lib.indexByte r.data.toList 47).toNat, by omega⟩
      obtain ⟨hkl, hps⟩ := parts_some r k hk
      have hok : parts s0 = (pre ++ [r.extract 0 k]) ++ parts (r.extract (k + 1) r.size) := by rw [hpr, hps]; simp
      obtain ⟨fn, tmps, assign, body, hy, hR⟩ := hY pre (r.extract 0 k) wr hj (by rw [hok]; exact List.prefix_append _ _)
      have HO := Lib.hid hok
      have hsz : (r.extract (k + 1) r.size).size = r.size - (k + 1) := by simp
      have HS := Lib.hid hsz
      have hbl := Lib.hid (boxLen_of hbs)
      clear hok hps hsz hpr
      gi_wp2_with (refine ⟨trivial, ?_⟩; gi_at_call 66; refine (callsIn_wide.2 (Tryd.strings_Index_one r 47 _)).mono ?_; rintro e w' ⟨rfl, rfl⟩; rw [hk])
      refine hR.mono ?_
      rintro e W3 (⟨rfl, hJ3, he1, he2, he3⟩ | ⟨rfl, hJx3⟩)
      · have b1 : Boxed W3 bs 9 (.string r) := he1.trans hbs
        have b2 : Boxed W3 bp 9 (.string ⟨#[47]⟩) := he2.trans hbp
        have b3 : Boxed W3 bv 3 (.int .i64 0) := he3.trans hbv
        clear hbs hbp hbv hcp hcs hcv hfs he1 he2 he3 hy hR hY
        have hcp := b2.cell
        have hcs := b1.cell
        have hfs := b1.frozen
        gi_wp2
        go_roundw
        case rel => exact ⟨pre ++ [r.extract 0 k], r.extract (k + 1) r.size, HO.out, by rw [HS.out]; omega, b1.set _, b2.other (Ne.symm hne.1) _, b3.other (Ne.symm hne.2) _, hJ _ _ _ hJ3⟩
        case measure => rw [boxLen_of (b1.set _), hbl.out, HS.out]; omega
      · gi_wp2
        refine bodyPost_ret (results_none rfl _ _ _) rfl ?_
        exact ⟨⟨_, rfl⟩, .inr ⟨_, hJx3⟩⟩

/-- The world with the iterator's three boxes. -/
def splitWorld (w : World) (s : ByteArray) : World := ((w.alloc (.cells #[.string s] 9)).alloc (.cells #[.string ⟨#[47]⟩] 9)).alloc (.cells #[.int .i64 0] 3)

set_option maxRecDepth 100000 in
set_option maxHeartbeats 2000000 in
theorem splitSeq_any (s : ByteArray) (w : World) :
    Calls Tryd.prog 52 #[.string s, .string ⟨#[47]⟩, .int .i64 0] w fun e w' => e = .returned (.func (.func 64) #[] #[.pointer (some ⟨w.heap.size + 1, 0, none⟩), .pointer (some ⟨w.heap.size, 0, none⟩), .pointer (some ⟨w.heap.size + 1 + 1, 0, none⟩)]) ∧ w' = splitWorld w s := by
  go_enter Tryd.func52, Tryd.ntmps52
  go_wp2
  go_ret
  exact ⟨rfl, rfl⟩

set_option maxRecDepth 100000 in
set_option maxHeartbeats 2000000 in
theorem SplitSeq_any (s : ByteArray) (w : World) :
    Calls Tryd.prog 38 #[.string s, .string ⟨#[47]⟩] w fun e w' => e = .returned (.func (.func 64) #[] #[.pointer (some ⟨w.heap.size + 1, 0, none⟩), .pointer (some ⟨w.heap.size, 0, none⟩), .pointer (some ⟨w.heap.size + 1 + 1, 0, none⟩)]) ∧ w' = splitWorld w s := by
  go_enter Tryd.func38, Tryd.ntmps38
  go_wp2_with (go_at_call 52; refine (splitSeq_any s _).mono ?_; rintro e w' ⟨rfl, rfl⟩)
  go_ret
  exact ⟨rfl, rfl⟩

end Go.Proofs.YtckpnmghbjimiaaDoor
