/- strings.IndexRune of a rune beyond ASCII in the two bytes 0 and '/': -1. -/
import Derived.Test.YtoehfadjpficiaaGreatDoorProg
import Derived.Test.YtoehfadjpficiaaGreatDoorShelf
import Derived.WalkKit
import Derived.Deep.LoopGhost
import Derived.Laws.RangeString
import Derived.Lib.OthersKept
import Derived.Deep.QuietTactic
import Derived.BigQuiet
import Derived.Outline
import Derived.Lib.DecodeN
import Derived.Lib.TrimU
import Derived.Lib.Hide
import Derived.Lib.FieldsU
import Derived.Test.YtoehfadjpficiaaGreatDoorWWords

namespace Go.Proofs.YtoehfadjpficiaaGreatDoor
open Go.RowKit

theorem quiet_add_same {P : Program} {f : FuncId} {args : Array Value} {w : World} {a n : Nat} {v : Value}
    (h : Calls P f args (w.drewN (a + n)) fun e w' => e = .returned v ∧ w' = w.drewN (a + n)) :
    Calls P f args (w.drewN (a + n)) fun e w'' => e = .returned v ∧ ∃ m, w'' = w.drewN (a + m) :=
  h.mono fun _ _ ⟨he, hm⟩ => ⟨he, n, hm⟩

set_option maxRecDepth 100000 in
set_option maxHeartbeats 2000000 in
theorem ir_bad (r : Int) (w : World) (h1 : 128 ≤ r) (h3 : (r == 65533) = false) (h2 : Lib.validRune r = false) :
    Calls Tryz.prog 169 #[.string ⟨#[0, 47]⟩, .int .i32 r] w fun e w' => e = .returned (.int .i64 (-1)) ∧ w' = w := by
  have hd0 : decide (0 ≤ r) = true := decide_eq_true (by omega)
  have hd1 : decide (r < 128) = false := decide_eq_false (by omega)
  go_enter Tryz.func169, Tryz.ntmps169
  go_wp2_with fail
  refine (Tryz.utf8_ValidRune _ _).mono ?_
  rintro e w' ⟨rfl, rfl⟩
  rw [h2]
  go_wp2
  go_ret
  exact ⟨rfl, rfl⟩

set_option maxRecDepth 100000 in
set_option maxHeartbeats 2000000 in
theorem ir_err (w : World) :
    Calls Tryz.prog 169 #[.string ⟨#[0, 47]⟩, .int .i32 65533] w fun e w' => e = .returned (.int .i64 (-1)) ∧ w' = w.iter ⟨#[0, 47]⟩ 2 := by
  go_enter Tryz.func169, Tryz.ntmps169
  go_wp2
  go_loopg [5, 6] 2 (fun g _ _ wx => ∃ i : Nat, i + g = 2 ∧ wx = w.iter ⟨#[0, 47]⟩ i)
  case atStart => exact ⟨0, by omega, rfl⟩
  case round =>
    obtain ⟨i, hig, rfl⟩ := hrel
    cases gk with
    | zero =>
      obtain rfl : i = 2 := by omega
      have hnx := fun ty => run_next_end (P := Tryz.prog) w ⟨#[0, 47]⟩ 2 ty (by decide)
      go_wp2
      go_ret
      exact ⟨rfl, rfl⟩
    | succ g =>
      rcases (by omega : i = 0 ∨ i = 1) with rfl | rfl
      · have hnx := fun ty => run_next_ascii (P := Tryz.prog) w ⟨#[0, 47]⟩ 0 ty (by decide) (by decide)
        go_wp2
        go_roundg g
        case measure => omega
        case rel => exact ⟨1, by omega, rfl⟩
      · have hnx := fun ty => run_next_ascii (P := Tryz.prog) w ⟨#[0, 47]⟩ 1 ty (by decide) (by decide)
        go_wp2
        go_roundg g
        case measure => omega
        case rel => exact ⟨2, by omega, rfl⟩


theorem enc2 (r : Int) (h1 : 128 ≤ r) (h2 : r ≤ 2047) : Utf8.encode r = ⟨#[UInt8.ofNat (0xC0 + r.toNat / 64), UInt8.ofNat (0x80 + r.toNat % 64)]⟩ := by
  have hv : Utf8.valid r = true := by unfold Utf8.valid; simp; omega
  unfold Utf8.encode
  simp only [hv, if_true]
  rw [if_neg (by omega), if_pos (by omega)]
theorem enc3 (r : Int) (h1 : 2048 ≤ r) (h2 : r ≤ 65535) (hv : Utf8.valid r = true) : ∃ a b c, Utf8.encode r = ⟨#[a, b, c]⟩ := by
  unfold Utf8.encode
  simp only [hv, if_true]
  rw [if_neg (by omega), if_neg (by omega), if_pos (by omega)]
  exact ⟨_, _, _, rfl⟩
theorem enc4 (r : Int) (h1 : 65536 ≤ r) (hv : Utf8.valid r = true) : ∃ a b c d, Utf8.encode r = ⟨#[a, b, c, d]⟩ := by
  unfold Utf8.encode
  simp only [hv, if_true]
  rw [if_neg (by omega), if_neg (by omega), if_neg (by omega)]
  exact ⟨_, _, _, _, rfl⟩

set_option maxRecDepth 100000 in
set_option maxHeartbeats 2000000 in
theorem ir_three (r : Int) (w : World) (h1 : 128 ≤ r) (h3 : (r == 65533) = false) (h2 : Lib.validRune r = true) (a b c : UInt8) (he : Utf8.encode r = ⟨#[a, b, c]⟩) :
    Calls Tryz.prog 169 #[.string ⟨#[0, 47]⟩, .int .i32 r] w fun e w' => e = .returned (.int .i64 (-1)) ∧ w' = w := by
  have hd0 : decide (0 ≤ r) = true := decide_eq_true (by omega)
  have hd1 : decide (r < 128) = false := decide_eq_false (by omega)
  go_enter Tryz.func169, Tryz.ntmps169
  go_wp2_with (go_at_call 200; refine (Tryz.utf8_ValidRune _ _).mono ?_; rintro e w' ⟨rfl, rfl⟩; rw [h2])
  go_step3
  go_wp2
  refine wp_loop_rounds 1 ?_
  rw [rounds_succ]
  go_wp2
  (try rw [Exit.noGoto_ret])
  go_ret
  exact ⟨rfl, rfl⟩

set_option maxRecDepth 100000 in
set_option maxHeartbeats 2000000 in
theorem ir_four (r : Int) (w : World) (h1 : 128 ≤ r) (h3 : (r == 65533) = false) (h2 : Lib.validRune r = true) (a b c d : UInt8) (he : Utf8.encode r = ⟨#[a, b, c, d]⟩) :
    Calls Tryz.prog 169 #[.string ⟨#[0, 47]⟩, .int .i32 r] w fun e w' => e = .returned (.int .i64 (-1)) ∧ w' = w := by
  have hd0 : decide (0 ≤ r) = true := decide_eq_true (by omega)
  have hd1 : decide (r < 128) = false := decide_eq_false (by omega)
  go_enter Tryz.func169, Tryz.ntmps169
  go_wp2_with (go_at_call 200; refine (Tryz.utf8_ValidRune _ _).mono ?_; rintro e w' ⟨rfl, rfl⟩; rw [h2])
  go_step3
  go_wp2
  refine wp_loop_rounds 1 ?_
  rw [rounds_succ]
  go_wp2
  (try rw [Exit.noGoto_ret])
  go_ret
  exact ⟨rfl, rfl⟩


set_option maxRecDepth 100000 in
set_option maxHeartbeats 2000000 in
theorem ir_two (r : Int) (w : World) (h1 : 128 ≤ r) (h3 : (r == 65533) = false) (h2 : Lib.validRune r = true) (a b : UInt8) (he : Utf8.encode r = ⟨#[a, b]⟩) (hb : (((({ data := #[0, 47] } : ByteArray)[1]'(by decide)).toNat : Int) != ((({ data := #[a, b] } : ByteArray)[1]'(by show 1 < 2; omega)).toNat : Int)) = true) :
    Calls Tryz.prog 169 #[.string ⟨#[0, 47]⟩, .int .i32 r] w fun e w' => e = .returned (.int .i64 (-1)) ∧ ∃ n, w' = w.drewN n := by
  have hd0 : decide (0 ≤ r) = true := decide_eq_true (by omega)
  have hd1 : decide (r < 128) = false := decide_eq_false (by omega)
  go_enter Tryz.func169, Tryz.ntmps169
  go_wp2_with (go_at_call 200; refine (Tryz.utf8_ValidRune _ _).mono ?_; rintro e w' ⟨rfl, rfl⟩; rw [h2])
  go_step3
  go_wp2
  refine wp_loop_rounds 1 ?_
  rw [rounds_succ]
  go_wp2
  go_step3
  go_wp2
  go_quiet (fail)
  go_wp2
  go_quiet ((go_at_call 199; exact quiet_add_same (Tryz.strings_IndexByte _ _ _)))
  go_wp2
  · rw [Exit.noGoto_ret]
    go_wp2
    rw [Exit.noGoto_ret]
    go_ret
    exact ⟨rfl, _, rfl⟩

theorem iter_below (w : World) (s : ByteArray) (n : Nat) : Below w.heap.size w (w.iter s n) := (Below.refl _ _).alloc (Nat.le_refl _) _
theorem pbelow_drewN {B : Nat} {a w : World} (h : Below B a w) (n : Nat) : Below B a (w.drewN n) := ⟨h.os, h.tape, h.output, h.size, h.block⟩

/-- Every rune beyond ASCII. -/
theorem ir_any (r : Int) (w : World) (h1 : 128 ≤ r) (h2 : r ≤ 1114111) :
    Calls Tryz.prog 169 #[.string ⟨#[0, 47]⟩, .int .i32 r] w fun e w' => e = .returned (.int .i64 (-1)) ∧ Below w.heap.size w w' := by
  by_cases h3 : r = 65533
  · subst h3
    exact (ir_err w).mono fun e w' ⟨he, hw⟩ => ⟨he, by rw [hw]; exact iter_below _ _ _⟩
  · have h3' : (r == 65533) = false := beq_eq_false_iff_ne.2 h3
    cases hv : Lib.validRune r with
    | false => exact (ir_bad r w h1 h3' hv).mono fun e w' ⟨he, hw⟩ => ⟨he, by rw [hw]; exact Below.refl _ _⟩
    | true =>
      have hv2 : Utf8.valid r = true := by
        unfold Lib.validRune at hv
        unfold Utf8.valid
        simp at hv ⊢
        omega
      by_cases ha : r ≤ 2047
      · refine (ir_two r w h1 h3' hv _ _ (enc2 r h1 ha) ?_).mono fun e w' ⟨he, n, hw⟩ => ⟨he, by rw [hw]; exact pbelow_drewN (Below.refl _ _) n⟩
        rw [bne_iff_ne]
        show (47 : Int) ≠ ((UInt8.ofNat (0x80 + r.toNat % 64)).toNat : Int)
        rw [UInt8.toNat_ofNat']
        omega
      · by_cases hb : r ≤ 65535
        · obtain ⟨a, b, c, he⟩ := enc3 r (by omega) hb hv2
          exact (ir_three r w h1 h3' hv a b c he).mono fun e w' ⟨he, hw⟩ => ⟨he, by rw [hw]; exact Below.refl _ _⟩
        · obtain ⟨a, b, c, d, he⟩ := enc4 r (by omega) hv2
          exact (ir_four r w h1 h3' hv a b c d he).mono fun e w' ⟨he, hw⟩ => ⟨he, by rw [hw]; exact Below.refl _ _⟩


end Go.Proofs.YtoehfadjpficiaaGreatDoor

namespace Go.Proofs.YtoehfadjpficiaaGreatDoor
open Go.RowKit

set_option maxHeartbeats 2000000 in
theorem dec_high (n b0 b1 b2 b3 : Nat) (h0 : 128 ≤ b0) (h1 : b0 < 256) : 128 ≤ (Lib.decodeN n b0 b1 b2 b3).1 ∧
    (∀ j, j < (Lib.decodeN n b0 b1 b2 b3).2 → (j = 0) ∨ (j = 1 ∧ 128 ≤ b1) ∨ (j = 2 ∧ 128 ≤ b2) ∨ (j = 3 ∧ 128 ≤ b3)) := by
  unfold Lib.decodeN
  repeat' split
  all_goals (refine ⟨by simp only; omega, fun j hj => ?_⟩; simp only at hj; omega)

theorem get_at (s : ByteArray) (j : Nat) (x : UInt8) (h : s.data.toList[j]? = some x) : s.get! j = x := by
  have hj : j < s.data.toList.length := (List.getElem?_eq_some_iff.1 h).1
  have e := (List.getElem?_eq_some_iff.1 h).2
  have hj' : j < s.data.size := by simpa using hj
  rw [← e]
  show s.data[j]! = s.data[j]
  exact getElem!_pos s.data j hj'

theorem dec_at_high (s : ByteArray) (i : Nat) (h0 : 128 ≤ (s.get! i).toNat) : 128 ≤ (Utf8.decode s i).1 ∧ ∀ j x, i ≤ j → j < i + (Utf8.decode s i).2 → s.data.toList[j]? = some x → 128 ≤ x.toNat := by
  have h := dec_high (s.size - i) (s.get! i).toNat (s.get! (i + 1)).toNat (s.get! (i + 2)).toNat (s.get! (i + 3)).toNat h0 (UInt8.toNat_lt _)
  rw [← Lib.decode_at] at h
  refine ⟨h.1, fun j x hij hj hx => ?_⟩
  have hg := get_at s j x hx
  rcases h.2 (j - i) (by omega) with e | ⟨e, hb⟩ | ⟨e, hb⟩ | ⟨e, hb⟩
  · obtain rfl : j = i := by omega
    rw [← hg]; exact h0
  · obtain rfl : j = i + 1 := by omega
    rw [← hg]; exact hb
  · obtain rfl : j = i + 2 := by omega
    rw [← hg]; exact hb
  · obtain rfl : j = i + 3 := by omega
    rw [← hg]; exact hb

theorem high_not (x : UInt8) (h : 128 ≤ x.toNat) : ([0, 47] : List UInt8).contains x = false := by
  have h1 : x ≠ 0 := fun e => by subst e; exact absurd h (by decide)
  have h2 : x ≠ 47 := fun e => by subst e; exact absurd h (by decide)
  simp [h1, h2]

theorem noAny_more {s : ByteArray} {i k : Nat} (h : Lib.NoAny s.data.toList [0, 47] i) (h2 : ∀ j x, i ≤ j → j < i + k → s.data.toList[j]? = some x → 128 ≤ x.toNat) : Lib.NoAny s.data.toList [0, 47] (i + k) := fun j b hj hb => by
  by_cases hlt : j < i
  · exact h j b hlt hb
  · exact high_not b (h2 j b (by omega) hj hb)

theorem ir_ascii (r : Int) (w : World) (h0 : 0 ≤ r) (h1 : r < 128) :
    Calls Tryz.prog 169 #[.string ⟨#[0, 47]⟩, .int .i32 r] w fun e w' => e = .returned (.int .i64 (Lib.indexByte [0, 47] r.toNat.toUInt8)) ∧ w' = w := Tryz.strings_IndexRune_ascii ⟨#[0, 47]⟩ r w h0 h1

set_option maxHeartbeats 4000000 in
set_option maxRecDepth 100000 in
theorem indexAny_short (s : ByteArray) (w : World) (h8 : s.size ≤ 8) :
    Calls Tryz.prog 141 #[.string s, .string ⟨#[0, 47]⟩] w fun e w' => e = .returned (.int .i64 (Lib.indexAny s.data.toList [0, 47])) ∧ Below w.heap.size w w' := by
  have h8z : decide ((8 : Int) < (s.size : Int)) = false := decide_eq_false (by omega)
  go_enter Tryz.func141, Tryz.ntmps141
  go_wp2_with (go_at_call 170; refine (Tryz.strings_shouldUseASCIISet _ _).mono ?_; rintro e w' ⟨rfl, hw⟩; rw [hw, h8z])
  go_loopg [9, 10] s.size (fun g _ _ wx => ∃ i : Nat, s.size ≤ i + g ∧ i ≤ s.size ∧ wx.heap[w.heap.size]? = some (.stringIter s i) ∧ Below w.heap.size w wx ∧ Lib.NoAny s.data.toList [0, 47] i)
  case atStart => exact ⟨0, by omega, Nat.zero_le _, World.iter_heap _ _ _, iter_below _ _ _, Lib.NoAny.zero _ _⟩
  case round =>
    obtain ⟨i, hig, his, hit, hbw, hno⟩ := hrel
    have HN := Lib.hid hno
    clear hno
    by_cases hlt : i < s.size
    · obtain ⟨g', rfl⟩ : ∃ g', gk = g' + 1 := ⟨gk - 1, by omega⟩
      have hnx : ∀ ty, (Instr.next (.pointer (some ⟨w.heap.size, 0, none⟩)) true ty).run Tryz.prog wr = _ := fun ty => Lib.run_next_any_at wr w.heap.size s i ty hit hlt
      have hwd := Lib.width_pos s i
      have hwn : i + (Utf8.decode s i).2 ≤ s.size := by
        have := Lib.decodeN_le_n' (s.size - i) (s.get! i).toNat (s.get! (i + 1)).toNat (s.get! (i + 2)).toNat (s.get! (i + 3)).toNat (by omega)
        rw [← Lib.decode_at] at this
        omega
      have hit2 := Lib.iterAt_heap wr w.heap.size s i (i + (Utf8.decode s i).2) hit
      have hbw2 := Lib.below_iterAt hbw (k := w.heap.size) (Nat.le_refl _) s (i + (Utf8.decode s i).2)
      have hrl := Lib.rune_le s i
      obtain ⟨x, hx⟩ : ∃ x : UInt8, s[i]'hlt = x := ⟨_, rfl⟩
      have hxl : s.data.toList[i]? = some x := by rw [← hx]; exact Lib.data_getElem? s i hlt
      have hgx := get_at s i x hxl
      by_cases ha : x.toNat < 128
      · have hd : Utf8.decode s i = (x.toNat, 1) := by rw [decode_ascii s i hlt (by rw [hx]; exact ha), hx]
        rw [hd] at hnx hit2 hbw2 hwn
        obtain ⟨W, hWd⟩ : ∃ W, wr.iterAt w.heap.size s (i + 1) = W := ⟨_, rfl⟩
        dsimp only at hnx hit2 hbw2 hwn
        rw [hWd] at hnx hit2 hbw2
        have hcon := Lib.contains_iff_indexByte [0, 47] x
        have hback : ((x.toNat : Int)).toNat.toUInt8 = x := by simp
        have HX := Lib.hid hxl
        clear hxl hx hgx hd hWd hit hbw
        cases hin : ([0, 47] : List UInt8).contains x
        · rw [hin] at hcon
          have hlt2 : ¬ ((0 : Int) ≤ Lib.indexByte [0, 47] x) := of_decide_eq_false hcon.symm
          have HI := Lib.hid hin
          clear hcon hin
          go_wp2_with (go_at_call 169; refine (ir_ascii _ _ (by omega) (by omega)).mono ?_; rintro e w' ⟨rfl, hw⟩; rw [hw, hback])
          go_roundg g'
          case measure => omega
          case rel => exact ⟨i + 1, by omega, by omega, hit2, hbw2, HN.out.succ HX.out HI.out⟩
        · rw [hin] at hcon
          have hge : (0 : Int) ≤ Lib.indexByte [0, 47] x := of_decide_eq_true hcon.symm
          have HI := Lib.hid hin
          clear hcon hin
          go_wp2_with (go_at_call 169; refine (ir_ascii _ _ (by omega) (by omega)).mono ?_; rintro e w' ⟨rfl, hw⟩; rw [hw, hback])
          go_ret
          exact ⟨by rw [Lib.indexAny_hit HN.out HX.out HI.out]; rfl, hbw2⟩
      · have hhi := dec_at_high s i (by rw [hgx]; omega)
        obtain ⟨R, hR⟩ : ∃ R, (Utf8.decode s i).1 = R := ⟨_, rfl⟩
        obtain ⟨K, hK⟩ : ∃ K, (Utf8.decode s i).2 = K := ⟨_, rfl⟩
        rw [hR, hK] at hnx hhi
        rw [hK] at hit2 hbw2 hwn hwd
        rw [hR] at hrl
        obtain ⟨W, hWd⟩ : ∃ W, wr.iterAt w.heap.size s (i + K) = W := ⟨_, rfl⟩
        rw [hWd] at hnx hit2 hbw2
        obtain ⟨hhi1, hhi2⟩ := hhi
        have HH := Lib.hid hhi2
        clear hhi2 hxl hx hgx hWd hit hbw hR hK
        go_wp2_with (go_at_call 169; refine (ir_any _ _ (by omega) (by omega)).mono ?_; rintro e w' ⟨rfl, hbw3⟩)
        go_roundg g'
        case measure => omega
        case rel => exact ⟨i + K, by omega, by omega, (hbw3.block _ (Array.getElem?_eq_some_iff.1 hit2).1).trans hit2, hbw2.trans (hbw3.mono hbw2.size), noAny_more HN.out HH.out⟩
    · obtain rfl : i = s.size := by omega
      have hnx : ∀ ty, (Instr.next (.pointer (some ⟨w.heap.size, 0, none⟩)) true ty).run Tryz.prog wr = _ := fun ty => Lib.run_next_end_at wr w.heap.size s s.size ty hit hlt
      go_wp2
      go_ret
      exact ⟨by rw [Lib.indexAny_none (by rw [← Lib.size_eq]; exact HN.out)]; rfl, hbw⟩


theorem hv280 : ∀ w, (zeroValue 280).run Tryz.prog w = .ok (.agg (Array.replicate 256 (.bool false))) w := fun w => by kernel_rfl

theorem indexAny_all (s : ByteArray) (w : World) (hs : s.size < 4294967281) :
    Calls Tryz.prog 141 #[.string s, .string ⟨#[0, 47]⟩] w fun e w' => e = .returned (.int .i64 (Lib.indexAny s.data.toList [0, 47])) ∧ Below w.heap.size w w' := by
  by_cases h8 : s.size ≤ 8
  · exact indexAny_short s w h8
  · refine (Tryz.strings_IndexAny_long hv280 s ⟨#[0, 47]⟩ w (by decide) (by omega) hs (by decide) ?_).mono fun e w' ⟨he, hw⟩ => ⟨he, ?_⟩
    · intro j b hj
      match j, hj with
      | 0, hj => cases hj; decide
      | 1, hj => cases hj; decide
      | (j + 2), hj => cases hj
    · rw [hw]
      exact ((Below.refl _ _).alloc (Nat.le_refl _) _).alloc (by simp) _

/-- Does a text have a byte 0 or a slash. -/
def hasBad (s : ByteArray) : Bool := decide (0 ≤ Lib.indexAny s.data.toList [0, 47])

set_option maxHeartbeats 2000000 in
set_option maxRecDepth 100000 in
theorem containsAny_all (s : ByteArray) (w : World) (hs : s.size < 4294967281) :
    Calls Tryz.prog 103 #[.string s, .string ⟨#[0, 47]⟩] w fun e w' => e = .returned (.bool (hasBad s)) ∧ Below w.heap.size w w' := by
  go_enter Tryz.func103, Tryz.ntmps103
  go_wp2_with (go_at_call 141; refine (indexAny_all s w hs).mono ?_; rintro e w' ⟨rfl, hb⟩)
  go_ret
  exact ⟨rfl, hb⟩

end Go.Proofs.YtoehfadjpficiaaGreatDoor

namespace Go.Proofs.YtoehfadjpficiaaGreatDoor.P
open Go.RowKit Go.Proofs.YtoehfadjpficiaaGreatDoor

def strings_ContainsAny.f (a0 a1 : ByteArray) : Option Bool := if a1.data.toList = [0, 47] ∧ a0.size < 4294967281 then some (hasBad a0) else none
theorem strings_ContainsAny.calls (a0 a1 : ByteArray) (r : Bool) (w : World) (h : strings_ContainsAny.f a0 a1 = some r) :
    Calls Tryz.prog 103 #[.string a0, .string a1] w fun e w' => e = .returned (.bool r) ∧ Below w.heap.size w w' := by
  unfold strings_ContainsAny.f at h
  by_cases hc : a1.data.toList = [0, 47] ∧ a0.size < 4294967281
  · rw [if_pos hc] at h
    obtain rfl := Option.some.inj h
    obtain ⟨hc1, hc2⟩ := hc
    obtain rfl : a1 = ⟨#[0, 47]⟩ := by
      obtain ⟨⟨l⟩⟩ := a1
      simp only at hc1
      subst hc1
      rfl
    exact containsAny_all a0 w hc2
  · rw [if_neg hc] at h
    cases h

end Go.Proofs.YtoehfadjpficiaaGreatDoor.P
