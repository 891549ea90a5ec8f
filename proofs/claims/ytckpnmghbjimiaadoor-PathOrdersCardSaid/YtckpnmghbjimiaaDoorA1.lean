/- strings.IndexRune of a rune beyond ASCII in the two bytes 0 and '/': -1. -/
import Derived.Test.YtckpnmghbjimiaaDoorProg
import Derived.Test.YtckpnmghbjimiaaDoorShelf
import Derived.WalkKit
import Derived.Deep.LoopGhost
import Derived.Laws.RangeString
import Derived.Lib.OthersKept
import Derived.Deep.QuietTactic
import Derived.BigQuiet
import Derived.Outline
namespace Go.Proofs.YtckpnmghbjimiaaDoor
open Go.RowKit

theorem quiet_add_same {P : Program} {f : FuncId} {args : Array Value} {w : World} {a n : Nat} {v : Value}
    (h : Calls P f args (w.drewN (a + n)) fun e w' => e = .returned v ∧ w' = w.drewN (a + n)) :
    Calls P f args (w.drewN (a + n)) fun e w'' => e = .returned v ∧ ∃ m, w'' = w.drewN (a + m) :=
  h.mono fun _ _ ⟨he, hm⟩ => ⟨he, n, hm⟩

set_option maxRecDepth 100000 in
set_option maxHeartbeats 2000000 in
theorem ir_bad (r : Int) (w : World) (h1 : 128 ≤ r) (h3 : (r == 65533) = false) (h2 : Lib.validRune r = false) :
    Calls Tryd.prog 60 #[.string ⟨#[0, 47]⟩, .int .i32 r] w fun e w' => e = .returned (.int .i64 (-1)) ∧ w' = w := by
  have hd0 : decide (0 ≤ r) = true := decide_eq_true (by omega)
  have hd1 : decide (r < 128) = false := decide_eq_false (by omega)
  go_enter Tryd.func60, Tryd.ntmps60
  go_wp2_with fail
  refine (Tryd.utf8_ValidRune _ _).mono ?_
  rintro e w' ⟨rfl, rfl⟩
  rw [h2]
  go_wp2
  go_ret
  exact ⟨rfl, rfl⟩

set_option maxRecDepth 100000 in
set_option maxHeartbeats 2000000 in
theorem ir_err (w : World) :
    Calls Tryd.prog 60 #[.string ⟨#[0, 47]⟩, .int .i32 65533] w fun e w' => e = .returned (.int .i64 (-1)) ∧ w' = w.iter ⟨#[0, 47]⟩ 2 := by
  go_enter Tryd.func60, Tryd.ntmps60
  go_wp2
  go_loopg [5, 6] 2 (fun g _ _ wx => ∃ i : Nat, i + g = 2 ∧ wx = w.iter ⟨#[0, 47]⟩ i)
  case atStart => exact ⟨0, by omega, rfl⟩
  case round =>
    obtain ⟨i, hig, rfl⟩ := hrel
    cases gk with
    | zero =>
      obtain rfl : i = 2 := by omega
      have hnx := fun ty => run_next_end (P := Tryd.prog) w ⟨#[0, 47]⟩ 2 ty (by decide)
      go_wp2
      go_ret
      exact ⟨rfl, rfl⟩
    | succ g =>
      rcases (by omega : i = 0 ∨ i = 1) with rfl | rfl
      · have hnx := fun ty => run_next_ascii (P := Tryd.prog) w ⟨#[0, 47]⟩ 0 ty (by decide) (by decide)
        go_wp2
        go_roundg g
        case measure => omega
        case rel => exact ⟨1, by omega, rfl⟩
      · have hnx := fun ty => run_next_ascii (P := Tryd.prog) w ⟨#[0, 47]⟩ 1 ty (by decide) (by decide)
        go_wp2
        go_roundg g
        case measure => omega
        case rel => exact ⟨2, by omega, rfl⟩


theorem enc2 (r : Int) (h1 : 128 ≤ r) (h2 : r ≤ 2047) : Utf8.encode r = ⟨#[UInt8.ofNat (0xC0 + r.toNat / 64), UInt8.ofNat (0x80 + r.toNat % 64)]⟩ := by
  have hv : Utf8.valid r = true := by unfold Utf8.valid; simp; omega
  unfold Utf8.encode
  simp only [hv, if_true]
  rw [if_neg (by omega), if_pos (by omega)]
theorem enc3 (r : Int) (h1 : 2048 ≤ r) (h2 : r ≤ 65535) (hv : Utf8.valid r = true) : ∃ a b c, Utf8.encode r = ⟨#[a, b, c]⟩ := by
  unfold Utf8.encode
  simp only [hv, if_true]
  rw [if_neg (by omega), if_neg (by omega), if_pos (by omega)]
  exact ⟨_, _, _, rfl⟩
theorem enc4 (r : Int) (h1 : 65536 ≤ r) (hv : Utf8.valid r = true) : ∃ a b c d, Utf8.encode r = ⟨#[a, b, c, d]⟩ := by
  unfold Utf8.encode
  simp only [hv, if_true]
  rw [if_neg (by omega), if_neg (by omega), if_neg (by omega)]
  exact ⟨_, _, _, _, rfl⟩

set_option maxRecDepth 100000 in
set_option maxHeartbeats 2000000 in
theorem ir_three (r : Int) (w : World) (h1 : 128 ≤ r) (h3 : (r == 65533) = false) (h2 : Lib.validRune r = true) (a b c : UInt8) (he : Utf8.encode r = ⟨#[a, b, c]⟩) :
    Calls Tryd.prog 60 #[.string ⟨#[0, 47]⟩, .int .i32 r] w fun e w' => e = .returned (.int .i64 (-1)) ∧ w' = w := by
  have hd0 : decide (0 ≤ r) = true := decide_eq_true (by omega)
  have hd1 : decide (r < 128) = false := decide_eq_false (by omega)
  go_enter Tryd.func60, Tryd.ntmps60
  go_wp2_with (go_at_call 79; refine (Tryd.utf8_ValidRune _ _).mono ?_; rintro e w' ⟨rfl, rfl⟩; rw [h2])
  go_step3
  go_wp2
  refine wp_loop_rounds 1 ?_
  rw [rounds_succ]
  go_wp2
  (try rw [Exit.noGoto_ret])
  go_ret
  exact ⟨rfl, rfl⟩

set_option maxRecDepth 100000 in
set_option maxHeartbeats 2000000 in
theorem ir_four (r : Int) (w : World) (h1 : 128 ≤ r) (h3 : (r == 65533) = false) (h2 : Lib.validRune r = true) (a b c d : UInt8) (he : Utf8.encode r = ⟨#[a, b, c, d]⟩) :
    Calls Tryd.prog 60 #[.string ⟨#[0, 47]⟩, .int .i32 r] w fun e w' => e = .returned (.int .i64 (-1)) ∧ w' = w := by
  have hd0 : decide (0 ≤ r) = true := decide_eq_true (by omega)
  have hd1 : decide (r < 128) = false := decide_eq_false (by omega)
  go_enter Tryd.func60, Tryd.ntmps60
  go_wp2_with (go_at_call 79; refine (Tryd.utf8_ValidRune _ _).mono ?_; rintro e w' ⟨rfl, rfl⟩; rw [h2])
  go_step3
  go_wp2
  refine wp_loop_rounds 1 ?_
  rw [rounds_succ]
  go_wp2
  (try rw [Exit.noGoto_ret])
  go_ret
  exact ⟨rfl, rfl⟩


set_option maxRecDepth 100000 in
set_option maxHeartbeats 2000000 in
theorem ir_two (r : Int) (w : World) (h1 : 128 ≤ r) (h3 : (r == 65533) = false) (h2 : Lib.validRune r = true) (a b : UInt8) (he : Utf8.encode r = ⟨#[a, b]⟩) (hb : (((({ data := #[0, 47] } : ByteArray)[1]'(by decide)).toNat : Int) != ((({ data := #[a, b] } : ByteArray)[1]'(by show 1 < 2; omega)).toNat : Int)) = true) :
    Calls Tryd.prog 60 #[.string ⟨#[0, 47]⟩, .int .i32 r] w fun e w' => e = .returned (.int .i64 (-1)) ∧ ∃ n, w' = w.drewN n := by
  have hd0 : decide (0 ≤ r) = true := decide_eq_true (by omega)
  have hd1 : decide (r < 128) = false := decide_eq_false (by omega)
  go_enter Tryd.func60, Tryd.ntmps60
  go_wp2_with (go_at_call 79; refine (Tryd.utf8_ValidRune _ _).mono ?_; rintro e w' ⟨rfl, rfl⟩; rw [h2])
  go_step3
  go_wp2
  refine wp_loop_rounds 1 ?_
  rw [rounds_succ]
  go_wp2
  go_step3
  go_wp2
  go_quiet (fail)
  go_wp2
  go_quiet ((go_at_call 78; exact quiet_add_same (Tryd.strings_IndexByte _ _ _)))
  go_wp2
  · rw [Exit.noGoto_ret]
    go_wp2
    rw [Exit.noGoto_ret]
    go_ret
    exact ⟨rfl, _, rfl⟩

theorem iter_below (w : World) (s : ByteArray) (n : Nat) : Below w.heap.size w (w.iter s n) := (Below.refl _ _).alloc (Nat.le_refl _) _
theorem pbelow_drewN {B : Nat} {a w : World} (h : Below B a w) (n : Nat) : Below B a (w.drewN n) := ⟨h.os, h.tape, h.output, h.size, h.block⟩

/-- Every rune beyond ASCII. -/
theorem ir_any (r : Int) (w : World) (h1 : 128 ≤ r) (h2 : r ≤ 1114111) :
    Calls Tryd.prog 60 #[.string ⟨#[0, 47]⟩, .int .i32 r] w fun e w' => e = .returned (.int .i64 (-1)) ∧ Below w.heap.size w w' := by
  by_cases h3 : r = 65533
  · subst h3
    exact (ir_err w).mono fun e w' ⟨he, hw⟩ => ⟨he, by rw [hw]; exact iter_below _ _ _⟩
  · have h3' : (r == 65533) = false := beq_eq_false_iff_ne.2 h3
    cases hv : Lib.validRune r with
    | false => exact (ir_bad r w h1 h3' hv).mono fun e w' ⟨he, hw⟩ => ⟨he, by rw [hw]; exact Below.refl _ _⟩
    | true =>
      have hv2 : Utf8.valid r = true := by
        unfold Lib.validRune at hv
        unfold Utf8.valid
        simp at hv ⊢
        omega
      by_cases ha : r ≤ 2047
      · refine (ir_two r w h1 h3' hv _ _ (enc2 r h1 ha) ?_).mono fun e w' ⟨he, n, hw⟩ => ⟨he, by rw [hw]; exact pbelow_drewN (Below.refl _ _) n⟩
        rw [bne_iff_ne]
        show (47 : Int) ≠ ((UInt8.ofNat (0x80 + r.toNat % 64)).toNat : Int)
        rw [UInt8.toNat_ofNat']
        omega
      · by_cases hb : r ≤ 65535
        · obtain ⟨a, b, c, he⟩ := enc3 r (by omega) hb hv2
          exact (ir_three r w h1 h3' hv a b c he).mono fun e w' ⟨he, hw⟩ => ⟨he, by rw [hw]; exact Below.refl _ _⟩
        · obtain ⟨a, b, c, d, he⟩ := enc4 r (by omega) hv2
          exact (ir_four r w h1 h3' hv a b c d he).mono fun e w' ⟨he, hw⟩ => ⟨he, by rw [hw]; exact Below.refl _ _⟩


end Go.Proofs.YtckpnmghbjimiaaDoor
