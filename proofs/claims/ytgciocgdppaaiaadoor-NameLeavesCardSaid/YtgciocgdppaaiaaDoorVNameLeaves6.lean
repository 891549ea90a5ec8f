/- Texts of this seat joined into one: PxNameMatch, QNameMatch, PxNameDecode, PxSignetref13Decode. -/
import Derived.Test.YtgciocgdppaaiaaDoorVNameLeaves3
import Derived.Test.YtgciocgdppaaiaaDoorVNameLeaves5

-- Printed by wip/tools/myprint.py (the kit's print over given contracts).
namespace Go.Proofs.YtgciocgdppaaiaaDoor.P
open Go.RowKit Go.Proofs.YtgciocgdppaaiaaDoorW.PrintWords Go.Proofs.YtgciocgdppaaiaaDoorW.PrintLast Go.Proofs.YtgciocgdppaaiaaDoorW.PrintMore
attribute [local go_sem] max2_int min2_int max_two min_two max_three min_three max_four min_four Go.Proofs.YtgciocgdppaaiaaDoor.bytesLess_flip Go.Proofs.YtgciocgdppaaiaaDoor.bytesLess_flip2
set_option linter.unusedVariables false
set_option linter.unusedSimpArgs false

/-! ### name_Match: function 10 -/
mutual
def name_Match.l0 : Nat → ByteArray → ByteArray → Int → Int → Int → Int → Option (Bool)
  | 0, _, _, _, _, _, _ => none
  | k + 1, x0, x1, x5, x6, x7, x8 => if x8 < (x1.size : Int) then (if x7 < (x0.size : Int) then (if 0 ≤ x7 then (name_Match.j1 k x0 x1 x5 x6 x7 x8 ((bt x0 x7) == 42)) else (none)) else (name_Match.j1 k x0 x1 x5 x6 x7 x8 false)) else (if 0 ≤ x7 then (if x7 ≤ (x0.size : Int) then ((strings_Trim.f (x0.extract (x7 : Int).toNat x0.size) (⟨#[42]⟩ : ByteArray)).bind fun t147 => (some (t147.toList == ([] : List UInt8)))) else (none)) else (none))
def name_Match.j1 : Nat → ByteArray → ByteArray → Int → Int → Int → Int → Bool → Option (Bool)
  | 0, _, _, _, _, _, _, _ => none
  | k + 1, x0, x1, x5, x6, x7, x8, x13 => if x13 = true then (name_Match.l0 k x0 x1 x7 x8 (wrap64 (x7 + 1)) x8) else (if x7 < (x0.size : Int) then (if 0 ≤ x7 then (if (bt x0 x7) = 63 then (name_Match.j2 k x0 x1 x5 x6 x7 x8 true) else (if 0 ≤ x8 then (if x8 < (x1.size : Int) then (name_Match.j2 k x0 x1 x5 x6 x7 x8 ((bt x0 x7) == (bt x1 x8))) else (none)) else (none))) else (none)) else (name_Match.j2 k x0 x1 x5 x6 x7 x8 false))
def name_Match.j2 : Nat → ByteArray → ByteArray → Int → Int → Int → Int → Bool → Option (Bool)
  | 0, _, _, _, _, _, _, _ => none
  | k + 1, x0, x1, x5, x6, x7, x8, x28 => if x28 = true then (name_Match.l0 k x0 x1 x5 x6 (wrap64 (x7 + 1)) (wrap64 (x8 + 1))) else (if x5 ≥ 0 then (name_Match.l0 k x0 x1 x5 (wrap64 (x6 + 1)) (wrap64 (x5 + 1)) (wrap64 (x6 + 1))) else (some false))
end
def name_Match.f (k : Nat) (a0 : ByteArray) (a1 : ByteArray) : Option (Bool) := name_Match.l0 k a0 a1 (-1) 0 0 0
theorem name_Match.mono_l : ∀ k, (∀ y0 y1 y2 y3 y4 y5, LeO (name_Match.l0 k y0 y1 y2 y3 y4 y5) (name_Match.l0 (k + 1) y0 y1 y2 y3 y4 y5)) ∧ (∀ y0 y1 y2 y3 y4 y5 y6, LeO (name_Match.j1 k y0 y1 y2 y3 y4 y5 y6) (name_Match.j1 (k + 1) y0 y1 y2 y3 y4 y5 y6)) ∧ (∀ y0 y1 y2 y3 y4 y5 y6, LeO (name_Match.j2 k y0 y1 y2 y3 y4 y5 y6) (name_Match.j2 (k + 1) y0 y1 y2 y3 y4 y5 y6))
  | 0 => ⟨fun _ _ _ _ _ _ r h => by simp [name_Match.l0] at h, fun _ _ _ _ _ _ _ r h => by simp [name_Match.j1] at h, fun _ _ _ _ _ _ _ r h => by simp [name_Match.j2] at h⟩
  | k + 1 => by
    obtain ⟨ih0, ih1, ih2⟩ := name_Match.mono_l k
    refine ⟨?_, ?_, ?_⟩
    · intro y0 y1 y2 y3 y4 y5
      unfold name_Match.l0
      repeat' first
      | (with_reducible exact ih0 _ _ _ _ _ _)
      | (with_reducible exact ih1 _ _ _ _ _ _ _)
      | (with_reducible exact ih2 _ _ _ _ _ _ _)
      | (with_reducible exact LeO.refl _)
      | (with_reducible exact LeO.none _)
      | (with_reducible refine LeO.ite ?_ ?_)
      | (with_reducible refine LeO.bind ?_ (fun _ => ?_))
      | exact ih0 _ _ _ _ _ _
      | exact ih1 _ _ _ _ _ _ _
      | exact ih2 _ _ _ _ _ _ _
      | exact LeO.none _
      | refine LeO.ite ?_ ?_
      | refine LeO.bind ?_ (fun _ => ?_)
    · intro y0 y1 y2 y3 y4 y5 y6
      unfold name_Match.j1
      repeat' first
      | (with_reducible exact ih0 _ _ _ _ _ _)
      | (with_reducible exact ih1 _ _ _ _ _ _ _)
      | (with_reducible exact ih2 _ _ _ _ _ _ _)
      | (with_reducible exact LeO.refl _)
      | (with_reducible exact LeO.none _)
      | (with_reducible refine LeO.ite ?_ ?_)
      | (with_reducible refine LeO.bind ?_ (fun _ => ?_))
      | exact ih0 _ _ _ _ _ _
      | exact ih1 _ _ _ _ _ _ _
      | exact ih2 _ _ _ _ _ _ _
      | exact LeO.none _
      | refine LeO.ite ?_ ?_
      | refine LeO.bind ?_ (fun _ => ?_)
    · intro y0 y1 y2 y3 y4 y5 y6
      unfold name_Match.j2
      repeat' first
      | (with_reducible exact ih0 _ _ _ _ _ _)
      | (with_reducible exact ih1 _ _ _ _ _ _ _)
      | (with_reducible exact ih2 _ _ _ _ _ _ _)
      | (with_reducible exact LeO.refl _)
      | (with_reducible exact LeO.none _)
      | (with_reducible refine LeO.ite ?_ ?_)
      | (with_reducible refine LeO.bind ?_ (fun _ => ?_))
      | exact ih0 _ _ _ _ _ _
      | exact ih1 _ _ _ _ _ _ _
      | exact ih2 _ _ _ _ _ _ _
      | exact LeO.none _
      | refine LeO.ite ?_ ?_
      | refine LeO.bind ?_ (fun _ => ?_)
theorem name_Match.mono : ∀ a0 a1 k, LeO (name_Match.f k a0 a1) (name_Match.f (k + 1) a0 a1) := by
  intro a0 a1 k
  obtain ⟨ih0, ih1, ih2⟩ := name_Match.mono_l k
  unfold name_Match.f
  repeat' first
      | (with_reducible exact ih0 _ _ _ _ _ _)
      | (with_reducible exact ih1 _ _ _ _ _ _ _)
      | (with_reducible exact ih2 _ _ _ _ _ _ _)
      | (with_reducible exact LeO.refl _)
      | (with_reducible exact LeO.none _)
      | (with_reducible refine LeO.ite ?_ ?_)
      | (with_reducible refine LeO.bind ?_ (fun _ => ?_))
      | exact ih0 _ _ _ _ _ _
      | exact ih1 _ _ _ _ _ _ _
      | exact ih2 _ _ _ _ _ _ _
      | exact LeO.none _
      | refine LeO.ite ?_ ?_
      | refine LeO.bind ?_ (fun _ => ?_)
set_option maxHeartbeats 8000000 in
set_option maxRecDepth 100000 in
theorem name_Match.calls (k : Nat) (a0 : ByteArray) (a1 : ByteArray) (r : Bool) (w : World) (h : name_Match.f k a0 a1 = some r) :
    Calls Tryd.prog 10 #[.string a0, .string a1] w fun e w' => e = .returned (.bool r) ∧ Below w.heap.size w w' := by
  have HB := Aside0.mk (Below.refl w.heap.size w)
  have H : (name_Match.l0 k a0 a1 (-1) 0 0 0) = some r := h
  clear h
  have H' := Aside0.mk H
  clear H
  go_enter Tryd.func10, Tryd.ntmps10
  go_wp2
  repeat (go_quiet (fail); try go_wp2)
  go_loopg [5, 6, 7, 8] k (fun kq v5 v6 v7 v8 w' => ∃ (x5_1 : Int) (x6_1 : Int) (x7_1 : Int) (x8_1 : Int), v5 = .int .i64 x5_1 ∧ v6 = .int .i64 x6_1 ∧ v7 = .int .i64 x7_1 ∧ v8 = .int .i64 x8_1 ∧ Aside0 (name_Match.l0 kq a0 a1 x5_1 x6_1 x7_1 x8_1 = some r) ∧ Aside0 (kq ≤ k) ∧ Aside0 (Below w.heap.size w w'))
  case atStart => exact ⟨((-1)), (0), (0), (0), (by first | rfl | (simp; done) | (simp [*]; done)), (by first | rfl | (simp; done) | (simp [*]; done)), (by first | rfl | (simp; done) | (simp [*]; done)), (by first | rfl | (simp; done) | (simp [*]; done)), H', ⟨Nat.le_refl _⟩, ⟨by repeat (first | (with_reducible first | exact HB.out | apply below_alloc | apply pw_below_drewN | apply below_drew1) | exact HB.out)⟩⟩
  case round =>
    clear H'
    try clear c1
    try clear p2
    obtain ⟨x5_1, x6_1, x7_1, x8_1, rfl, rfl, rfl, rfl, HA, HK1, HB⟩ := hrel
    cases gk with
    | zero => exact absurd HA.out (by simp [name_Match.l0])
    | succ k1 =>
      have H := HA.out
      clear HA
      simp only [name_Match.l0] at H
      by_cases c3 : x8_1 < (a1.size : Int)
      · rw [if_pos c3] at H
        have c3b0 : decide (x8_1 < (a1.size : Int)) = true := decide_eq_true c3
        clear c3
        have HC4 := Aside0.mk H
        clear H
        go_upto_region 5 with (fail)
        repeat (go_quiet (fail); go_upto_region 5 with (fail))
        go_cut [13] (fun v13 wc => ∃ (kq : Nat) (x13_3 : Bool), v13 = .bool x13_3 ∧ Aside0 (name_Match.j1 kq a0 a1 x5_1 x6_1 x7_1 x8_1 x13_3 = some r) ∧ Aside0 (kq ≤ k1) ∧ Aside0 (Below w.heap.size w wc))
        case first =>
          have H := HC4.out
          clear HC4
          by_cases c5 : x7_1 < (a0.size : Int)
          · rw [if_pos c5] at H
            have c5b0 : decide (x7_1 < (a0.size : Int)) = true := decide_eq_true c5
            clear c5
            (first | rw [c5b0] | (simp only [i64_w, i32_w]; rw [c5b0]) | skip)
            by_cases c6 : 0 ≤ x7_1
            · rw [if_pos c6] at H
              have c6b0 : decide (0 ≤ x7_1) = true := decide_eq_true c6
              clear c6
              have H' := Aside0.mk H
              clear H
              have p7 : 0 ≤ (x7_1 : Int) := of_decide_eq_true (by first | (with_reducible assumption) | assumption)
              have q7 : x7_1 < (a0.size : Int) := of_decide_eq_true (by first | (with_reducible assumption) | assumption)
              have hx7 := bt_at a0 x7_1
              replace p7 := eq_true p7
              replace q7 := eq_true q7
              go_wp2
              repeat (go_quiet (fail); try go_wp2)
              go_meet
              case rel => exact ⟨_, (((bt a0 x7_1) == 42)), (by first | rfl | (simp; done) | (simp [*]; done)), H', ⟨by have := HK1.out; first | omega | exact Nat.le_refl _⟩, ⟨by repeat (first | (with_reducible first | exact HB.out | apply below_alloc | apply pw_below_drewN | apply below_drew1) | exact HB.out)⟩⟩
            · rw [if_neg c6] at H
              exact absurd H (by simp)
          · rw [if_neg c5] at H
            have c5b0 : decide (x7_1 < (a0.size : Int)) = false := decide_eq_false c5
            clear c5
            (first | rw [c5b0] | (simp only [i64_w, i32_w]; rw [c5b0]) | skip)
            have H' := Aside0.mk H
            clear H
            go_wp2
            repeat (go_quiet (fail); try go_wp2)
            go_meet
            case rel => exact ⟨_, (false), (by first | rfl | (simp; done) | (simp [*]; done)), H', ⟨by have := HK1.out; first | omega | exact Nat.le_refl _⟩, ⟨by repeat (first | (with_reducible first | exact HB.out | apply below_alloc | apply pw_below_drewN | apply below_drew1) | exact HB.out)⟩⟩
        case rest =>
          clear HC4
          try clear c1
          try clear p2
          try clear c3
          try clear c3b0
          try clear c5
          try clear c5b0
          try clear c6
          try clear c6b0
          try clear p7
          try clear q7
          try clear hx7
          try clear p2
          try clear p7
          try clear q7
          obtain ⟨kq, x13_3, rfl, HA, HJ3, HB⟩ := hcut
          cases kq with
          | zero => exact absurd HA.out (by simp [name_Match.j1])
          | succ kj3 =>
            have H := HA.out
            clear HA
            simp only [name_Match.j1] at H
            by_cases c8 : x13_3 = true
            · subst c8
              have H1 : (name_Match.l0 kj3 a0 a1 x7_1 x8_1 (wrap64 (x7_1 + 1)) x8_1) = some r := by rw [if_pos rfl] at H; exact H
              clear H
              have H := H1
              clear H1
              have H' := Aside0.mk H
              clear H
              go_wp2
              repeat (go_quiet (fail); try go_wp2)
              go_roundg kj3
              case measure => have := HK1.out; have := HJ3.out; omega
              case rel => exact ⟨(x7_1), (x8_1), (wrap64 (x7_1 + 1)), (x8_1), (by first | rfl | (simp; done) | (simp [*]; done)), (by first | rfl | (simp; done) | (simp [*]; done)), (by first | rfl | (simp; done) | (simp [*]; done)), (by first | rfl | (simp; done) | (simp [*]; done)), H', ⟨by have := HK1.out; have := HJ3.out; omega⟩, ⟨by repeat (first | (with_reducible first | exact HB.out | apply below_alloc | apply pw_below_drewN | apply below_drew1) | exact HB.out)⟩⟩
            · replace c8 := Bool.eq_false_iff.mpr c8
              subst c8
              have H1 : (if x7_1 < (a0.size : Int) then (if 0 ≤ x7_1 then (if (bt a0 x7_1) = 63 then (name_Match.j2 kj3 a0 a1 x5_1 x6_1 x7_1 x8_1 true) else (if 0 ≤ x8_1 then (if x8_1 < (a1.size : Int) then (name_Match.j2 kj3 a0 a1 x5_1 x6_1 x7_1 x8_1 ((bt a0 x7_1) == (bt a1 x8_1))) else (none)) else (none))) else (none)) else (name_Match.j2 kj3 a0 a1 x5_1 x6_1 x7_1 x8_1 false)) = some r := by rw [if_neg (show ¬ (false = true) by decide)] at H; exact H
              clear H
              have H := H1
              clear H1
              have HC9 := Aside0.mk H
              clear H
              go_upto_region 8 with (fail)
              repeat (go_quiet (fail); go_upto_region 8 with (fail))
              go_cut [28] (fun v28 wc => ∃ (kq : Nat) (x28_8 : Bool), v28 = .bool x28_8 ∧ Aside0 (name_Match.j2 kq a0 a1 x5_1 x6_1 x7_1 x8_1 x28_8 = some r) ∧ Aside0 (kq ≤ kj3) ∧ Aside0 (Below w.heap.size w wc))
              case first =>
                have H := HC9.out
                clear HC9
                by_cases c10 : x7_1 < (a0.size : Int)
                · rw [if_pos c10] at H
                  have c10b0 : decide (x7_1 < (a0.size : Int)) = true := decide_eq_true c10
                  clear c10
                  (first | rw [c10b0] | (simp only [i64_w, i32_w]; rw [c10b0]) | skip)
                  by_cases c11 : 0 ≤ x7_1
                  · rw [if_pos c11] at H
                    have c11b0 : decide (0 ≤ x7_1) = true := decide_eq_true c11
                    clear c11
                    by_cases c13 : (bt a0 x7_1) = 63
                    · rw [if_pos c13] at H
                      have c13b0 : ((bt a0 x7_1) == 63) = true := beq_iff_eq.mpr c13
                      have c13b1 : ((bt a0 x7_1) != 63) = false := bne_eq_false_iff_eq.mpr c13
                      clear c13
                      have H' := Aside0.mk H
                      clear H
                      have p12 : 0 ≤ (x7_1 : Int) := of_decide_eq_true (by first | (with_reducible assumption) | assumption)
                      have q12 : x7_1 < (a0.size : Int) := of_decide_eq_true (by first | (with_reducible assumption) | assumption)
                      have hx12 := bt_at a0 x7_1
                      replace p12 := eq_true p12
                      replace q12 := eq_true q12
                      go_wp2
                      repeat (go_quiet (fail); try go_wp2)
                      go_meet
                      case rel => exact ⟨_, (true), (by first | rfl | (simp; done) | (simp [*]; done)), H', ⟨by have := HK1.out; have := HJ3.out; first | omega | exact Nat.le_refl _⟩, ⟨by repeat (first | (with_reducible first | exact HB.out | apply below_alloc | apply pw_below_drewN | apply below_drew1) | exact HB.out)⟩⟩
                    · rw [if_neg c13] at H
                      have c13b0 : ((bt a0 x7_1) == 63) = false := beq_eq_false_iff_ne.mpr c13
                      have c13b1 : ((bt a0 x7_1) != 63) = true := bne_iff_ne.mpr c13
                      by_cases c15 : 0 ≤ x8_1
                      · rw [if_pos c15] at H
                        have c15b0 : decide (0 ≤ x8_1) = true := decide_eq_true c15
                        clear c15
                        by_cases c16 : x8_1 < (a1.size : Int)
                        · rw [if_pos c16] at H
                          have c16b0 : decide (x8_1 < (a1.size : Int)) = true := decide_eq_true c16
                          clear c16
                          have H' := Aside0.mk H
                          clear H
                          have p12 : 0 ≤ (x7_1 : Int) := of_decide_eq_true (by first | (with_reducible assumption) | assumption)
                          have q12 : x7_1 < (a0.size : Int) := of_decide_eq_true (by first | (with_reducible assumption) | assumption)
                          have hx12 := bt_at a0 x7_1
                          replace p12 := eq_true p12
                          replace q12 := eq_true q12
                          have p14 : 0 ≤ (x7_1 : Int) := of_decide_eq_true (by first | (with_reducible assumption) | assumption)
                          have q14 : x7_1 < (a0.size : Int) := of_decide_eq_true (by first | (with_reducible assumption) | assumption)
                          have hx14 := bt_at a0 x7_1
                          replace p14 := eq_true p14
                          replace q14 := eq_true q14
                          have p17 : 0 ≤ (x8_1 : Int) := of_decide_eq_true (by first | (with_reducible assumption) | assumption)
                          have q17 : x8_1 < (a1.size : Int) := of_decide_eq_true (by first | (with_reducible assumption) | assumption)
                          have hx17 := bt_at a1 x8_1
                          replace p17 := eq_true p17
                          replace q17 := eq_true q17
                          go_wp2
                          repeat (go_quiet (fail); try go_wp2)
                          go_meet
                          case rel => exact ⟨_, (((bt a0 x7_1) == (bt a1 x8_1))), (by first | rfl | (simp; done) | (simp [*]; done)), H', ⟨by have := HK1.out; have := HJ3.out; first | omega | exact Nat.le_refl _⟩, ⟨by repeat (first | (with_reducible first | exact HB.out | apply below_alloc | apply pw_below_drewN | apply below_drew1) | exact HB.out)⟩⟩
                        · rw [if_neg c16] at H
                          exact absurd H (by simp)
                      · rw [if_neg c15] at H
                        exact absurd H (by simp)
                  · rw [if_neg c11] at H
                    exact absurd H (by simp)
                · rw [if_neg c10] at H
                  have c10b0 : decide (x7_1 < (a0.size : Int)) = false := decide_eq_false c10
                  clear c10
                  (first | rw [c10b0] | (simp only [i64_w, i32_w]; rw [c10b0]) | skip)
                  have H' := Aside0.mk H
                  clear H
                  go_wp2
                  repeat (go_quiet (fail); try go_wp2)
                  go_meet
                  case rel => exact ⟨_, (false), (by first | rfl | (simp; done) | (simp [*]; done)), H', ⟨by have := HK1.out; have := HJ3.out; first | omega | exact Nat.le_refl _⟩, ⟨by repeat (first | (with_reducible first | exact HB.out | apply below_alloc | apply pw_below_drewN | apply below_drew1) | exact HB.out)⟩⟩
              case rest =>
                clear HC9
                try clear c1
                try clear p1
                try clear q1
                try clear hx1
                try clear p2
                try clear c3
                try clear c3b0
                try clear c5
                try clear c5b0
                try clear c6
                try clear c6b0
                try clear p6
                try clear p7
                try clear q7
                try clear hx7
                try clear c8
                try clear c10
                try clear c10b0
                try clear c11
                try clear c11b0
                try clear p12
                try clear q12
                try clear hx12
                try clear c13
                try clear c13b0
                try clear c13b1
                try clear p14
                try clear q14
                try clear hx14
                try clear c15
                try clear c15b0
                try clear c16
                try clear c16b0
                try clear p17
                try clear q17
                try clear hx17
                try clear p12
                try clear p14
                try clear p17
                try clear p2
                try clear p7
                try clear q12
                try clear q14
                try clear q17
                try clear q7
                obtain ⟨kq, x28_8, rfl, HA, HJ8, HB⟩ := hcut
                cases kq with
                | zero => exact absurd HA.out (by simp [name_Match.j2])
                | succ kj8 =>
                  have H := HA.out
                  clear HA
                  simp only [name_Match.j2] at H
                  by_cases c18 : x28_8 = true
                  · subst c18
                    have H1 : (name_Match.l0 kj8 a0 a1 x5_1 x6_1 (wrap64 (x7_1 + 1)) (wrap64 (x8_1 + 1))) = some r := by rw [if_pos rfl] at H; exact H
                    clear H
                    have H := H1
                    clear H1
                    have H' := Aside0.mk H
                    clear H
                    go_wp2
                    repeat (go_quiet (fail); try go_wp2)
                    go_roundg kj8
                    case measure => have := HK1.out; have := HJ3.out; have := HJ8.out; omega
                    case rel => exact ⟨(x5_1), (x6_1), (wrap64 (x7_1 + 1)), (wrap64 (x8_1 + 1)), (by first | rfl | (simp; done) | (simp [*]; done)), (by first | rfl | (simp; done) | (simp [*]; done)), (by first | rfl | (simp; done) | (simp [*]; done)), (by first | rfl | (simp; done) | (simp [*]; done)), H', ⟨by have := HK1.out; have := HJ3.out; have := HJ8.out; omega⟩, ⟨by repeat (first | (with_reducible first | exact HB.out | apply below_alloc | apply pw_below_drewN | apply below_drew1) | exact HB.out)⟩⟩
                  · replace c18 := Bool.eq_false_iff.mpr c18
                    subst c18
                    have H1 : (if x5_1 ≥ 0 then (name_Match.l0 kj8 a0 a1 x5_1 (wrap64 (x6_1 + 1)) (wrap64 (x5_1 + 1)) (wrap64 (x6_1 + 1))) else (some false)) = some r := by rw [if_neg (show ¬ (false = true) by decide)] at H; exact H
                    clear H
                    have H := H1
                    clear H1
                    by_cases c19 : x5_1 ≥ 0
                    · rw [if_pos c19] at H
                      have c19b0 : decide (0 ≤ x5_1) = true := decide_eq_true c19
                      clear c19
                      have H' := Aside0.mk H
                      clear H
                      go_wp2
                      repeat (go_quiet (fail); try go_wp2)
                      go_roundg kj8
                      case measure => have := HK1.out; have := HJ3.out; have := HJ8.out; omega
                      case rel => exact ⟨(x5_1), (wrap64 (x6_1 + 1)), (wrap64 (x5_1 + 1)), (wrap64 (x6_1 + 1)), (by first | rfl | (simp; done) | (simp [*]; done)), (by first | rfl | (simp; done) | (simp [*]; done)), (by first | rfl | (simp; done) | (simp [*]; done)), (by first | rfl | (simp; done) | (simp [*]; done)), H', ⟨by have := HK1.out; have := HJ3.out; have := HJ8.out; omega⟩, ⟨by repeat (first | (with_reducible first | exact HB.out | apply below_alloc | apply pw_below_drewN | apply below_drew1) | exact HB.out)⟩⟩
                    · rw [if_neg c19] at H
                      have c19b0 : decide (0 ≤ x5_1) = false := decide_eq_false c19
                      clear c19
                      obtain rfl := Option.some.inj H
                      go_wp2
                      repeat (go_quiet (fail); try go_wp2)
                      go_ret
                      exact ⟨by first | rfl | (simp [errW_none, errW_some] <;> rfl) | (simp [*, errW_none, errW_some] <;> rfl), by repeat (first | (with_reducible first | exact HB.out | apply below_alloc | apply pw_below_drewN | apply below_drew1) | exact HB.out)⟩
      · rw [if_neg c3] at H
        have c3b0 : decide (x8_1 < (a1.size : Int)) = false := decide_eq_false c3
        clear c3
        by_cases c20 : 0 ≤ x7_1
        · rw [if_pos c20] at H
          have c20b0 := eq_true c20
          have c20b1 : decide (0 ≤ x7_1) = true := decide_eq_true c20
          clear c20
          by_cases c21 : x7_1 ≤ (a0.size : Int)
          · rw [if_pos c21] at H
            have c21b0 := eq_true c21
            have c21b1 : decide (x7_1 ≤ (a0.size : Int)) = true := decide_eq_true c21
            clear c21
            replace H := Option.bind_eq_some_iff.mp H
            obtain ⟨t147, A220, H⟩ := H
            replace H : (some (t147.toList == ([] : List UInt8))) = some r := H
            have A22 := Aside0.mk A220
            clear A220
            obtain rfl := Option.some.inj H
            go_wp2_with (first | (go_at_call 33; (with_reducible refine (strings_Trim.calls (a0.extract (x7_1 : Int).toNat a0.size) (⟨#[42]⟩ : ByteArray) t147 _ A22.out).mono ?_); rintro e w23 ⟨rfl, hb⟩; have n0_ := Aside0.mk (below_step (by repeat (first | (with_reducible first | exact HB.out | apply below_alloc | apply pw_below_drewN | apply below_drew1) | exact HB.out)) hb); clear HB; have HB := n0_; clear n0_; (try clear hb); (try clear hb2); (try clear hk); (try clear hi)))
            repeat (go_quiet (first | (go_at_call 33; (with_reducible refine (strings_Trim.calls (a0.extract (x7_1 : Int).toNat a0.size) (⟨#[42]⟩ : ByteArray) t147 _ A22.out).mono ?_); rintro e w23 ⟨rfl, hb⟩; have n0_ := Aside0.mk (below_step (by repeat (first | (with_reducible first | exact HB.out | apply below_alloc | apply pw_below_drewN | apply below_drew1) | exact HB.out)) hb); clear HB; have HB := n0_; clear n0_; (try clear hb); (try clear hb2); (try clear hk); (try clear hi))); try go_wp2_with (first | (go_at_call 33; (with_reducible refine (strings_Trim.calls (a0.extract (x7_1 : Int).toNat a0.size) (⟨#[42]⟩ : ByteArray) t147 _ A22.out).mono ?_); rintro e w23 ⟨rfl, hb⟩; have n0_ := Aside0.mk (below_step (by repeat (first | (with_reducible first | exact HB.out | apply below_alloc | apply pw_below_drewN | apply below_drew1) | exact HB.out)) hb); clear HB; have HB := n0_; clear n0_; (try clear hb); (try clear hb2); (try clear hk); (try clear hi))))
            go_ret
            exact ⟨by first | rfl | (simp [errW_none, errW_some] <;> rfl) | (simp [*, errW_none, errW_some] <;> rfl), by repeat (first | (with_reducible first | exact HB.out | apply below_alloc | apply pw_below_drewN | apply below_drew1) | exact HB.out)⟩
          · rw [if_neg c21] at H
            exact absurd H (by simp)
        · rw [if_neg c20] at H
          exact absurd H (by simp)

end Go.Proofs.YtgciocgdppaaiaaDoor.P

/- Patterns of '?' and '*' (pure): what it is to match; parts that are joined; the last sign. -/

namespace Go.Proofs.YtgciocgdppaaiaaDoor.Pure

/-- What one sign of a pattern may stand for. -/
def One (c : UInt8) (s : List UInt8) : Prop := c = 42 ∨ ∃ d, s = [d] ∧ (c = 63 ∨ c = d)
/-- A text is what a pattern says. -/
def Mat : List UInt8 → List UInt8 → Prop
  | [], s => s = []
  | c :: p, s => ∃ s1 s2, s = s1 ++ s2 ∧ One c s1 ∧ Mat p s2

theorem Mat_append : ∀ (p q s : List UInt8), Mat (p ++ q) s ↔ ∃ s1 s2, s = s1 ++ s2 ∧ Mat p s1 ∧ Mat q s2
  | [], q, s => by
    constructor
    · intro h; exact ⟨[], s, rfl, rfl, h⟩
    · rintro ⟨s1, s2, rfl, h1, h2⟩
      cases h1
      exact h2
  | c :: p, q, s => by
    constructor
    · rintro ⟨s1, s2, rfl, h1, h2⟩
      obtain ⟨t1, t2, rfl, h3, h4⟩ := (Mat_append p q s2).1 h2
      exact ⟨s1 ++ t1, t2, by simp, ⟨s1, t1, rfl, h1, h3⟩, h4⟩
    · rintro ⟨s1, s2, rfl, ⟨t1, t2, rfl, h1, h3⟩, h4⟩
      exact ⟨t1, t2 ++ s2, by simp, h1, (Mat_append p q (t2 ++ s2)).2 ⟨t2, s2, rfl, h3, h4⟩⟩

theorem Mat_one (c : UInt8) (s : List UInt8) : Mat [c] s ↔ One c s := by
  constructor
  · rintro ⟨s1, s2, rfl, h1, h2⟩
    cases h2
    simpa using h1
  · intro h
    exact ⟨s, [], by simp, h, rfl⟩

/-- The first sign. -/
theorem Mat_star (p s : List UInt8) : Mat (42 :: p) s ↔ ∃ s1 s2, s = s1 ++ s2 ∧ Mat p s2 := by
  constructor
  · rintro ⟨s1, s2, h, _, h2⟩; exact ⟨s1, s2, h, h2⟩
  · rintro ⟨s1, s2, h, h2⟩; exact ⟨s1, s2, h, .inl rfl, h2⟩
theorem Mat_sign {c : UInt8} (hc : c ≠ 42) (p s : List UInt8) : Mat (c :: p) s ↔ ∃ d t, s = d :: t ∧ (c = 63 ∨ c = d) ∧ Mat p t := by
  constructor
  · rintro ⟨s1, s2, rfl, h1, h2⟩
    rcases h1 with h1 | ⟨d, rfl, h1⟩
    · exact absurd h1 hc
    · exact ⟨d, s2, rfl, h1, h2⟩
  · rintro ⟨d, t, rfl, h1, h2⟩
    exact ⟨[d], t, rfl, .inr ⟨d, rfl, h1⟩, h2⟩

/-- A star takes more. -/
theorem Mat_star_more {p s : List UInt8} (t : List UInt8) (h : Mat (42 :: p) s) : Mat (42 :: p) (t ++ s) := by
  obtain ⟨s1, s2, rfl, h2⟩ := (Mat_star p s).1 h
  exact (Mat_star p _).2 ⟨t ++ s1, s2, by simp, h2⟩

/-- Signs that are no star take just as many. -/
theorem Mat_plain_len : ∀ {w s : List UInt8}, (∀ c ∈ w, c ≠ 42) → Mat w s → s.length = w.length
  | [], s, _, h => by cases h; rfl
  | c :: w, s, hw, h => by
    obtain ⟨d, t, rfl, _, h2⟩ := (Mat_sign (hw c List.mem_cons_self) w s).1 h
    have := Mat_plain_len (fun x hx => hw x (List.mem_cons_of_mem _ hx)) h2
    simp [this]

theorem Mat_empty : ∀ p : List UInt8, Mat p [] ↔ ∀ c ∈ p, c = 42
  | [] => by simp [Mat]
  | c :: p => by
    by_cases hc : c = 42
    · subst hc
      rw [Mat_star]
      constructor
      · rintro ⟨s1, s2, h, h2⟩
        obtain ⟨rfl, rfl⟩ : s1 = [] ∧ s2 = [] := by simpa using h.symm
        intro x hx
        rcases List.mem_cons.1 hx with rfl | hx
        · rfl
        · exact (Mat_empty p).1 h2 x hx
      · intro h
        exact ⟨[], [], rfl, (Mat_empty p).2 fun x hx => h x (List.mem_cons_of_mem _ hx)⟩
    · rw [Mat_sign hc]
      constructor
      · rintro ⟨d, t, h, _⟩; cases h
      · intro h; exact absurd (h c List.mem_cons_self) hc

/-- The last sign. -/
theorem Mat_snoc_star (p s : List UInt8) (d : UInt8) : Mat (p ++ [42]) (s ++ [d]) ↔ Mat p (s ++ [d]) ∨ Mat (p ++ [42]) s := by
  rw [Mat_append, Mat_append]
  constructor
  · rintro ⟨s1, s2, h, h1, _⟩
    rcases List.eq_nil_or_concat s2 with rfl | ⟨t, e, rfl⟩
    · rw [List.append_nil] at h
      exact .inl (h ▸ h1)
    · rw [List.concat_eq_append, ← List.append_assoc] at h
      have := List.append_inj' h rfl
      exact .inr ⟨s1, t, this.1, h1, (Mat_one 42 t).2 (.inl rfl)⟩
  · rintro (h | ⟨s1, s2, rfl, h1, _⟩)
    · exact ⟨s ++ [d], [], by simp, h, (Mat_one 42 []).2 (.inl rfl)⟩
    · exact ⟨s1, s2 ++ [d], by simp, h1, (Mat_one 42 _).2 (.inl rfl)⟩
theorem Mat_snoc_sign {c : UInt8} (hc : c ≠ 42) (p s : List UInt8) (d : UInt8) : Mat (p ++ [c]) (s ++ [d]) ↔ Mat p s ∧ (c = 63 ∨ c = d) := by
  rw [Mat_append]
  constructor
  · rintro ⟨s1, s2, h, h1, h2⟩
    rcases (Mat_one c s2).1 h2 with h3 | ⟨e, rfl, h3⟩
    · exact absurd h3 hc
    · have := List.append_inj' h rfl
      obtain ⟨rfl, h5⟩ := this
      cases h5
      exact ⟨h1, h3⟩
  · rintro ⟨h1, h2⟩
    exact ⟨s, [d], rfl, h1, (Mat_one c [d]).2 (.inr ⟨d, rfl, h2⟩)⟩
theorem Mat_nil_pat (s : List UInt8) : Mat [] s ↔ s = [] := Iff.rfl

end Go.Proofs.YtgciocgdppaaiaaDoor.Pure

namespace Go.Proofs.YtgciocgdppaaiaaDoor.Pure

section
variable (L T : List UInt8)

/-- What the walk knows: the star st (where there is one), where what it stands for ends, and the signs taken since. -/
structure Star (st back p i : Nat) : Prop where
  hst : L[st]? = some 42
  whole : Mat L T ↔ Mat (L.drop st) (T.drop back)
  cur : Mat (L.drop (st + 1)) (T.drop back) ↔ Mat (L.drop p) (T.drop i)
  hp : st + 1 ≤ p
  hpl : p ≤ L.length
  hil : i ≤ T.length
  hi : i = back + (p - (st + 1))
  plain : ∀ c ∈ (L.take p).drop (st + 1), c ≠ 42

variable {L T}

theorem star_step {p s : List UInt8} : Mat (42 :: p) s ↔ Mat p s ∨ ∃ d t, s = d :: t ∧ Mat (42 :: p) t := by
  rw [Mat_star]
  constructor
  · rintro ⟨s1, s2, rfl, h⟩
    cases s1 with
    | nil => exact .inl h
    | cons d s1 => exact .inr ⟨d, s1 ++ s2, rfl, (Mat_star p _).2 ⟨s1, s2, rfl, h⟩⟩
  · rintro (h | ⟨d, t, rfl, h⟩)
    · exact ⟨[], s, rfl, h⟩
    · obtain ⟨s1, s2, rfl, h2⟩ := (Mat_star p t).1 h
      exact ⟨d :: s1, s2, rfl, h2⟩

/-- The signs behind the star, and the rest. -/
theorem Star.split {st back p i : Nat} (h : Star L T st back p i) : L.drop (st + 1) = (L.take p).drop (st + 1) ++ L.drop p ∧ ((L.take p).drop (st + 1)).length = i - back := by
  have e : L.take p ++ L.drop p = L := List.take_append_drop p L
  have hl : (L.take p).length = p := by rw [List.length_take]; have := h.hpl; omega
  constructor
  · conv => lhs; rw [← e]
    rw [List.drop_append_of_le_length (by rw [hl]; exact h.hp)]
  · rw [List.length_drop, hl]
    have := h.hi
    omega

/-- Where the star goes back: any later place behaves as one where more is taken. -/
theorem Star.later {st back p i : Nat} (h : Star L T st back p i) {s2 : List UInt8} (h2 : Mat (L.drop (st + 1)) s2) : ∃ u v, s2 = u ++ v ∧ u.length = i - back ∧ Mat (L.drop p) v := by
  obtain ⟨e, hl⟩ := h.split
  rw [e, Mat_append] at h2
  obtain ⟨u, v, rfl, h3, h4⟩ := h2
  exact ⟨u, v, rfl, by rw [Mat_plain_len h.plain h3, hl], h4⟩

/-- Another star. -/
theorem Star.again {st back p i : Nat} (h : Star L T st back p i) (hc : L[p]? = some 42) : Star L T p i (p + 1) i := by
  have hpl := (List.getElem?_eq_some_iff.1 hc).1
  refine ⟨hc, ?_, Iff.rfl, Nat.le_refl _, hpl, h.hil, by omega, ?_⟩
  · rw [h.whole, drop_at h.hst]
    constructor
    · intro h1
      obtain ⟨s1, s2, hs, h2⟩ := (Mat_star _ _).1 h1
      obtain ⟨u, v, rfl, hu, hv⟩ := h.later h2
      rw [drop_at hc] at hv ⊢
      have hT : T.drop i = (T.drop back).drop (i - back) := by rw [List.drop_drop]; congr 1; have := h.hi; omega
      rw [hT, hs, ← List.append_assoc, List.drop_append_of_le_length (by rw [List.length_append]; omega)]
      exact Mat_star_more _ hv
    · intro h1
      exact star_step.2 (.inl (h.cur.2 h1))
  · intro c hcm
    rw [List.drop_of_length_le (by rw [List.length_take]; omega)] at hcm
    cases hcm

theorem star_first {p i : Nat} (whole : Mat L T ↔ Mat (L.drop p) (T.drop i)) (hil : i ≤ T.length) (hc : L[p]? = some 42) : Star L T p i (p + 1) i := by
  have hpl := (List.getElem?_eq_some_iff.1 hc).1
  refine ⟨hc, whole, Iff.rfl, Nat.le_refl _, hpl, hil, by omega, ?_⟩
  intro c hcm
  rw [List.drop_of_length_le (by rw [List.length_take]; omega)] at hcm
  cases hcm

/-- One sign more. -/
theorem Star.sign {st back p i : Nat} (h : Star L T st back p i) {c d : UInt8} (hc : L[p]? = some c) (hd : T[i]? = some d) (h42 : c ≠ 42) (hm : c = 63 ∨ c = d) : Star L T st back (p + 1) (i + 1) := by
  have hpl := (List.getElem?_eq_some_iff.1 hc).1
  have hil := (List.getElem?_eq_some_iff.1 hd).1
  have h1 := h.hp
  have h2 := h.hi
  refine ⟨h.hst, h.whole, ?_, by omega, hpl, hil, by omega, ?_⟩
  · rw [h.cur, drop_at hc, drop_at hd, Mat_sign h42]
    constructor
    · rintro ⟨d', t, he, _, h5⟩
      cases he
      exact h5
    · intro h5
      exact ⟨d, _, rfl, hm, h5⟩
  · intro x hx
    have e : L.take (p + 1) = L.take p ++ [c] := by
      obtain ⟨hl, rfl⟩ := List.getElem?_eq_some_iff.1 hc
      exact List.take_succ_eq_append_getElem hl
    rw [e, List.drop_append_of_le_length (by rw [List.length_take]; omega)] at hx
    rcases List.mem_append.1 hx with hx | hx
    · exact h.plain x hx
    · rw [List.mem_singleton.1 hx]; exact h42

/-- Back to the star. -/
theorem Star.back {st back p i : Nat} (h : Star L T st back p i) (hno : ¬ Mat (L.drop p) (T.drop i)) (hi : i < T.length) : Star L T st (back + 1) (st + 1) (back + 1) := by
  have h1 := h.hp
  have h2 := h.hi
  have h3 := h.hpl
  have hb : back < T.length := by omega
  refine ⟨h.hst, ?_, Iff.rfl, Nat.le_refl _, by omega, by omega, by omega, ?_⟩
  · rw [h.whole, drop_at h.hst, star_step, h.cur, List.drop_eq_getElem_cons hb]
    constructor
    · rintro (h4 | ⟨d, t, he, h5⟩)
      · exact absurd h4 hno
      · cases he; exact h5
    · intro h5
      exact .inr ⟨_, _, rfl, h5⟩
  · intro c hcm
    rw [List.drop_of_length_le (by rw [List.length_take]; omega)] at hcm
    cases hcm

/-- The end of the text. -/
theorem Star.last {st back p i : Nat} (h : Star L T st back p i) (hi : i = T.length) : Mat L T ↔ Mat (L.drop p) [] := by
  have hT : T.drop i = [] := List.drop_of_length_le (by omega)
  have hcur := h.cur
  rw [hT] at hcur
  rw [h.whole, drop_at h.hst]
  constructor
  · intro h1
    obtain ⟨s1, s2, hs, h2⟩ := (Mat_star _ _).1 h1
    obtain ⟨u, v, rfl, hu, hv⟩ := h.later h2
    have hlen := congrArg List.length hs
    rw [List.length_drop, List.length_append, List.length_append, hu] at hlen
    have hv0 : v = [] := List.length_eq_zero_iff.1 (by have := h.hi; omega)
    rw [← hv0]
    exact hv
  · intro h1
    exact star_step.2 (.inl (hcur.2 h1))

end

end Go.Proofs.YtgciocgdppaaiaaDoor.Pure

namespace Go.Proofs.YtgciocgdppaaiaaDoor.Pure
open Go.Proofs.YtgciocgdppaaiaaDoor Go.Proofs.YtgciocgdppaaiaaDoor.P Go.RowKit Go.Proofs.YtgciocgdppaaiaaDoorW.PrintWords

theorem dw_nil (f : UInt8 → Bool) : ∀ l : List UInt8, l.dropWhile f = [] ↔ ∀ x ∈ l, f x = true
  | [] => by simp
  | y :: l => by
    have ih := dw_nil f l
    rw [List.dropWhile_cons]
    by_cases h : f y = true
    · rw [if_pos h, ih]; simp [h]
    · rw [if_neg h]; simp [h]

theorem dw_head (f : UInt8 → Bool) : ∀ (l : List UInt8) (y : UInt8) (ys : List UInt8), l.dropWhile f = y :: ys → f y = false
  | [], _, _, h => by simp at h
  | x :: l, y, ys, h => by
    rw [List.dropWhile_cons] at h
    by_cases hx : f x = true
    · rw [if_pos hx] at h; exact dw_head f l y ys h
    · rw [if_neg hx] at h
      cases h
      simpa using hx

theorem trimB_nil (l : List UInt8) (c : UInt8) : Lib.trimB l c = [] ↔ ∀ x ∈ l, x = c := by
  unfold Lib.trimB Lib.trimLeftB Lib.trimRightB
  rw [dw_nil]
  constructor
  · intro h
    have h0 : l.reverse.dropWhile (· == c) = [] := by
      cases hd : l.reverse.dropWhile (· == c) with
      | nil => rfl
      | cons y ys =>
        have h1 := h y (by rw [List.mem_reverse, hd]; exact List.mem_cons_self)
        have h2 : ¬ (y == c) = true := by rw [dw_head _ _ _ _ hd]; simp
        exact absurd h1 h2
    intro x hx
    have := (dw_nil _ _).1 h0 x (List.mem_reverse.2 hx)
    simpa using this
  · intro h x hx
    have : x ∈ l := List.mem_reverse.1 ((List.dropWhile_sublist _).subset (List.mem_reverse.1 hx))
    simpa using h x this

theorem trim_stars (P : ByteArray) (p : Nat) (hP : P.size ≤ 9223372036854775807) : ∃ t, strings_Trim.f (P.extract p P.size) (⟨#[42]⟩ : ByteArray) = some t ∧ ((t.toList == ([] : List UInt8)) = true ↔ Mat (P.data.toList.drop p) []) := by
  have hs : (P.extract p P.size).size ≤ 9223372036854775807 := by
    rw [Lib.size_eq, Lib.extract_to_end, List.length_drop, ← Lib.size_eq]; omega
  refine ⟨_, by unfold strings_Trim.f; simp only; rw [if_pos ⟨by decide, hs⟩], ?_⟩
  rw [Lib.toList_data, Lib.extract_to_end, Mat_empty, beq_iff_eq]
  exact trimB_nil _ _

section
variable (P S : ByteArray) (hP : P.size ≤ 4611686018427387904) (hS : S.size ≤ 4611686018427387904) (b : Bool) (hb : b = true ↔ Mat P.data.toList S.data.toList)
include hP hS hb

theorem loop_end (st back : Int) (p i : Nat) (hp : p ≤ P.size) (hi : i = S.size) (h : Mat P.data.toList S.data.toList ↔ Mat (P.data.toList.drop p) []) :
    Ev (fun k => name_Match.l0 k P S st back (p : Int) (i : Int)) b := by
  have _u1 := hP
  have _u2 := hS
  have _u3 := hb
  obtain ⟨t, ht, htm⟩ := trim_stars P p (by omega)
  have e : (t.toList == ([] : List UInt8)) = b := by
    rw [Bool.eq_iff_iff, htm, hb, h]
  refine Ev.step (f := fun _ => some b) (fun k => ?_) (Ev.now _)
  simp only [name_Match.l0]
  rw [if_neg (by omega), if_pos (by omega), if_pos (by omega), Int.toNat_natCast, ht, Option.bind_some, e]

theorem step_star (st back : Int) (p i : Nat) (hi : i < S.size) (hc : P.data.toList[p]? = some 42) (r : Ev (fun k => name_Match.l0 k P S (p : Int) (i : Int) ((p + 1 : Nat) : Int) (i : Int)) b) :
    Ev (fun k => name_Match.l0 k P S st back (p : Int) (i : Int)) b := by
  have _u1 := hP
  have _u2 := hS
  have _u3 := hb
  have hpl := (List.getElem?_eq_some_iff.1 hc).1
  rw [← Lib.size_eq] at hpl
  refine Ev.step (f := fun k => name_Match.j1 k P S st back (p : Int) (i : Int) true) (fun k => ?_) (Ev.step (fun k => ?_) r)
  · simp only [name_Match.l0]
    rw [if_pos (by omega), if_pos (by omega), if_pos (by omega), bt_nat P p 42 hc]
    rfl
  · simp only [name_Match.j1, if_true]
    rw [wrap_succ (by omega) (by omega)]
    rfl

theorem step_sign (st back : Int) (p i : Nat) {c d : UInt8} (hc : P.data.toList[p]? = some c) (hd : S.data.toList[i]? = some d) (h42 : c ≠ 42) (hm : c = 63 ∨ c = d) (r : Ev (fun k => name_Match.l0 k P S st back ((p + 1 : Nat) : Int) ((i + 1 : Nat) : Int)) b) :
    Ev (fun k => name_Match.l0 k P S st back (p : Int) (i : Int)) b := by
  have _u1 := hP
  have _u2 := hS
  have _u3 := hb
  have hpl := (List.getElem?_eq_some_iff.1 hc).1
  have hil := (List.getElem?_eq_some_iff.1 hd).1
  rw [← Lib.size_eq] at hpl hil
  have hcf : ((c.toNat : Int) == 42) = false := by rw [beq_eq_false_iff_ne]; exact fun e => h42 ((u8_eq (n := 42) (by omega)).1 e)
  refine Ev.step (f := fun k => name_Match.j1 k P S st back (p : Int) (i : Int) false) (fun k => ?_) (Ev.step (f := fun k => name_Match.j2 k P S st back (p : Int) (i : Int) true) (fun k => ?_) (Ev.step (fun k => ?_) r))
  · simp only [name_Match.l0]
    rw [if_pos (by omega), if_pos (by omega), if_pos (by omega), bt_nat P p c hc, hcf]
  · simp only [name_Match.j1, Bool.false_eq_true, if_false]
    rw [if_pos (by omega), if_pos (by omega), bt_nat P p c hc]
    by_cases h63 : c = 63
    · subst h63
      rfl
    · rw [if_neg (show ¬ ((c.toNat : Int) = 63) from fun e => h63 ((u8_eq (n := 63) (by omega)).1 e)), if_pos (by omega), if_pos (by omega), bt_nat S i d hd]
      obtain rfl := hm.resolve_left h63
      simp
  · simp only [name_Match.j2, if_true]
    rw [wrap_succ (by omega) (by omega), wrap_succ (by omega) (by omega)]
    rfl

/-- No sign fits. -/
theorem step_miss (st back : Int) (p i : Nat) (hi : i < S.size) (hno : P.size ≤ p ∨ ∃ c d, P.data.toList[p]? = some c ∧ S.data.toList[i]? = some d ∧ c ≠ 42 ∧ c ≠ 63 ∧ c ≠ d) (r : Ev (fun k => name_Match.j2 k P S st back (p : Int) (i : Int) false) b) :
    Ev (fun k => name_Match.l0 k P S st back (p : Int) (i : Int)) b := by
  have _u1 := hP
  have _u2 := hS
  have _u3 := hb
  refine Ev.step (f := fun k => name_Match.j1 k P S st back (p : Int) (i : Int) false) (fun k => ?_) (Ev.step (fun k => ?_) r)
  · simp only [name_Match.l0]
    rw [if_pos (by omega)]
    rcases hno with h | ⟨c, d, hc, hd, h42, _⟩
    · rw [if_neg (by omega)]
    · have hpl := (List.getElem?_eq_some_iff.1 hc).1
      rw [← Lib.size_eq] at hpl
      have hcf : ((c.toNat : Int) == 42) = false := by rw [beq_eq_false_iff_ne]; exact fun e => h42 ((u8_eq (n := 42) (by omega)).1 e)
      rw [if_pos (by omega), if_pos (by omega), bt_nat P p c hc, hcf]
  · simp only [name_Match.j1, Bool.false_eq_true, if_false]
    rcases hno with h | ⟨c, d, hc, hd, h42, h63, hne⟩
    · rw [if_neg (by omega)]
    · have hpl := (List.getElem?_eq_some_iff.1 hc).1
      rw [← Lib.size_eq] at hpl
      have hcf : ((c.toNat : Int) == (d.toNat : Int)) = false := by
        rw [beq_eq_false_iff_ne]
        exact fun e => hne (UInt8.toNat_inj.1 (by omega))
      rw [if_pos (by omega), if_pos (by omega), bt_nat P p c hc, if_neg (show ¬ ((c.toNat : Int) = 63) from fun e => h63 ((u8_eq (n := 63) (by omega)).1 e)), if_pos (by omega), if_pos (by omega), bt_nat S i d hd, hcf]

theorem cases_at (p i : Nat) (hi : i < S.size) : P.data.toList[p]? = some 42 ∨ (∃ c d, P.data.toList[p]? = some c ∧ S.data.toList[i]? = some d ∧ c ≠ 42 ∧ (c = 63 ∨ c = d)) ∨ (P.size ≤ p ∨ ∃ c d, P.data.toList[p]? = some c ∧ S.data.toList[i]? = some d ∧ c ≠ 42 ∧ c ≠ 63 ∧ c ≠ d) := by
  have _u1 := hP
  have _u2 := hS
  have _u3 := hb
  obtain ⟨d, hd⟩ := get_some S i hi
  by_cases hp : p < P.size
  · obtain ⟨c, hc⟩ := get_some P p hp
    by_cases h42 : c = 42
    · exact .inl (h42 ▸ hc)
    · by_cases hm : c = 63 ∨ c = d
      · exact .inr (.inl ⟨c, d, hc, hd, h42, hm⟩)
      · exact .inr (.inr (.inr ⟨c, d, hc, hd, h42, fun e => hm (.inl e), fun e => hm (.inr e)⟩))
  · exact .inr (.inr (.inl (by omega)))

theorem miss_no (p i : Nat) (hi : i < S.size) (hno : P.size ≤ p ∨ ∃ c d, P.data.toList[p]? = some c ∧ S.data.toList[i]? = some d ∧ c ≠ 42 ∧ c ≠ 63 ∧ c ≠ d) : ¬ Mat (P.data.toList.drop p) (S.data.toList.drop i) := by
  have _u1 := hP
  have _u2 := hS
  have _u3 := hb
  obtain ⟨d', hd'⟩ := get_some S i hi
  intro h
  rcases hno with hp | ⟨c, d, hc, hd, h42, h63, hne⟩
  · rw [List.drop_of_length_le (by rw [← Lib.size_eq]; exact hp), drop_at hd'] at h
    cases h
  · rw [drop_at hc, drop_at hd, Mat_sign h42] at h
    obtain ⟨e, t, he, h1, _⟩ := h
    cases he
    rcases h1 with h1 | h1
    · exact h63 h1
    · exact hne h1

theorem loopS (st back p i : Nat) (h : Star P.data.toList S.data.toList st back p i) : Ev (fun k => name_Match.l0 k P S (st : Int) (back : Int) (p : Int) (i : Int)) b := by
  have hpl := h.hpl
  have hil := h.hil
  have h1 := h.hp
  have h2 := h.hi
  rw [← Lib.size_eq] at hpl hil
  by_cases hi : i < S.size
  · rcases cases_at P S hP hS b hb p i hi with hc | ⟨c, d, hc, hd, h42, hm⟩ | hno
    · have hpl := (List.getElem?_eq_some_iff.1 hc).1
      rw [← Lib.size_eq] at hpl
      exact step_star P S hP hS b hb _ _ p i hi hc (loopS p i (p + 1) i (h.again hc))
    · exact step_sign P S hP hS b hb _ _ p i hc hd h42 hm (loopS st back (p + 1) (i + 1) (h.sign hc hd h42 hm))
    · have H := loopS st (back + 1) (st + 1) (back + 1) (h.back (miss_no P S hP hS b hb p i hi hno) (by rw [← Lib.size_eq]; exact hi))
      refine step_miss P S hP hS b hb _ _ p i hi hno (Ev.step (fun k => ?_) H)
      simp only [name_Match.j2, Bool.false_eq_true, if_false]
      rw [if_pos (by omega), wrap_succ (by omega) (by omega), wrap_succ (by omega) (by omega)]
      rfl
  · exact loop_end P S hP hS b hb _ _ p i hpl (by omega) (h.last (by rw [← Lib.size_eq]; omega))
termination_by (P.size - st, S.size + 1 - back, S.size - i)
decreasing_by
  · have g := (List.getElem?_eq_some_iff.1 hc).1
    rw [← Lib.size_eq] at g
    exact Prod.Lex.left _ _ (by omega)
  · exact Prod.Lex.right _ (Prod.Lex.right _ (by omega))
  · exact Prod.Lex.right _ (Prod.Lex.left _ _ (by omega))

theorem loopN (p i : Nat) (hpl : p ≤ P.size) (hil : i ≤ S.size) (h : Mat P.data.toList S.data.toList ↔ Mat (P.data.toList.drop p) (S.data.toList.drop i)) : Ev (fun k => name_Match.l0 k P S (-1) 0 (p : Int) (i : Int)) b := by
  by_cases hi : i < S.size
  · rcases cases_at P S hP hS b hb p i hi with hc | ⟨c, d, hc, hd, h42, hm⟩ | hno
    · exact step_star P S hP hS b hb _ _ p i hi hc (loopS P S hP hS b hb p i (p + 1) i (star_first h (by rw [← Lib.size_eq]; exact hil) hc))
    · have hpl2 := (List.getElem?_eq_some_iff.1 hc).1
      rw [← Lib.size_eq] at hpl2
      refine step_sign P S hP hS b hb _ _ p i hc hd h42 hm (loopN (p + 1) (i + 1) hpl2 hi ?_)
      rw [h, drop_at hc, drop_at hd, Mat_sign h42]
      constructor
      · rintro ⟨d', t, he, _, h5⟩
        cases he
        exact h5
      · intro h5
        exact ⟨d, _, rfl, hm, h5⟩
    · have hf : b = false := by
        have := mt hb.1 (fun g => miss_no P S hP hS b hb p i hi hno (h.1 g))
        simpa using this
      refine step_miss P S hP hS b hb _ _ p i hi hno (Ev.step (f := fun _ => some b) (fun k => ?_) (Ev.now _))
      simp only [name_Match.j2, Bool.false_eq_true, if_false]
      rw [if_neg (by omega), hf]
  · refine loop_end P S hP hS b hb _ _ p i hpl (by omega) ?_
    rw [h, List.drop_of_length_le (by rw [← Lib.size_eq]; omega : S.data.toList.length ≤ i)]
termination_by S.size - i
end

end Go.Proofs.YtgciocgdppaaiaaDoor.Pure

-- Printed by wip/tools/myprint.py (the kit's print over given contracts).
namespace Go.Proofs.YtgciocgdppaaiaaDoor.P
open Go.RowKit Go.Proofs.YtgciocgdppaaiaaDoorW.PrintWords Go.Proofs.YtgciocgdppaaiaaDoorW.PrintLast Go.Proofs.YtgciocgdppaaiaaDoorW.PrintMore
attribute [local go_sem] max2_int min2_int max_two min_two max_three min_three max_four min_four Go.Proofs.YtgciocgdppaaiaaDoor.bytesLess_flip Go.Proofs.YtgciocgdppaaiaaDoor.bytesLess_flip2
set_option linter.unusedVariables false
set_option linter.unusedSimpArgs false

/-! ### name_Decode: function 14 -/
def name_Decode.j0 : Nat → ByteArray → Int → Int → Bool → Option (Int × ByteArray × Bool × Int)
  | 0, _, _, _, _ => none
  | k + 1, x0, x1, x7, x29 => if x29 = true then (some (0, (⟨#[]⟩ : ByteArray), false, 131)) else (if 0 ≤ x1 then (if x1 ≤ (wrap64 (x1 + 64)) then (if (wrap64 (x1 + 64)) ≤ (x0.size : Int) then ((strings_Trim.f (x0.extract (x1 : Int).toNat ((wrap64 (x1 + 64)) : Int).toNat) (⟨#[0]⟩ : ByteArray)).bind fun t136 => (if t136.toList = ([] : List UInt8) then (some (0, (⟨#[]⟩ : ByteArray), false, 0)) else ((word_Take16.f k (x0.extract (x1 : Int).toNat ((wrap64 (x1 + 64)) : Int).toNat) 4).bind fun bt137 => (if (wrap64 (bt137.1)) > 56 then (some (0, (⟨#[]⟩ : ByteArray), false, 131)) else (if 8 ≤ (wrap64 (8 + (wrap64 (bt137.1)))) then (if (wrap64 (8 + (wrap64 (bt137.1)))) ≤ ((x0.extract (x1 : Int).toNat ((wrap64 (x1 + 64)) : Int).toNat).size : Int) then ((name_Encode.f (wrap64 (x7)) ((x0.extract (x1 : Int).toNat ((wrap64 (x1 + 64)) : Int).toNat).extract 8 ((wrap64 (8 + (wrap64 (bt137.1)))) : Int).toNat)).bind fun bt140 => (if bt140.2 = 0 then (if bt140.1.toList = (x0.extract (x1 : Int).toNat ((wrap64 (x1 + 64)) : Int).toNat).toList then (some (wrap64 (x7), (x0.extract (x1 : Int).toNat ((wrap64 (x1 + 64)) : Int).toNat).extract 8 ((wrap64 (8 + (wrap64 (bt137.1)))) : Int).toNat, true, 0)) else (some (0, (⟨#[]⟩ : ByteArray), false, 131))) else (some (0, (⟨#[]⟩ : ByteArray), false, 131)))) else (none)) else (none)))))) else (none)) else (none)) else (none))
def name_Decode.f (k : Nat) (a0 : ByteArray) (a1 : Int) : Option (Int × ByteArray × Bool × Int) := (word_Take32.f k a0 (wrap64 a1)).bind fun bt134 => (if bt134.2 = true then (name_Decode.j0 k a0 a1 bt134.1 (decide ((wrap64 ((a0.size : Int) - a1)) < 64))) else (name_Decode.j0 k a0 a1 bt134.1 true))
theorem name_Decode.mono_l : ∀ k, (∀ y0 y1 y2 y3, LeO (name_Decode.j0 k y0 y1 y2 y3) (name_Decode.j0 (k + 1) y0 y1 y2 y3))
  | 0 => fun _ _ _ _ r h => by simp [name_Decode.j0] at h
  | k + 1 => by
    have ih0 := name_Decode.mono_l k
    · intro y0 y1 y2 y3
      unfold name_Decode.j0
      repeat' first
      | (with_reducible exact ih0 _ _ _ _)
      | (with_reducible exact word_Take16.mono _ _ _)
      | (with_reducible exact word_Take32.mono _ _ _)
      | (with_reducible exact LeO.refl _)
      | (with_reducible exact LeO.none _)
      | (with_reducible refine LeO.ite ?_ ?_)
      | (with_reducible refine LeO.bind ?_ (fun _ => ?_))
      | exact ih0 _ _ _ _
      | exact word_Take16.mono _ _ _
      | exact word_Take32.mono _ _ _
      | exact LeO.none _
      | refine LeO.ite ?_ ?_
      | refine LeO.bind ?_ (fun _ => ?_)
theorem name_Decode.mono : ∀ a0 a1 k, LeO (name_Decode.f k a0 a1) (name_Decode.f (k + 1) a0 a1) := by
  intro a0 a1 k
  have ih0 := name_Decode.mono_l k
  unfold name_Decode.f
  repeat' first
      | (with_reducible exact ih0 _ _ _ _)
      | (with_reducible exact word_Take16.mono _ _ _)
      | (with_reducible exact word_Take32.mono _ _ _)
      | (with_reducible exact LeO.refl _)
      | (with_reducible exact LeO.none _)
      | (with_reducible refine LeO.ite ?_ ?_)
      | (with_reducible refine LeO.bind ?_ (fun _ => ?_))
      | exact ih0 _ _ _ _
      | exact word_Take16.mono _ _ _
      | exact word_Take32.mono _ _ _
      | exact LeO.none _
      | refine LeO.ite ?_ ?_
      | refine LeO.bind ?_ (fun _ => ?_)
set_option maxHeartbeats 8000000 in
set_option maxRecDepth 100000 in
theorem name_Decode.calls (k : Nat) (a0 : ByteArray) (a1 : Int) (r1 : Int) (r2 : ByteArray) (r3 : Bool) (r4 : Int) (w : World) (h : name_Decode.f k a0 a1 = some (r1, r2, r3, r4)) :
    Calls Tryd.prog 14 #[.string a0, .int .i64 a1] w fun e w' => e = .returned (.tuple #[.agg #[.int .i64 r1, .string r2], .bool r3, .int .i64 r4]) ∧ Below w.heap.size w w' := by
  have hu27 := Tryd.underlying27
  have HB := Aside0.mk (Below.refl w.heap.size w)
  have H : ((word_Take32.f k a0 (wrap64 a1)).bind fun bt134 => (if bt134.2 = true then (name_Decode.j0 k a0 a1 bt134.1 (decide ((wrap64 ((a0.size : Int) - a1)) < 64))) else (name_Decode.j0 k a0 a1 bt134.1 true))) = some (r1, r2, r3, r4) := h
  clear h
  replace H := Option.bind_eq_some_iff.mp H
  obtain ⟨⟨t134, t135⟩, A30, H⟩ := H
  replace H : (if t135 = true then (name_Decode.j0 k a0 a1 t134 (decide ((wrap64 ((a0.size : Int) - a1)) < 64))) else (name_Decode.j0 k a0 a1 t134 true)) = some (r1, r2, r3, r4) := H
  have A3 := Aside0.mk A30
  clear A30
  have HC4 := Aside0.mk H
  clear H
  go_enter Tryd.func14, Tryd.ntmps14
  go_upto_region 2 with (first | ((with_reducible refine gate_dst (N := 4) rfl ?_); (try (refine gate_guard (by rfl) ?_; dsimp only)); refine box_event ?hg (N := 4) ?hd (cs := #[.int .i64 0, .string (⟨#[]⟩ : ByteArray)]) (t := 27) ?hr ?_; (case hd => rfl); (case hg => rfl); (case hr => first | (go_simp; done) | (go_simp; rfl)); intro gb133 hg w5 hbox hb; have n0_ := Aside0.mk (below_step (by repeat (first | (with_reducible first | exact HB.out | apply below_alloc | apply pw_below_drewN | apply below_drew1) | exact HB.out)) hb); have n1_ := Aside0.mk (hbox); have n2_ := Aside0.mk ((by rw [hg]; exact (below_size (by repeat (first | (with_reducible first | exact HB.out | apply below_alloc | apply pw_below_drewN | apply below_drew1) | exact HB.out))) : w.heap.size ≤ gb133)); have n3_ := Aside0.mk ((by rw [hg]; exact (below_size (by repeat (first | (with_reducible first | exact HB.out | apply below_alloc | apply pw_below_drewN | apply below_drew1) | exact HB.out))) : w.heap.size ≤ gb133)); clear HB; have HB := n0_; have BK133 := n1_; have GW133 := n2_; have GE133 := n3_; clear n0_ n1_ n2_ n3_; clear hb hbox hg) | ((with_reducible refine gate_callee (f := 39) rfl ?_); refine goesL_ (some 18) rfl rfl Tryd.func39 (by kernel_rfl) rfl #[.string a0, .int .i64 (wrap64 a1)] rfl (by (try simp only [List.map_toArray, List.map_cons, List.map_nil]); first | done | rfl | (simp only [List.length_drop, List.length_take]; rfl)) ?_; (with_reducible refine (word_Take32.calls k a0 (wrap64 a1) t134 t135 _ A3.out).mono ?_); rintro e w6 ⟨rfl, hb⟩; refine ⟨_, rfl, ?_⟩; have n0_ := Aside0.mk (blk_below (g := gb133) (o := .cells #[.int .i64 0, .string (⟨#[]⟩ : ByteArray)] 27 (0, 0)) (by (with_reducible repeat (first | refine blk_drewN ?_ _ | refine blk_drew ?_ | refine blk_alloc ?_ _)); exact BK133.out) hb); have n1_ := Aside0.mk (below_step (by repeat (first | (with_reducible first | exact HB.out | apply below_alloc | apply pw_below_drewN | apply below_drew1 | refine below_set ?_ GE133.out) | exact HB.out)) hb); clear BK133; clear HB; have BK133 := n0_; have HB := n1_; clear n0_ n1_; (try clear hb); (try clear hb2); (try clear hk); (try clear hi)))
  (try simp only [Act.put, List.setIfInBounds_toArray, List.set_cons_zero, List.set_cons_succ])
  go_cut [29] (fun v29 wc => ∃ (kq : Nat) (x29_3 : Bool), v29 = .bool x29_3 ∧ Aside0 (name_Decode.j0 kq a0 a1 t134 x29_3 = some (r1, r2, r3, r4)) ∧ Aside0 (kq ≤ k) ∧ Aside0 (wc.heap[gb133]? = some (.cells #[.int .i64 0, .string (⟨#[]⟩ : ByteArray)] 27 (0, 0))) ∧ Aside0 (Below w.heap.size w wc))
  case first =>
    have H := HC4.out
    clear HC4
    by_cases c7 : t135 = true
    · subst c7
      have H1 : (name_Decode.j0 k a0 a1 t134 (decide ((wrap64 ((a0.size : Int) - a1)) < 64))) = some (r1, r2, r3, r4) := by rw [if_pos rfl] at H; exact H
      clear H
      have H := H1
      clear H1
      have H' := Aside0.mk H
      clear H
      go_wp2
      go_meet
      case rel => exact ⟨_, (decide ((wrap64 ((a0.size : Int) - a1)) < 64)), (by first | rfl | (simp; done) | (simp [*]; done)), H', ⟨by first | omega | exact Nat.le_refl _⟩, ⟨by (with_reducible repeat (first | refine blk_drewN ?_ _ | refine blk_drew ?_ | refine blk_alloc ?_ _)); exact BK133.out⟩, ⟨by repeat (first | (with_reducible first | exact HB.out | apply below_alloc | apply pw_below_drewN | apply below_drew1 | refine below_set ?_ GE133.out) | exact HB.out)⟩⟩
    · replace c7 := Bool.eq_false_iff.mpr c7
      subst c7
      have H1 : (name_Decode.j0 k a0 a1 t134 true) = some (r1, r2, r3, r4) := by rw [if_neg (show ¬ (false = true) by decide)] at H; exact H
      clear H
      have H := H1
      clear H1
      have H' := Aside0.mk H
      clear H
      go_wp2
      go_meet
      case rel => exact ⟨_, (true), (by first | rfl | (simp; done) | (simp [*]; done)), H', ⟨by first | omega | exact Nat.le_refl _⟩, ⟨by (with_reducible repeat (first | refine blk_drewN ?_ _ | refine blk_drew ?_ | refine blk_alloc ?_ _)); exact BK133.out⟩, ⟨by repeat (first | (with_reducible first | exact HB.out | apply below_alloc | apply pw_below_drewN | apply below_drew1 | refine below_set ?_ GE133.out) | exact HB.out)⟩⟩
  case rest =>
    clear HC4
    try clear c1
    try clear p2
    try clear c3
    try clear p6
    try clear c7
    obtain ⟨kq, x29_3, rfl, HA, HJ3, BK133, HB⟩ := hcut
    cases kq with
    | zero => exact absurd HA.out (by simp [name_Decode.j0])
    | succ kj3 =>
      have H := HA.out
      clear HA
      simp only [name_Decode.j0] at H
      by_cases c8 : x29_3 = true
      · subst c8
        have H1 : (some (0, (⟨#[]⟩ : ByteArray), false, 131)) = some (r1, r2, r3, r4) := by rw [if_pos rfl] at H; exact H
        clear H
        have H := H1
        clear H1
        simp only [Option.some.injEq, Prod.mk.injEq] at H
        obtain ⟨rfl, rfl, rfl, rfl⟩ := H
        have hcz9_0 : wc.cell? ⟨gb133, 0, none⟩ = some (.int .i64 0) := (blk_cell BK133.out 0).trans rfl
        have hcz9_1 : wc.cell? ⟨gb133, 1, none⟩ = some (.string (⟨#[]⟩ : ByteArray)) := (blk_cell BK133.out 1).trans rfl
        have hfz9_0 := blk_frozen BK133.out 0
        have hfz9_1 := blk_frozen BK133.out 1
        go_wp2
        refine bodyPost_ret (results_ctt rfl _ _ gb133 27 #[.int .i64 0, .string (⟨#[]⟩ : ByteArray)] (0, 0) _ rfl (by (with_reducible repeat (first | refine blk_drewN ?_ _ | refine blk_drew ?_ | refine blk_alloc ?_ _)); refine blk_put (cs := #[.int .i64 0, .string (⟨#[]⟩ : ByteArray)]) ?_ 1 _ rfl; (with_reducible repeat (first | refine blk_drewN ?_ _ | refine blk_drew ?_ | refine blk_alloc ?_ _)); refine blk_put (cs := #[.int .i64 0, .string (⟨#[]⟩ : ByteArray)]) ?_ 0 _ rfl; (with_reducible repeat (first | refine blk_drewN ?_ _ | refine blk_drew ?_ | refine blk_alloc ?_ _)); exact BK133.out) Tryd.underlying27 rfl (by kernel_rfl)) rfl ?_
        exact ⟨by first | rfl | (simp [errW_none, errW_some] <;> rfl) | (simp [*, errW_none, errW_some] <;> rfl), by repeat (first | (with_reducible first | exact HB.out | apply below_alloc | apply pw_below_drewN | apply below_drew1 | refine below_set ?_ GE133.out) | exact HB.out)⟩
      · replace c8 := Bool.eq_false_iff.mpr c8
        subst c8
        have H1 : (if 0 ≤ a1 then (if a1 ≤ (wrap64 (a1 + 64)) then (if (wrap64 (a1 + 64)) ≤ (a0.size : Int) then ((strings_Trim.f (a0.extract (a1 : Int).toNat ((wrap64 (a1 + 64)) : Int).toNat) (⟨#[0]⟩ : ByteArray)).bind fun t136 => (if t136.toList = ([] : List UInt8) then (some (0, (⟨#[]⟩ : ByteArray), false, 0)) else ((word_Take16.f kj3 (a0.extract (a1 : Int).toNat ((wrap64 (a1 + 64)) : Int).toNat) 4).bind fun bt137 => (if (wrap64 (bt137.1)) > 56 then (some (0, (⟨#[]⟩ : ByteArray), false, 131)) else (if 8 ≤ (wrap64 (8 + (wrap64 (bt137.1)))) then (if (wrap64 (8 + (wrap64 (bt137.1)))) ≤ ((a0.extract (a1 : Int).toNat ((wrap64 (a1 + 64)) : Int).toNat).size : Int) then ((name_Encode.f (wrap64 (t134)) ((a0.extract (a1 : Int).toNat ((wrap64 (a1 + 64)) : Int).toNat).extract 8 ((wrap64 (8 + (wrap64 (bt137.1)))) : Int).toNat)).bind fun bt140 => (if bt140.2 = 0 then (if bt140.1.toList = (a0.extract (a1 : Int).toNat ((wrap64 (a1 + 64)) : Int).toNat).toList then (some (wrap64 (t134), (a0.extract (a1 : Int).toNat ((wrap64 (a1 + 64)) : Int).toNat).extract 8 ((wrap64 (8 + (wrap64 (bt137.1)))) : Int).toNat, true, 0)) else (some (0, (⟨#[]⟩ : ByteArray), false, 131))) else (some (0, (⟨#[]⟩ : ByteArray), false, 131)))) else (none)) else (none)))))) else (none)) else (none)) else (none)) = some (r1, r2, r3, r4) := by rw [if_neg (show ¬ (false = true) by decide)] at H; exact H
        clear H
        have H := H1
        clear H1
        by_cases c10 : 0 ≤ a1
        · rw [if_pos c10] at H
          have c10b0 := eq_true c10
          have c10b1 : decide (0 ≤ a1) = true := decide_eq_true c10
          clear c10
          by_cases c11 : a1 ≤ (wrap64 (a1 + 64))
          · rw [if_pos c11] at H
            have c11b0 := eq_true c11
            have c11b1 : decide (a1 ≤ (wrap64 (a1 + 64))) = true := decide_eq_true c11
            by_cases c12 : (wrap64 (a1 + 64)) ≤ (a0.size : Int)
            · rw [if_pos c12] at H
              have c12b0 := eq_true c12
              have c12b1 : decide ((wrap64 (a1 + 64)) ≤ (a0.size : Int)) = true := decide_eq_true c12
              obtain ⟨sx_, hsx_⟩ : ∃ sx_, (a0.extract (a1 : Int).toNat ((wrap64 (a1 + 64)) : Int).toNat) = sx_ := ⟨_, rfl⟩
              rw [hsx_] at H
              replace H := Option.bind_eq_some_iff.mp H
              obtain ⟨t136, A130, H⟩ := H
              replace H : (if t136.toList = ([] : List UInt8) then (some (0, (⟨#[]⟩ : ByteArray), false, 0)) else ((word_Take16.f kj3 sx_ 4).bind fun bt137 => (if (wrap64 (bt137.1)) > 56 then (some (0, (⟨#[]⟩ : ByteArray), false, 131)) else (if 8 ≤ (wrap64 (8 + (wrap64 (bt137.1)))) then (if (wrap64 (8 + (wrap64 (bt137.1)))) ≤ (sx_.size : Int) then ((name_Encode.f (wrap64 (t134)) (sx_.extract 8 ((wrap64 (8 + (wrap64 (bt137.1)))) : Int).toNat)).bind fun bt140 => (if bt140.2 = 0 then (if bt140.1.toList = sx_.toList then (some (wrap64 (t134), sx_.extract 8 ((wrap64 (8 + (wrap64 (bt137.1)))) : Int).toNat, true, 0)) else (some (0, (⟨#[]⟩ : ByteArray), false, 131))) else (some (0, (⟨#[]⟩ : ByteArray), false, 131)))) else (none)) else (none))))) = some (r1, r2, r3, r4) := H
              have A13 := Aside0.mk A130
              clear A130
              by_cases c14 : t136.toList = ([] : List UInt8)
              · rw [if_pos c14] at H
                have c14b0 : (t136.toList == ([] : List UInt8)) = true := beq_iff_eq.mpr c14
                have c14b1 : (t136.toList != ([] : List UInt8)) = false := bne_eq_false_iff_eq.mpr c14
                clear c14
                simp only [Option.some.injEq, Prod.mk.injEq] at H
                obtain ⟨rfl, rfl, rfl, rfl⟩ := H
                go_wp2_with (first | ((with_reducible refine gate_callee (f := 33) rfl ?_); refine goesL_ (some 37) rfl rfl Tryd.func33 (by kernel_rfl) rfl #[.string sx_, .string (⟨#[0]⟩ : ByteArray)] rfl (by (try simp only [List.map_toArray, List.map_cons, List.map_nil]); first | done | rfl | (simp only [List.length_drop, List.length_take]; rfl)) ?_; (with_reducible refine (strings_Trim.calls sx_ (⟨#[0]⟩ : ByteArray) t136 _ A13.out).mono ?_); rintro e w15 ⟨rfl, hb⟩; refine ⟨_, rfl, ?_⟩; have n0_ := Aside0.mk (blk_below (g := gb133) (o := .cells #[.int .i64 0, .string (⟨#[]⟩ : ByteArray)] 27 (0, 0)) (by (with_reducible repeat (first | refine blk_drewN ?_ _ | refine blk_drew ?_ | refine blk_alloc ?_ _)); exact BK133.out) hb); have n1_ := Aside0.mk (below_step (by repeat (first | (with_reducible first | exact HB.out | apply below_alloc | apply pw_below_drewN | apply below_drew1 | refine below_set ?_ GE133.out) | exact HB.out)) hb); clear BK133; clear HB; have BK133 := n0_; have HB := n1_; clear n0_ n1_; (try clear hb); (try clear hb2); (try clear hk); (try clear hi); have hcz16_0 : w15.cell? ⟨gb133, 0, none⟩ = some (.int .i64 0) := (blk_cell BK133.out 0).trans rfl; have hcz16_1 : w15.cell? ⟨gb133, 1, none⟩ = some (.string (⟨#[]⟩ : ByteArray)) := (blk_cell BK133.out 1).trans rfl; have hfz16_0 := blk_frozen BK133.out 0; have hfz16_1 := blk_frozen BK133.out 1))
                refine bodyPost_ret (results_ctt rfl _ _ gb133 27 #[.int .i64 0, .string (⟨#[]⟩ : ByteArray)] (0, 0) _ rfl (by (with_reducible repeat (first | refine blk_drewN ?_ _ | refine blk_drew ?_ | refine blk_alloc ?_ _)); refine blk_put (cs := #[.int .i64 0, .string (⟨#[]⟩ : ByteArray)]) ?_ 1 _ rfl; (with_reducible repeat (first | refine blk_drewN ?_ _ | refine blk_drew ?_ | refine blk_alloc ?_ _)); refine blk_put (cs := #[.int .i64 0, .string (⟨#[]⟩ : ByteArray)]) ?_ 0 _ rfl; (with_reducible repeat (first | refine blk_drewN ?_ _ | refine blk_drew ?_ | refine blk_alloc ?_ _)); exact BK133.out) Tryd.underlying27 rfl (by kernel_rfl)) rfl ?_
                exact ⟨by first | rfl | (simp [errW_none, errW_some] <;> rfl) | (simp [*, errW_none, errW_some] <;> rfl), by repeat (first | (with_reducible first | exact HB.out | apply below_alloc | apply pw_below_drewN | apply below_drew1 | refine below_set ?_ GE133.out) | exact HB.out)⟩
              · rw [if_neg c14] at H
                have c14b0 : (t136.toList == ([] : List UInt8)) = false := beq_eq_false_iff_ne.mpr c14
                have c14b1 : (t136.toList != ([] : List UInt8)) = true := bne_iff_ne.mpr c14
                replace H := Option.bind_eq_some_iff.mp H
                obtain ⟨⟨t137, t138⟩, A170, H⟩ := H
                replace H : (if (wrap64 (t137)) > 56 then (some (0, (⟨#[]⟩ : ByteArray), false, 131)) else (if 8 ≤ (wrap64 (8 + (wrap64 (t137)))) then (if (wrap64 (8 + (wrap64 (t137)))) ≤ (sx_.size : Int) then ((name_Encode.f (wrap64 (t134)) (sx_.extract 8 ((wrap64 (8 + (wrap64 (t137)))) : Int).toNat)).bind fun bt140 => (if bt140.2 = 0 then (if bt140.1.toList = sx_.toList then (some (wrap64 (t134), sx_.extract 8 ((wrap64 (8 + (wrap64 (t137)))) : Int).toNat, true, 0)) else (some (0, (⟨#[]⟩ : ByteArray), false, 131))) else (some (0, (⟨#[]⟩ : ByteArray), false, 131)))) else (none)) else (none))) = some (r1, r2, r3, r4) := H
                have A17 := Aside0.mk A170
                clear A170
                by_cases c18 : (wrap64 (t137)) > 56
                · rw [if_pos c18] at H
                  have c18b0 : decide (56 < (wrap64 (t137))) = true := decide_eq_true c18
                  clear c18
                  simp only [Option.some.injEq, Prod.mk.injEq] at H
                  obtain ⟨rfl, rfl, rfl, rfl⟩ := H
                  go_wp2_with (first | ((with_reducible refine gate_callee (f := 33) rfl ?_); refine goesL_ (some 37) rfl rfl Tryd.func33 (by kernel_rfl) rfl #[.string sx_, .string (⟨#[0]⟩ : ByteArray)] rfl (by (try simp only [List.map_toArray, List.map_cons, List.map_nil]); first | done | rfl | (simp only [List.length_drop, List.length_take]; rfl)) ?_; (with_reducible refine (strings_Trim.calls sx_ (⟨#[0]⟩ : ByteArray) t136 _ A13.out).mono ?_); rintro e w19 ⟨rfl, hb⟩; refine ⟨_, rfl, ?_⟩; have n0_ := Aside0.mk (blk_below (g := gb133) (o := .cells #[.int .i64 0, .string (⟨#[]⟩ : ByteArray)] 27 (0, 0)) (by (with_reducible repeat (first | refine blk_drewN ?_ _ | refine blk_drew ?_ | refine blk_alloc ?_ _)); exact BK133.out) hb); have n1_ := Aside0.mk (below_step (by repeat (first | (with_reducible first | exact HB.out | apply below_alloc | apply pw_below_drewN | apply below_drew1 | refine below_set ?_ GE133.out) | exact HB.out)) hb); clear BK133; clear HB; have BK133 := n0_; have HB := n1_; clear n0_ n1_; (try clear hb); (try clear hb2); (try clear hk); (try clear hi)) | ((with_reducible refine gate_callee (f := 40) rfl ?_); refine goesL_ (some 42) rfl rfl Tryd.func40 (by kernel_rfl) rfl #[.string sx_, .int .i64 4] rfl (by (try simp only [List.map_toArray, List.map_cons, List.map_nil]); first | done | rfl | (simp only [List.length_drop, List.length_take]; rfl)) ?_; (with_reducible refine (word_Take16.calls kj3 sx_ 4 t137 t138 _ A17.out).mono ?_); rintro e w20 ⟨rfl, hb⟩; refine ⟨_, rfl, ?_⟩; have n0_ := Aside0.mk (blk_below (g := gb133) (o := .cells #[.int .i64 0, .string (⟨#[]⟩ : ByteArray)] 27 (0, 0)) (by (with_reducible repeat (first | refine blk_drewN ?_ _ | refine blk_drew ?_ | refine blk_alloc ?_ _)); exact BK133.out) hb); have n1_ := Aside0.mk (below_step (by repeat (first | (with_reducible first | exact HB.out | apply below_alloc | apply pw_below_drewN | apply below_drew1 | refine below_set ?_ GE133.out) | exact HB.out)) hb); clear BK133; clear HB; have BK133 := n0_; have HB := n1_; clear n0_ n1_; (try clear hb); (try clear hb2); (try clear hk); (try clear hi); have hcz21_0 : w20.cell? ⟨gb133, 0, none⟩ = some (.int .i64 0) := (blk_cell BK133.out 0).trans rfl; have hcz21_1 : w20.cell? ⟨gb133, 1, none⟩ = some (.string (⟨#[]⟩ : ByteArray)) := (blk_cell BK133.out 1).trans rfl; have hfz21_0 := blk_frozen BK133.out 0; have hfz21_1 := blk_frozen BK133.out 1))
                  refine bodyPost_ret (results_ctt rfl _ _ gb133 27 #[.int .i64 0, .string (⟨#[]⟩ : ByteArray)] (0, 0) _ rfl (by (with_reducible repeat (first | refine blk_drewN ?_ _ | refine blk_drew ?_ | refine blk_alloc ?_ _)); refine blk_put (cs := #[.int .i64 0, .string (⟨#[]⟩ : ByteArray)]) ?_ 1 _ rfl; (with_reducible repeat (first | refine blk_drewN ?_ _ | refine blk_drew ?_ | refine blk_alloc ?_ _)); refine blk_put (cs := #[.int .i64 0, .string (⟨#[]⟩ : ByteArray)]) ?_ 0 _ rfl; (with_reducible repeat (first | refine blk_drewN ?_ _ | refine blk_drew ?_ | refine blk_alloc ?_ _)); exact BK133.out) Tryd.underlying27 rfl (by kernel_rfl)) rfl ?_
                  exact ⟨by first | rfl | (simp [errW_none, errW_some] <;> rfl) | (simp [*, errW_none, errW_some] <;> rfl), by repeat (first | (with_reducible first | exact HB.out | apply below_alloc | apply pw_below_drewN | apply below_drew1 | refine below_set ?_ GE133.out) | exact HB.out)⟩
                · rw [if_neg c18] at H
                  have c18b0 : decide (56 < (wrap64 (t137))) = false := decide_eq_false c18
                  clear c18
                  by_cases c22 : 8 ≤ (wrap64 (8 + (wrap64 (t137))))
                  · rw [if_pos c22] at H
                    have c22b0 := eq_true c22
                    have c22b1 : decide (8 ≤ (wrap64 (8 + (wrap64 (t137))))) = true := decide_eq_true c22
                    by_cases c23 : (wrap64 (8 + (wrap64 (t137)))) ≤ (sx_.size : Int)
                    · rw [if_pos c23] at H
                      have c23b0 := eq_true c23
                      have c23b1 : decide ((wrap64 (8 + (wrap64 (t137)))) ≤ (sx_.size : Int)) = true := decide_eq_true c23
                      replace H := Option.bind_eq_some_iff.mp H
                      obtain ⟨⟨t140, t141⟩, A240, H⟩ := H
                      replace H : (if t141 = 0 then (if t140.toList = sx_.toList then (some (wrap64 (t134), sx_.extract 8 ((wrap64 (8 + (wrap64 (t137)))) : Int).toNat, true, 0)) else (some (0, (⟨#[]⟩ : ByteArray), false, 131))) else (some (0, (⟨#[]⟩ : ByteArray), false, 131))) = some (r1, r2, r3, r4) := H
                      have A24 := Aside0.mk A240
                      clear A240
                      by_cases c25 : t141 = 0
                      · rw [if_pos c25] at H
                        have c25b0 : (t141 == 0) = true := beq_iff_eq.mpr c25
                        have c25b1 : (t141 != 0) = false := bne_eq_false_iff_eq.mpr c25
                        clear c25
                        by_cases c26 : t140.toList = sx_.toList
                        · rw [if_pos c26] at H
                          have c26b0 : (t140.toList == sx_.toList) = true := beq_iff_eq.mpr c26
                          have c26b1 : (t140.toList != sx_.toList) = false := bne_eq_false_iff_eq.mpr c26
                          clear c26
                          simp only [Option.some.injEq, Prod.mk.injEq] at H
                          obtain ⟨rfl, rfl, rfl, rfl⟩ := H
                          go_wp2_with (first | ((with_reducible refine gate_callee (f := 33) rfl ?_); refine goesL_ (some 37) rfl rfl Tryd.func33 (by kernel_rfl) rfl #[.string sx_, .string (⟨#[0]⟩ : ByteArray)] rfl (by (try simp only [List.map_toArray, List.map_cons, List.map_nil]); first | done | rfl | (simp only [List.length_drop, List.length_take]; rfl)) ?_; (with_reducible refine (strings_Trim.calls sx_ (⟨#[0]⟩ : ByteArray) t136 _ A13.out).mono ?_); rintro e w27 ⟨rfl, hb⟩; refine ⟨_, rfl, ?_⟩; have n0_ := Aside0.mk (blk_below (g := gb133) (o := .cells #[.int .i64 0, .string (⟨#[]⟩ : ByteArray)] 27 (0, 0)) (by (with_reducible repeat (first | refine blk_drewN ?_ _ | refine blk_drew ?_ | refine blk_alloc ?_ _)); exact BK133.out) hb); have n1_ := Aside0.mk (below_step (by repeat (first | (with_reducible first | exact HB.out | apply below_alloc | apply pw_below_drewN | apply below_drew1 | refine below_set ?_ GE133.out) | exact HB.out)) hb); clear BK133; clear HB; have BK133 := n0_; have HB := n1_; clear n0_ n1_; (try clear hb); (try clear hb2); (try clear hk); (try clear hi)) | ((with_reducible refine gate_callee (f := 40) rfl ?_); refine goesL_ (some 42) rfl rfl Tryd.func40 (by kernel_rfl) rfl #[.string sx_, .int .i64 4] rfl (by (try simp only [List.map_toArray, List.map_cons, List.map_nil]); first | done | rfl | (simp only [List.length_drop, List.length_take]; rfl)) ?_; (with_reducible refine (word_Take16.calls kj3 sx_ 4 t137 t138 _ A17.out).mono ?_); rintro e w28 ⟨rfl, hb⟩; refine ⟨_, rfl, ?_⟩; have n0_ := Aside0.mk (blk_below (g := gb133) (o := .cells #[.int .i64 0, .string (⟨#[]⟩ : ByteArray)] 27 (0, 0)) (by (with_reducible repeat (first | refine blk_drewN ?_ _ | refine blk_drew ?_ | refine blk_alloc ?_ _)); exact BK133.out) hb); have n1_ := Aside0.mk (below_step (by repeat (first | (with_reducible first | exact HB.out | apply below_alloc | apply pw_below_drewN | apply below_drew1 | refine below_set ?_ GE133.out) | exact HB.out)) hb); clear BK133; clear HB; have BK133 := n0_; have HB := n1_; clear n0_ n1_; (try clear hb); (try clear hb2); (try clear hk); (try clear hi)) | ((with_reducible refine gate_dst (N := 11) rfl ?_); (try (refine gate_guard (by rfl) ?_; dsimp only)); refine box_event ?hg (N := 11) ?hd (cs := #[.int .i64 0, .string (⟨#[]⟩ : ByteArray)]) (t := 27) ?hr ?_; (case hd => rfl); (case hg => rfl); (case hr => first | (go_simp; done) | (go_simp; rfl)); intro gb139 hg w29 hbox hb; have n0_ := Aside0.mk (blk_below (g := gb133) (o := .cells #[.int .i64 0, .string (⟨#[]⟩ : ByteArray)] 27 (0, 0)) (by (with_reducible repeat (first | refine blk_drewN ?_ _ | refine blk_drew ?_ | refine blk_alloc ?_ _)); exact BK133.out) hb); have n1_ := Aside0.mk (below_step (by repeat (first | (with_reducible first | exact HB.out | apply below_alloc | apply pw_below_drewN | apply below_drew1 | refine below_set ?_ GE133.out) | exact HB.out)) hb); have n2_ := Aside0.mk (hbox); have n3_ := Aside0.mk ((by rw [hg]; exact (below_size (by repeat (first | (with_reducible first | exact HB.out | apply below_alloc | apply pw_below_drewN | apply below_drew1 | refine below_set ?_ GE133.out) | exact HB.out))) : w.heap.size ≤ gb139)); have n4_ := Aside0.mk ((by rw [hg]; exact (below_size (by repeat (first | (with_reducible first | exact HB.out | apply below_alloc | apply pw_below_drewN | apply below_drew1 | refine below_set ?_ GE133.out) | exact HB.out))) : w.heap.size ≤ gb139)); have n5_ := Aside0.mk ((by rw [hg]; exact Nat.ne_of_lt (blk_lt (g := gb133) (o := .cells #[.int .i64 0, .string (⟨#[]⟩ : ByteArray)] 27 (0, 0)) (by (with_reducible repeat (first | refine blk_drewN ?_ _ | refine blk_drew ?_ | refine blk_alloc ?_ _)); exact BK133.out)) : gb133 ≠ gb139)); have n6_ := Aside0.mk ((by rw [hg]; exact Nat.ne_of_gt (blk_lt (g := gb133) (o := .cells #[.int .i64 0, .string (⟨#[]⟩ : ByteArray)] 27 (0, 0)) (by (with_reducible repeat (first | refine blk_drewN ?_ _ | refine blk_drew ?_ | refine blk_alloc ?_ _)); exact BK133.out)) : gb139 ≠ gb133)); clear BK133; clear HB; have BK133 := n0_; have HB := n1_; have BK139 := n2_; have GW139 := n3_; have GE139 := n4_; have NB133_139 := n5_; have NB139_133 := n6_; clear n0_ n1_ n2_ n3_ n4_ n5_ n6_; clear hb hbox hg; have hnb30 := NB139_133.out; have hnc30 := NB133_139.out; have hcz31_0 : w29.cell? ⟨gb139, 0, none⟩ = some (.int .i64 0) := (blk_cell BK139.out 0).trans rfl; have hcz31_1 : w29.cell? ⟨gb139, 1, none⟩ = some (.string (⟨#[]⟩ : ByteArray)) := (blk_cell BK139.out 1).trans rfl; have hfz31_0 := blk_frozen BK139.out 0; have hfz31_1 := blk_frozen BK139.out 1) | ((with_reducible refine gate_callee (f := 12) rfl ?_); refine goesL_ (some 59) rfl rfl Tryd.func12 (by kernel_rfl) rfl #[.agg #[.int .i64 (wrap64 (t134)), .string (sx_.extract 8 ((wrap64 (8 + (wrap64 (t137)))) : Int).toNat)]] rfl (by (try simp only [List.map_toArray, List.map_cons, List.map_nil]); first | done | rfl | (simp only [List.length_drop, List.length_take]; rfl)) ?_; (with_reducible refine (name_Encode.calls (wrap64 (t134)) (sx_.extract 8 ((wrap64 (8 + (wrap64 (t137)))) : Int).toNat) t140 t141 _ A24.out).mono ?_); rintro e w32 ⟨rfl, hb⟩; refine ⟨_, rfl, ?_⟩; have n0_ := Aside0.mk (blk_below (g := gb133) (o := .cells #[.int .i64 0, .string (⟨#[]⟩ : ByteArray)] 27 (0, 0)) (by (with_reducible repeat (first | refine blk_drewN ?_ _ | refine blk_drew ?_ | refine blk_alloc ?_ _)); refine blk_far ?_ NB133_139.out _; (with_reducible repeat (first | refine blk_drewN ?_ _ | refine blk_drew ?_ | refine blk_alloc ?_ _)); refine blk_far ?_ NB133_139.out _; (with_reducible repeat (first | refine blk_drewN ?_ _ | refine blk_drew ?_ | refine blk_alloc ?_ _)); exact BK133.out) hb); have n1_ := Aside0.mk (blk_below (g := gb139) (o := .cells #[.int .i64 (wrap64 (t134)), .string (sx_.extract 8 ((wrap64 (8 + (wrap64 (t137)))) : Int).toNat)] 27 (0, 0)) (by (with_reducible repeat (first | refine blk_drewN ?_ _ | refine blk_drew ?_ | refine blk_alloc ?_ _)); refine blk_put (cs := #[.int .i64 (wrap64 (t134)), .string (⟨#[]⟩ : ByteArray)]) ?_ 1 _ rfl; (with_reducible repeat (first | refine blk_drewN ?_ _ | refine blk_drew ?_ | refine blk_alloc ?_ _)); refine blk_put (cs := #[.int .i64 0, .string (⟨#[]⟩ : ByteArray)]) ?_ 0 _ rfl; (with_reducible repeat (first | refine blk_drewN ?_ _ | refine blk_drew ?_ | refine blk_alloc ?_ _)); exact BK139.out) hb); have n2_ := Aside0.mk (below_step (by repeat (first | (with_reducible first | exact HB.out | apply below_alloc | apply pw_below_drewN | apply below_drew1 | refine below_set ?_ GE133.out | refine below_set ?_ GE139.out) | exact HB.out)) hb); clear BK133; clear BK139; clear HB; have BK133 := n0_; have BK139 := n1_; have HB := n2_; clear n0_ n1_ n2_; (try clear hb); (try clear hb2); (try clear hk); (try clear hi); have hcz33_0 : w32.cell? ⟨gb139, 0, none⟩ = some (.int .i64 (wrap64 (t134))) := (blk_cell BK139.out 0).trans rfl; have hcz33_1 : w32.cell? ⟨gb139, 1, none⟩ = some (.string (sx_.extract 8 ((wrap64 (8 + (wrap64 (t137)))) : Int).toNat)) := (blk_cell BK139.out 1).trans rfl; have hfz33_0 := blk_frozen BK139.out 0; have hfz33_1 := blk_frozen BK139.out 1; have hcz34_0 : w32.cell? ⟨gb133, 0, none⟩ = some (.int .i64 0) := (blk_cell BK133.out 0).trans rfl; have hcz34_1 : w32.cell? ⟨gb133, 1, none⟩ = some (.string (⟨#[]⟩ : ByteArray)) := (blk_cell BK133.out 1).trans rfl; have hfz34_0 := blk_frozen BK133.out 0; have hfz34_1 := blk_frozen BK133.out 1))
                          refine bodyPost_ret (results_ctt rfl _ _ gb133 27 #[.int .i64 (wrap64 (t134)), .string (sx_.extract 8 ((wrap64 (8 + (wrap64 (t137)))) : Int).toNat)] (0, 0) _ rfl (by (with_reducible repeat (first | refine blk_drewN ?_ _ | refine blk_drew ?_ | refine blk_alloc ?_ _)); refine blk_put (cs := #[.int .i64 (wrap64 (t134)), .string (⟨#[]⟩ : ByteArray)]) ?_ 1 _ rfl; (with_reducible repeat (first | refine blk_drewN ?_ _ | refine blk_drew ?_ | refine blk_alloc ?_ _)); refine blk_put (cs := #[.int .i64 0, .string (⟨#[]⟩ : ByteArray)]) ?_ 0 _ rfl; (with_reducible repeat (first | refine blk_drewN ?_ _ | refine blk_drew ?_ | refine blk_alloc ?_ _)); exact BK133.out) Tryd.underlying27 rfl (by kernel_rfl)) rfl ?_
                          exact ⟨by first | rfl | (simp [errW_none, errW_some] <;> rfl) | (simp [*, errW_none, errW_some] <;> rfl), by repeat (first | (with_reducible first | exact HB.out | apply below_alloc | apply pw_below_drewN | apply below_drew1 | refine below_set ?_ GE133.out | refine below_set ?_ GE139.out) | exact HB.out)⟩
                        · rw [if_neg c26] at H
                          have c26b0 : (t140.toList == sx_.toList) = false := beq_eq_false_iff_ne.mpr c26
                          have c26b1 : (t140.toList != sx_.toList) = true := bne_iff_ne.mpr c26
                          simp only [Option.some.injEq, Prod.mk.injEq] at H
                          obtain ⟨rfl, rfl, rfl, rfl⟩ := H
                          go_wp2_with (first | ((with_reducible refine gate_callee (f := 33) rfl ?_); refine goesL_ (some 37) rfl rfl Tryd.func33 (by kernel_rfl) rfl #[.string sx_, .string (⟨#[0]⟩ : ByteArray)] rfl (by (try simp only [List.map_toArray, List.map_cons, List.map_nil]); first | done | rfl | (simp only [List.length_drop, List.length_take]; rfl)) ?_; (with_reducible refine (strings_Trim.calls sx_ (⟨#[0]⟩ : ByteArray) t136 _ A13.out).mono ?_); rintro e w35 ⟨rfl, hb⟩; refine ⟨_, rfl, ?_⟩; have n0_ := Aside0.mk (blk_below (g := gb133) (o := .cells #[.int .i64 0, .string (⟨#[]⟩ : ByteArray)] 27 (0, 0)) (by (with_reducible repeat (first | refine blk_drewN ?_ _ | refine blk_drew ?_ | refine blk_alloc ?_ _)); exact BK133.out) hb); have n1_ := Aside0.mk (below_step (by repeat (first | (with_reducible first | exact HB.out | apply below_alloc | apply pw_below_drewN | apply below_drew1 | refine below_set ?_ GE133.out) | exact HB.out)) hb); clear BK133; clear HB; have BK133 := n0_; have HB := n1_; clear n0_ n1_; (try clear hb); (try clear hb2); (try clear hk); (try clear hi)) | ((with_reducible refine gate_callee (f := 40) rfl ?_); refine goesL_ (some 42) rfl rfl Tryd.func40 (by kernel_rfl) rfl #[.string sx_, .int .i64 4] rfl (by (try simp only [List.map_toArray, List.map_cons, List.map_nil]); first | done | rfl | (simp only [List.length_drop, List.length_take]; rfl)) ?_; (with_reducible refine (word_Take16.calls kj3 sx_ 4 t137 t138 _ A17.out).mono ?_); rintro e w36 ⟨rfl, hb⟩; refine ⟨_, rfl, ?_⟩; have n0_ := Aside0.mk (blk_below (g := gb133) (o := .cells #[.int .i64 0, .string (⟨#[]⟩ : ByteArray)] 27 (0, 0)) (by (with_reducible repeat (first | refine blk_drewN ?_ _ | refine blk_drew ?_ | refine blk_alloc ?_ _)); exact BK133.out) hb); have n1_ := Aside0.mk (below_step (by repeat (first | (with_reducible first | exact HB.out | apply below_alloc | apply pw_below_drewN | apply below_drew1 | refine below_set ?_ GE133.out) | exact HB.out)) hb); clear BK133; clear HB; have BK133 := n0_; have HB := n1_; clear n0_ n1_; (try clear hb); (try clear hb2); (try clear hk); (try clear hi)) | ((with_reducible refine gate_dst (N := 11) rfl ?_); (try (refine gate_guard (by rfl) ?_; dsimp only)); refine box_event ?hg (N := 11) ?hd (cs := #[.int .i64 0, .string (⟨#[]⟩ : ByteArray)]) (t := 27) ?hr ?_; (case hd => rfl); (case hg => rfl); (case hr => first | (go_simp; done) | (go_simp; rfl)); intro gb139 hg w37 hbox hb; have n0_ := Aside0.mk (blk_below (g := gb133) (o := .cells #[.int .i64 0, .string (⟨#[]⟩ : ByteArray)] 27 (0, 0)) (by (with_reducible repeat (first | refine blk_drewN ?_ _ | refine blk_drew ?_ | refine blk_alloc ?_ _)); exact BK133.out) hb); have n1_ := Aside0.mk (below_step (by repeat (first | (with_reducible first | exact HB.out | apply below_alloc | apply pw_below_drewN | apply below_drew1 | refine below_set ?_ GE133.out) | exact HB.out)) hb); have n2_ := Aside0.mk (hbox); have n3_ := Aside0.mk ((by rw [hg]; exact (below_size (by repeat (first | (with_reducible first | exact HB.out | apply below_alloc | apply pw_below_drewN | apply below_drew1 | refine below_set ?_ GE133.out) | exact HB.out))) : w.heap.size ≤ gb139)); have n4_ := Aside0.mk ((by rw [hg]; exact (below_size (by repeat (first | (with_reducible first | exact HB.out | apply below_alloc | apply pw_below_drewN | apply below_drew1 | refine below_set ?_ GE133.out) | exact HB.out))) : w.heap.size ≤ gb139)); have n5_ := Aside0.mk ((by rw [hg]; exact Nat.ne_of_lt (blk_lt (g := gb133) (o := .cells #[.int .i64 0, .string (⟨#[]⟩ : ByteArray)] 27 (0, 0)) (by (with_reducible repeat (first | refine blk_drewN ?_ _ | refine blk_drew ?_ | refine blk_alloc ?_ _)); exact BK133.out)) : gb133 ≠ gb139)); have n6_ := Aside0.mk ((by rw [hg]; exact Nat.ne_of_gt (blk_lt (g := gb133) (o := .cells #[.int .i64 0, .string (⟨#[]⟩ : ByteArray)] 27 (0, 0)) (by (with_reducible repeat (first | refine blk_drewN ?_ _ | refine blk_drew ?_ | refine blk_alloc ?_ _)); exact BK133.out)) : gb139 ≠ gb133)); clear BK133; clear HB; have BK133 := n0_; have HB := n1_; have BK139 := n2_; have GW139 := n3_; have GE139 := n4_; have NB133_139 := n5_; have NB139_133 := n6_; clear n0_ n1_ n2_ n3_ n4_ n5_ n6_; clear hb hbox hg; have hnb38 := NB139_133.out; have hnc38 := NB133_139.out; have hcz39_0 : w37.cell? ⟨gb139, 0, none⟩ = some (.int .i64 0) := (blk_cell BK139.out 0).trans rfl; have hcz39_1 : w37.cell? ⟨gb139, 1, none⟩ = some (.string (⟨#[]⟩ : ByteArray)) := (blk_cell BK139.out 1).trans rfl; have hfz39_0 := blk_frozen BK139.out 0; have hfz39_1 := blk_frozen BK139.out 1) | ((with_reducible refine gate_callee (f := 12) rfl ?_); refine goesL_ (some 59) rfl rfl Tryd.func12 (by kernel_rfl) rfl #[.agg #[.int .i64 (wrap64 (t134)), .string (sx_.extract 8 ((wrap64 (8 + (wrap64 (t137)))) : Int).toNat)]] rfl (by (try simp only [List.map_toArray, List.map_cons, List.map_nil]); first | done | rfl | (simp only [List.length_drop, List.length_take]; rfl)) ?_; (with_reducible refine (name_Encode.calls (wrap64 (t134)) (sx_.extract 8 ((wrap64 (8 + (wrap64 (t137)))) : Int).toNat) t140 t141 _ A24.out).mono ?_); rintro e w40 ⟨rfl, hb⟩; refine ⟨_, rfl, ?_⟩; have n0_ := Aside0.mk (blk_below (g := gb133) (o := .cells #[.int .i64 0, .string (⟨#[]⟩ : ByteArray)] 27 (0, 0)) (by (with_reducible repeat (first | refine blk_drewN ?_ _ | refine blk_drew ?_ | refine blk_alloc ?_ _)); refine blk_far ?_ NB133_139.out _; (with_reducible repeat (first | refine blk_drewN ?_ _ | refine blk_drew ?_ | refine blk_alloc ?_ _)); refine blk_far ?_ NB133_139.out _; (with_reducible repeat (first | refine blk_drewN ?_ _ | refine blk_drew ?_ | refine blk_alloc ?_ _)); exact BK133.out) hb); have n1_ := Aside0.mk (blk_below (g := gb139) (o := .cells #[.int .i64 (wrap64 (t134)), .string (sx_.extract 8 ((wrap64 (8 + (wrap64 (t137)))) : Int).toNat)] 27 (0, 0)) (by (with_reducible repeat (first | refine blk_drewN ?_ _ | refine blk_drew ?_ | refine blk_alloc ?_ _)); refine blk_put (cs := #[.int .i64 (wrap64 (t134)), .string (⟨#[]⟩ : ByteArray)]) ?_ 1 _ rfl; (with_reducible repeat (first | refine blk_drewN ?_ _ | refine blk_drew ?_ | refine blk_alloc ?_ _)); refine blk_put (cs := #[.int .i64 0, .string (⟨#[]⟩ : ByteArray)]) ?_ 0 _ rfl; (with_reducible repeat (first | refine blk_drewN ?_ _ | refine blk_drew ?_ | refine blk_alloc ?_ _)); exact BK139.out) hb); have n2_ := Aside0.mk (below_step (by repeat (first | (with_reducible first | exact HB.out | apply below_alloc | apply pw_below_drewN | apply below_drew1 | refine below_set ?_ GE133.out | refine below_set ?_ GE139.out) | exact HB.out)) hb); clear BK133; clear BK139; clear HB; have BK133 := n0_; have BK139 := n1_; have HB := n2_; clear n0_ n1_ n2_; (try clear hb); (try clear hb2); (try clear hk); (try clear hi); have hcz41_0 : w40.cell? ⟨gb133, 0, none⟩ = some (.int .i64 0) := (blk_cell BK133.out 0).trans rfl; have hcz41_1 : w40.cell? ⟨gb133, 1, none⟩ = some (.string (⟨#[]⟩ : ByteArray)) := (blk_cell BK133.out 1).trans rfl; have hfz41_0 := blk_frozen BK133.out 0; have hfz41_1 := blk_frozen BK133.out 1))
                          refine bodyPost_ret (results_ctt rfl _ _ gb133 27 #[.int .i64 0, .string (⟨#[]⟩ : ByteArray)] (0, 0) _ rfl (by (with_reducible repeat (first | refine blk_drewN ?_ _ | refine blk_drew ?_ | refine blk_alloc ?_ _)); refine blk_put (cs := #[.int .i64 0, .string (⟨#[]⟩ : ByteArray)]) ?_ 1 _ rfl; (with_reducible repeat (first | refine blk_drewN ?_ _ | refine blk_drew ?_ | refine blk_alloc ?_ _)); refine blk_put (cs := #[.int .i64 0, .string (⟨#[]⟩ : ByteArray)]) ?_ 0 _ rfl; (with_reducible repeat (first | refine blk_drewN ?_ _ | refine blk_drew ?_ | refine blk_alloc ?_ _)); exact BK133.out) Tryd.underlying27 rfl (by kernel_rfl)) rfl ?_
                          exact ⟨by first | rfl | (simp [errW_none, errW_some] <;> rfl) | (simp [*, errW_none, errW_some] <;> rfl), by repeat (first | (with_reducible first | exact HB.out | apply below_alloc | apply pw_below_drewN | apply below_drew1 | refine below_set ?_ GE133.out | refine below_set ?_ GE139.out) | exact HB.out)⟩
                      · rw [if_neg c25] at H
                        have c25b0 : (t141 == 0) = false := beq_eq_false_iff_ne.mpr c25
                        have c25b1 : (t141 != 0) = true := bne_iff_ne.mpr c25
                        simp only [Option.some.injEq, Prod.mk.injEq] at H
                        obtain ⟨rfl, rfl, rfl, rfl⟩ := H
                        go_wp2_with (first | ((with_reducible refine gate_callee (f := 33) rfl ?_); refine goesL_ (some 37) rfl rfl Tryd.func33 (by kernel_rfl) rfl #[.string sx_, .string (⟨#[0]⟩ : ByteArray)] rfl (by (try simp only [List.map_toArray, List.map_cons, List.map_nil]); first | done | rfl | (simp only [List.length_drop, List.length_take]; rfl)) ?_; (with_reducible refine (strings_Trim.calls sx_ (⟨#[0]⟩ : ByteArray) t136 _ A13.out).mono ?_); rintro e w42 ⟨rfl, hb⟩; refine ⟨_, rfl, ?_⟩; have n0_ := Aside0.mk (blk_below (g := gb133) (o := .cells #[.int .i64 0, .string (⟨#[]⟩ : ByteArray)] 27 (0, 0)) (by (with_reducible repeat (first | refine blk_drewN ?_ _ | refine blk_drew ?_ | refine blk_alloc ?_ _)); exact BK133.out) hb); have n1_ := Aside0.mk (below_step (by repeat (first | (with_reducible first | exact HB.out | apply below_alloc | apply pw_below_drewN | apply below_drew1 | refine below_set ?_ GE133.out) | exact HB.out)) hb); clear BK133; clear HB; have BK133 := n0_; have HB := n1_; clear n0_ n1_; (try clear hb); (try clear hb2); (try clear hk); (try clear hi)) | ((with_reducible refine gate_callee (f := 40) rfl ?_); refine goesL_ (some 42) rfl rfl Tryd.func40 (by kernel_rfl) rfl #[.string sx_, .int .i64 4] rfl (by (try simp only [List.map_toArray, List.map_cons, List.map_nil]); first | done | rfl | (simp only [List.length_drop, List.length_take]; rfl)) ?_; (with_reducible refine (word_Take16.calls kj3 sx_ 4 t137 t138 _ A17.out).mono ?_); rintro e w43 ⟨rfl, hb⟩; refine ⟨_, rfl, ?_⟩; have n0_ := Aside0.mk (blk_below (g := gb133) (o := .cells #[.int .i64 0, .string (⟨#[]⟩ : ByteArray)] 27 (0, 0)) (by (with_reducible repeat (first | refine blk_drewN ?_ _ | refine blk_drew ?_ | refine blk_alloc ?_ _)); exact BK133.out) hb); have n1_ := Aside0.mk (below_step (by repeat (first | (with_reducible first | exact HB.out | apply below_alloc | apply pw_below_drewN | apply below_drew1 | refine below_set ?_ GE133.out) | exact HB.out)) hb); clear BK133; clear HB; have BK133 := n0_; have HB := n1_; clear n0_ n1_; (try clear hb); (try clear hb2); (try clear hk); (try clear hi)) | ((with_reducible refine gate_dst (N := 11) rfl ?_); (try (refine gate_guard (by rfl) ?_; dsimp only)); refine box_event ?hg (N := 11) ?hd (cs := #[.int .i64 0, .string (⟨#[]⟩ : ByteArray)]) (t := 27) ?hr ?_; (case hd => rfl); (case hg => rfl); (case hr => first | (go_simp; done) | (go_simp; rfl)); intro gb139 hg w44 hbox hb; have n0_ := Aside0.mk (blk_below (g := gb133) (o := .cells #[.int .i64 0, .string (⟨#[]⟩ : ByteArray)] 27 (0, 0)) (by (with_reducible repeat (first | refine blk_drewN ?_ _ | refine blk_drew ?_ | refine blk_alloc ?_ _)); exact BK133.out) hb); have n1_ := Aside0.mk (below_step (by repeat (first | (with_reducible first | exact HB.out | apply below_alloc | apply pw_below_drewN | apply below_drew1 | refine below_set ?_ GE133.out) | exact HB.out)) hb); have n2_ := Aside0.mk (hbox); have n3_ := Aside0.mk ((by rw [hg]; exact (below_size (by repeat (first | (with_reducible first | exact HB.out | apply below_alloc | apply pw_below_drewN | apply below_drew1 | refine below_set ?_ GE133.out) | exact HB.out))) : w.heap.size ≤ gb139)); have n4_ := Aside0.mk ((by rw [hg]; exact (below_size (by repeat (first | (with_reducible first | exact HB.out | apply below_alloc | apply pw_below_drewN | apply below_drew1 | refine below_set ?_ GE133.out) | exact HB.out))) : w.heap.size ≤ gb139)); have n5_ := Aside0.mk ((by rw [hg]; exact Nat.ne_of_lt (blk_lt (g := gb133) (o := .cells #[.int .i64 0, .string (⟨#[]⟩ : ByteArray)] 27 (0, 0)) (by (with_reducible repeat (first | refine blk_drewN ?_ _ | refine blk_drew ?_ | refine blk_alloc ?_ _)); exact BK133.out)) : gb133 ≠ gb139)); have n6_ := Aside0.mk ((by rw [hg]; exact Nat.ne_of_gt (blk_lt (g := gb133) (o := .cells #[.int .i64 0, .string (⟨#[]⟩ : ByteArray)] 27 (0, 0)) (by (with_reducible repeat (first | refine blk_drewN ?_ _ | refine blk_drew ?_ | refine blk_alloc ?_ _)); exact BK133.out)) : gb139 ≠ gb133)); clear BK133; clear HB; have BK133 := n0_; have HB := n1_; have BK139 := n2_; have GW139 := n3_; have GE139 := n4_; have NB133_139 := n5_; have NB139_133 := n6_; clear n0_ n1_ n2_ n3_ n4_ n5_ n6_; clear hb hbox hg; have hnb45 := NB139_133.out; have hnc45 := NB133_139.out; have hcz46_0 : w44.cell? ⟨gb139, 0, none⟩ = some (.int .i64 0) := (blk_cell BK139.out 0).trans rfl; have hcz46_1 : w44.cell? ⟨gb139, 1, none⟩ = some (.string (⟨#[]⟩ : ByteArray)) := (blk_cell BK139.out 1).trans rfl; have hfz46_0 := blk_frozen BK139.out 0; have hfz46_1 := blk_frozen BK139.out 1) | ((with_reducible refine gate_callee (f := 12) rfl ?_); refine goesL_ (some 59) rfl rfl Tryd.func12 (by kernel_rfl) rfl #[.agg #[.int .i64 (wrap64 (t134)), .string (sx_.extract 8 ((wrap64 (8 + (wrap64 (t137)))) : Int).toNat)]] rfl (by (try simp only [List.map_toArray, List.map_cons, List.map_nil]); first | done | rfl | (simp only [List.length_drop, List.length_take]; rfl)) ?_; (with_reducible refine (name_Encode.calls (wrap64 (t134)) (sx_.extract 8 ((wrap64 (8 + (wrap64 (t137)))) : Int).toNat) t140 t141 _ A24.out).mono ?_); rintro e w47 ⟨rfl, hb⟩; refine ⟨_, rfl, ?_⟩; have n0_ := Aside0.mk (blk_below (g := gb133) (o := .cells #[.int .i64 0, .string (⟨#[]⟩ : ByteArray)] 27 (0, 0)) (by (with_reducible repeat (first | refine blk_drewN ?_ _ | refine blk_drew ?_ | refine blk_alloc ?_ _)); refine blk_far ?_ NB133_139.out _; (with_reducible repeat (first | refine blk_drewN ?_ _ | refine blk_drew ?_ | refine blk_alloc ?_ _)); refine blk_far ?_ NB133_139.out _; (with_reducible repeat (first | refine blk_drewN ?_ _ | refine blk_drew ?_ | refine blk_alloc ?_ _)); exact BK133.out) hb); have n1_ := Aside0.mk (blk_below (g := gb139) (o := .cells #[.int .i64 (wrap64 (t134)), .string (sx_.extract 8 ((wrap64 (8 + (wrap64 (t137)))) : Int).toNat)] 27 (0, 0)) (by (with_reducible repeat (first | refine blk_drewN ?_ _ | refine blk_drew ?_ | refine blk_alloc ?_ _)); refine blk_put (cs := #[.int .i64 (wrap64 (t134)), .string (⟨#[]⟩ : ByteArray)]) ?_ 1 _ rfl; (with_reducible repeat (first | refine blk_drewN ?_ _ | refine blk_drew ?_ | refine blk_alloc ?_ _)); refine blk_put (cs := #[.int .i64 0, .string (⟨#[]⟩ : ByteArray)]) ?_ 0 _ rfl; (with_reducible repeat (first | refine blk_drewN ?_ _ | refine blk_drew ?_ | refine blk_alloc ?_ _)); exact BK139.out) hb); have n2_ := Aside0.mk (below_step (by repeat (first | (with_reducible first | exact HB.out | apply below_alloc | apply pw_below_drewN | apply below_drew1 | refine below_set ?_ GE133.out | refine below_set ?_ GE139.out) | exact HB.out)) hb); clear BK133; clear BK139; clear HB; have BK133 := n0_; have BK139 := n1_; have HB := n2_; clear n0_ n1_ n2_; (try clear hb); (try clear hb2); (try clear hk); (try clear hi); have hcz48_0 : w47.cell? ⟨gb133, 0, none⟩ = some (.int .i64 0) := (blk_cell BK133.out 0).trans rfl; have hcz48_1 : w47.cell? ⟨gb133, 1, none⟩ = some (.string (⟨#[]⟩ : ByteArray)) := (blk_cell BK133.out 1).trans rfl; have hfz48_0 := blk_frozen BK133.out 0; have hfz48_1 := blk_frozen BK133.out 1))
                        refine bodyPost_ret (results_ctt rfl _ _ gb133 27 #[.int .i64 0, .string (⟨#[]⟩ : ByteArray)] (0, 0) _ rfl (by (with_reducible repeat (first | refine blk_drewN ?_ _ | refine blk_drew ?_ | refine blk_alloc ?_ _)); refine blk_put (cs := #[.int .i64 0, .string (⟨#[]⟩ : ByteArray)]) ?_ 1 _ rfl; (with_reducible repeat (first | refine blk_drewN ?_ _ | refine blk_drew ?_ | refine blk_alloc ?_ _)); refine blk_put (cs := #[.int .i64 0, .string (⟨#[]⟩ : ByteArray)]) ?_ 0 _ rfl; (with_reducible repeat (first | refine blk_drewN ?_ _ | refine blk_drew ?_ | refine blk_alloc ?_ _)); exact BK133.out) Tryd.underlying27 rfl (by kernel_rfl)) rfl ?_
                        exact ⟨by first | rfl | (simp [errW_none, errW_some] <;> rfl) | (simp [*, errW_none, errW_some] <;> rfl), by repeat (first | (with_reducible first | exact HB.out | apply below_alloc | apply pw_below_drewN | apply below_drew1 | refine below_set ?_ GE133.out | refine below_set ?_ GE139.out) | exact HB.out)⟩
                    · rw [if_neg c23] at H
                      exact absurd H (by simp)
                  · rw [if_neg c22] at H
                    exact absurd H (by simp)
            · rw [if_neg c12] at H
              exact absurd H (by simp)
          · rw [if_neg c11] at H
            exact absurd H (by simp)
        · rw [if_neg c10] at H
          exact absurd H (by simp)

end Go.Proofs.YtgciocgdppaaiaaDoor.P

-- Printed by wip/tools/myprint.py (the kit's print over given contracts).
namespace Go.Proofs.YtgciocgdppaaiaaDoor.P
open Go.RowKit Go.Proofs.YtgciocgdppaaiaaDoorW.PrintWords Go.Proofs.YtgciocgdppaaiaaDoorW.PrintLast Go.Proofs.YtgciocgdppaaiaaDoorW.PrintMore
attribute [local go_sem] max2_int min2_int max_two min_two max_three min_three max_four min_four Go.Proofs.YtgciocgdppaaiaaDoor.bytesLess_flip Go.Proofs.YtgciocgdppaaiaaDoor.bytesLess_flip2
set_option linter.unusedVariables false
set_option linter.unusedSimpArgs false

/-! ### signetref13_Decode: function 15 -/
mutual
def signetref13_Decode.j0 : Nat → ByteArray → Int → Bool → Option (Int × ByteArray × Bool × Int)
  | 0, _, _, _ => none
  | k + 1, x0, x1, x31 => if x31 = true then (some (0, (⟨#[]⟩ : ByteArray), false, 131)) else (if 0 ≤ x1 then (if x1 ≤ (wrap64 (x1 + 64)) then (if (wrap64 (x1 + 64)) ≤ (x0.size : Int) then (signetref13_Decode.l0 k (x0.extract (x1 : Int).toNat ((wrap64 (x1 + 64)) : Int).toNat) true 0) else (none)) else (none)) else (none))
def signetref13_Decode.l0 : Nat → ByteArray → Bool → Int → Option (Int × ByteArray × Bool × Int)
  | 0, _, _, _ => none
  | k + 1, x7, x8, x9 => if x9 < 64 then (if x8 = true then (if 0 ≤ x9 then (if x9 < (x7.size : Int) then (signetref13_Decode.l0 k x7 ((bt x7 x9) == 0) (wrap64 (x9 + 1))) else (none)) else (none)) else (signetref13_Decode.l0 k x7 false (wrap64 (x9 + 1)))) else (if x8 = true then (some (0, (⟨#[]⟩ : ByteArray), false, 0)) else ((signetref01_Take.f k x7 0 4).bind fun bt144 => ((signetref01_Take.f k x7 4 2).bind fun bt146 => (if bt146.1 > 56 then (some (0, (⟨#[]⟩ : ByteArray), false, 131)) else (if 8 ≤ (wrap64 (8 + (wrap64 (bt146.1)))) then (if (wrap64 (8 + (wrap64 (bt146.1)))) ≤ (x7.size : Int) then ((signetref13_Encode.f k (wrap64 (bt144.1)) (x7.extract 8 ((wrap64 (8 + (wrap64 (bt146.1)))) : Int).toNat)).bind fun bt149 => (if bt149.2 = 0 then (if bt149.1.toList = x7.toList then (some (wrap64 (bt144.1), x7.extract 8 ((wrap64 (8 + (wrap64 (bt146.1)))) : Int).toNat, true, 0)) else (some (0, (⟨#[]⟩ : ByteArray), false, 131))) else (some (0, (⟨#[]⟩ : ByteArray), false, 131)))) else (none)) else (none))))))
end
def signetref13_Decode.f (k : Nat) (a0 : ByteArray) (a1 : Int) : Option (Int × ByteArray × Bool × Int) := if a1 < 0 then (signetref13_Decode.j0 k a0 a1 true) else (if a1 > (a0.size : Int) then (signetref13_Decode.j0 k a0 a1 true) else (signetref13_Decode.j0 k a0 a1 (decide ((wrap64 ((a0.size : Int) - a1)) < 64))))
theorem signetref13_Decode.mono_l : ∀ k, (∀ y0 y1 y2, LeO (signetref13_Decode.j0 k y0 y1 y2) (signetref13_Decode.j0 (k + 1) y0 y1 y2)) ∧ (∀ y0 y1 y2, LeO (signetref13_Decode.l0 k y0 y1 y2) (signetref13_Decode.l0 (k + 1) y0 y1 y2))
  | 0 => ⟨fun _ _ _ r h => by simp [signetref13_Decode.j0] at h, fun _ _ _ r h => by simp [signetref13_Decode.l0] at h⟩
  | k + 1 => by
    obtain ⟨ih0, ih1⟩ := signetref13_Decode.mono_l k
    refine ⟨?_, ?_⟩
    · intro y0 y1 y2
      unfold signetref13_Decode.j0
      repeat' first
      | (with_reducible exact ih0 _ _ _)
      | (with_reducible exact ih1 _ _ _)
      | (with_reducible exact signetref01_Take.mono _ _ _ _)
      | (with_reducible exact signetref13_Encode.mono _ _ _)
      | (with_reducible exact LeO.refl _)
      | (with_reducible exact LeO.none _)
      | (with_reducible refine LeO.ite ?_ ?_)
      | (with_reducible refine LeO.bind ?_ (fun _ => ?_))
      | exact ih0 _ _ _
      | exact ih1 _ _ _
      | exact signetref01_Take.mono _ _ _ _
      | exact signetref13_Encode.mono _ _ _
      | exact LeO.none _
      | refine LeO.ite ?_ ?_
      | refine LeO.bind ?_ (fun _ => ?_)
    · intro y0 y1 y2
      unfold signetref13_Decode.l0
      repeat' first
      | (with_reducible exact ih0 _ _ _)
      | (with_reducible exact ih1 _ _ _)
      | (with_reducible exact signetref01_Take.mono _ _ _ _)
      | (with_reducible exact signetref13_Encode.mono _ _ _)
      | (with_reducible exact LeO.refl _)
      | (with_reducible exact LeO.none _)
      | (with_reducible refine LeO.ite ?_ ?_)
      | (with_reducible refine LeO.bind ?_ (fun _ => ?_))
      | exact ih0 _ _ _
      | exact ih1 _ _ _
      | exact signetref01_Take.mono _ _ _ _
      | exact signetref13_Encode.mono _ _ _
      | exact LeO.none _
      | refine LeO.ite ?_ ?_
      | refine LeO.bind ?_ (fun _ => ?_)
theorem signetref13_Decode.mono : ∀ a0 a1 k, LeO (signetref13_Decode.f k a0 a1) (signetref13_Decode.f (k + 1) a0 a1) := by
  intro a0 a1 k
  obtain ⟨ih0, ih1⟩ := signetref13_Decode.mono_l k
  unfold signetref13_Decode.f
  repeat' first
      | (with_reducible exact ih0 _ _ _)
      | (with_reducible exact ih1 _ _ _)
      | (with_reducible exact signetref01_Take.mono _ _ _ _)
      | (with_reducible exact signetref13_Encode.mono _ _ _)
      | (with_reducible exact LeO.refl _)
      | (with_reducible exact LeO.none _)
      | (with_reducible refine LeO.ite ?_ ?_)
      | (with_reducible refine LeO.bind ?_ (fun _ => ?_))
      | exact ih0 _ _ _
      | exact ih1 _ _ _
      | exact signetref01_Take.mono _ _ _ _
      | exact signetref13_Encode.mono _ _ _
      | exact LeO.none _
      | refine LeO.ite ?_ ?_
      | refine LeO.bind ?_ (fun _ => ?_)
set_option maxHeartbeats 8000000 in
set_option maxRecDepth 100000 in
theorem signetref13_Decode.calls (k : Nat) (a0 : ByteArray) (a1 : Int) (r1 : Int) (r2 : ByteArray) (r3 : Bool) (r4 : Int) (w : World) (h : signetref13_Decode.f k a0 a1 = some (r1, r2, r3, r4)) :
    Calls Tryd.prog 15 #[.string a0, .int .i64 a1] w fun e w' => e = .returned (.tuple #[.agg #[.int .i64 r1, .string r2], .bool r3, .int .i64 r4]) ∧ Below w.heap.size w w' := by
  have hu33 := Tryd.underlying33
  have HB := Aside0.mk (Below.refl w.heap.size w)
  have H : (if a1 < 0 then (signetref13_Decode.j0 k a0 a1 true) else (if a1 > (a0.size : Int) then (signetref13_Decode.j0 k a0 a1 true) else (signetref13_Decode.j0 k a0 a1 (decide ((wrap64 ((a0.size : Int) - a1)) < 64))))) = some (r1, r2, r3, r4) := h
  clear h
  have HC3 := Aside0.mk H
  clear H
  go_enter Tryd.func15, Tryd.ntmps15
  go_upto_region 1 with (first | ((with_reducible refine gate_dst (N := 4) rfl ?_); (try (refine gate_guard (by rfl) ?_; dsimp only)); refine box_event ?hg (N := 4) ?hd (cs := #[.int .i64 0, .string (⟨#[]⟩ : ByteArray)]) (t := 33) ?hr ?_; (case hd => rfl); (case hg => rfl); (case hr => first | (go_simp; done) | (go_simp; rfl)); intro gb143 hg w4 hbox hb; have n0_ := Aside0.mk (below_step (by repeat (first | (with_reducible first | exact HB.out | apply below_alloc | apply pw_below_drewN | apply below_drew1) | exact HB.out)) hb); have n1_ := Aside0.mk (hbox); have n2_ := Aside0.mk ((by rw [hg]; exact (below_size (by repeat (first | (with_reducible first | exact HB.out | apply below_alloc | apply pw_below_drewN | apply below_drew1) | exact HB.out))) : w.heap.size ≤ gb143)); have n3_ := Aside0.mk ((by rw [hg]; exact (below_size (by repeat (first | (with_reducible first | exact HB.out | apply below_alloc | apply pw_below_drewN | apply below_drew1) | exact HB.out))) : w.heap.size ≤ gb143)); clear HB; have HB := n0_; have BK143 := n1_; have GW143 := n2_; have GE143 := n3_; clear n0_ n1_ n2_ n3_; clear hb hbox hg))
  (try simp only [Act.put, List.setIfInBounds_toArray, List.set_cons_zero, List.set_cons_succ])
  go_cut [31] (fun v31 wc => ∃ (kq : Nat) (x31_2 : Bool), v31 = .bool x31_2 ∧ Aside0 (signetref13_Decode.j0 kq a0 a1 x31_2 = some (r1, r2, r3, r4)) ∧ Aside0 (kq ≤ k) ∧ Aside0 (wc.heap[gb143]? = some (.cells #[.int .i64 0, .string (⟨#[]⟩ : ByteArray)] 33 (0, 0))) ∧ Aside0 (Below w.heap.size w wc))
  case first =>
    have H := HC3.out
    clear HC3
    by_cases c5 : a1 < 0
    · rw [if_pos c5] at H
      have c5b0 : decide (a1 < 0) = true := decide_eq_true c5
      clear c5
      (first | rw [c5b0] | (simp only [i64_w, i32_w]; rw [c5b0]) | skip)
      have H' := Aside0.mk H
      clear H
      go_wp2
      go_meet
      case rel => exact ⟨_, (true), (by first | rfl | (simp; done) | (simp [*]; done)), H', ⟨by first | omega | exact Nat.le_refl _⟩, ⟨by (with_reducible repeat (first | refine blk_drewN ?_ _ | refine blk_drew ?_ | refine blk_alloc ?_ _)); exact BK143.out⟩, ⟨by repeat (first | (with_reducible first | exact HB.out | apply below_alloc | apply pw_below_drewN | apply below_drew1 | refine below_set ?_ GE143.out) | exact HB.out)⟩⟩
    · rw [if_neg c5] at H
      have c5b0 : decide (a1 < 0) = false := decide_eq_false c5
      clear c5
      (first | rw [c5b0] | (simp only [i64_w, i32_w]; rw [c5b0]) | skip)
      by_cases c6 : a1 > (a0.size : Int)
      · rw [if_pos c6] at H
        have c6b0 : decide ((a0.size : Int) < a1) = true := decide_eq_true c6
        clear c6
        have H' := Aside0.mk H
        clear H
        go_wp2
        go_meet
        case rel => exact ⟨_, (true), (by first | rfl | (simp; done) | (simp [*]; done)), H', ⟨by first | omega | exact Nat.le_refl _⟩, ⟨by (with_reducible repeat (first | refine blk_drewN ?_ _ | refine blk_drew ?_ | refine blk_alloc ?_ _)); exact BK143.out⟩, ⟨by repeat (first | (with_reducible first | exact HB.out | apply below_alloc | apply pw_below_drewN | apply below_drew1 | refine below_set ?_ GE143.out) | exact HB.out)⟩⟩
      · rw [if_neg c6] at H
        have c6b0 : decide ((a0.size : Int) < a1) = false := decide_eq_false c6
        clear c6
        have H' := Aside0.mk H
        clear H
        go_wp2
        go_meet
        case rel => exact ⟨_, (decide ((wrap64 ((a0.size : Int) - a1)) < 64)), (by first | rfl | (simp; done) | (simp [*]; done)), H', ⟨by first | omega | exact Nat.le_refl _⟩, ⟨by (with_reducible repeat (first | refine blk_drewN ?_ _ | refine blk_drew ?_ | refine blk_alloc ?_ _)); exact BK143.out⟩, ⟨by repeat (first | (with_reducible first | exact HB.out | apply below_alloc | apply pw_below_drewN | apply below_drew1 | refine below_set ?_ GE143.out) | exact HB.out)⟩⟩
  case rest =>
    clear HC3
    try clear c1
    try clear p2
    try clear c5
    try clear c5b0
    try clear c6
    try clear c6b0
    try clear p6
    obtain ⟨kq, x31_2, rfl, HA, HJ2, BK143, HB⟩ := hcut
    cases kq with
    | zero => exact absurd HA.out (by simp [signetref13_Decode.j0])
    | succ kj2 =>
      have H := HA.out
      clear HA
      simp only [signetref13_Decode.j0] at H
      by_cases c7 : x31_2 = true
      · subst c7
        have H1 : (some (0, (⟨#[]⟩ : ByteArray), false, 131)) = some (r1, r2, r3, r4) := by rw [if_pos rfl] at H; exact H
        clear H
        have H := H1
        clear H1
        simp only [Option.some.injEq, Prod.mk.injEq] at H
        obtain ⟨rfl, rfl, rfl, rfl⟩ := H
        have hcz8_0 : wc.cell? ⟨gb143, 0, none⟩ = some (.int .i64 0) := (blk_cell BK143.out 0).trans rfl
        have hcz8_1 : wc.cell? ⟨gb143, 1, none⟩ = some (.string (⟨#[]⟩ : ByteArray)) := (blk_cell BK143.out 1).trans rfl
        have hfz8_0 := blk_frozen BK143.out 0
        have hfz8_1 := blk_frozen BK143.out 1
        go_wp2
        refine bodyPost_ret (results_ctt rfl _ _ gb143 33 #[.int .i64 0, .string (⟨#[]⟩ : ByteArray)] (0, 0) _ rfl (by (with_reducible repeat (first | refine blk_drewN ?_ _ | refine blk_drew ?_ | refine blk_alloc ?_ _)); refine blk_put (cs := #[.int .i64 0, .string (⟨#[]⟩ : ByteArray)]) ?_ 1 _ rfl; (with_reducible repeat (first | refine blk_drewN ?_ _ | refine blk_drew ?_ | refine blk_alloc ?_ _)); refine blk_put (cs := #[.int .i64 0, .string (⟨#[]⟩ : ByteArray)]) ?_ 0 _ rfl; (with_reducible repeat (first | refine blk_drewN ?_ _ | refine blk_drew ?_ | refine blk_alloc ?_ _)); exact BK143.out) Tryd.underlying33 rfl (by kernel_rfl)) rfl ?_
        exact ⟨by first | rfl | (simp [errW_none, errW_some] <;> rfl) | (simp [*, errW_none, errW_some] <;> rfl), by repeat (first | (with_reducible first | exact HB.out | apply below_alloc | apply pw_below_drewN | apply below_drew1 | refine below_set ?_ GE143.out) | exact HB.out)⟩
      · replace c7 := Bool.eq_false_iff.mpr c7
        subst c7
        have H1 : (if 0 ≤ a1 then (if a1 ≤ (wrap64 (a1 + 64)) then (if (wrap64 (a1 + 64)) ≤ (a0.size : Int) then (signetref13_Decode.l0 kj2 (a0.extract (a1 : Int).toNat ((wrap64 (a1 + 64)) : Int).toNat) true 0) else (none)) else (none)) else (none)) = some (r1, r2, r3, r4) := by rw [if_neg (show ¬ (false = true) by decide)] at H; exact H
        clear H
        have H := H1
        clear H1
        by_cases c9 : 0 ≤ a1
        · rw [if_pos c9] at H
          have c9b0 := eq_true c9
          have c9b1 : decide (0 ≤ a1) = true := decide_eq_true c9
          clear c9
          by_cases c10 : a1 ≤ (wrap64 (a1 + 64))
          · rw [if_pos c10] at H
            have c10b0 := eq_true c10
            have c10b1 : decide (a1 ≤ (wrap64 (a1 + 64))) = true := decide_eq_true c10
            by_cases c11 : (wrap64 (a1 + 64)) ≤ (a0.size : Int)
            · rw [if_pos c11] at H
              have c11b0 := eq_true c11
              have c11b1 : decide ((wrap64 (a1 + 64)) ≤ (a0.size : Int)) = true := decide_eq_true c11
              obtain ⟨sx_, hsx_⟩ : ∃ sx_, (a0.extract (a1 : Int).toNat ((wrap64 (a1 + 64)) : Int).toNat) = sx_ := ⟨_, rfl⟩
              rw [hsx_] at H
              have H' := Aside0.mk H
              clear H
              go_wp2
              go_loopg [8, 9] kj2 (fun kq v8 v9 w' => ∃ (x8_2 : Bool) (x9_2 : Int), v8 = .bool x8_2 ∧ v9 = .int .i64 x9_2 ∧ Aside0 (signetref13_Decode.l0 kq sx_ x8_2 x9_2 = some (r1, r2, r3, r4)) ∧ Aside0 (kq ≤ kj2) ∧ Aside0 (w'.heap[gb143]? = some (.cells #[.int .i64 0, .string (⟨#[]⟩ : ByteArray)] 33 (0, 0))) ∧ Aside0 (Below w.heap.size w w'))
              case atStart => exact ⟨(true), (0), (by first | rfl | (simp; done) | (simp [*]; done)), (by first | rfl | (simp; done) | (simp [*]; done)), H', ⟨Nat.le_refl _⟩, ⟨by (with_reducible repeat (first | refine blk_drewN ?_ _ | refine blk_drew ?_ | refine blk_alloc ?_ _)); exact BK143.out⟩, ⟨by repeat (first | (with_reducible first | exact HB.out | apply below_alloc | apply pw_below_drewN | apply below_drew1 | refine below_set ?_ GE143.out) | exact HB.out)⟩⟩
              case round =>
                clear H'
                try clear c1
                try clear p2
                try clear c5
                try clear c5b0
                try clear c6
                try clear c6b0
                try clear p6
                try clear c7
                try clear c9
                try clear c9b0
                try clear c9b1
                try clear c10
                try clear c10b0
                try clear c10b1
                try clear c11
                try clear c11b0
                try clear c11b1
                try clear hcz8_0
                try clear hcz8_1
                try clear hfz8_0
                try clear hfz8_1
                try clear p2
                try clear p6
                obtain ⟨x8_2, x9_2, rfl, rfl, HA, HK2, BK143, HB⟩ := hrel
                cases gk with
                | zero => exact absurd HA.out (by simp [signetref13_Decode.l0])
                | succ k2 =>
                  have H := HA.out
                  clear HA
                  simp only [signetref13_Decode.l0] at H
                  by_cases c12 : x9_2 < 64
                  · rw [if_pos c12] at H
                    have c12b0 : decide (x9_2 < 64) = true := decide_eq_true c12
                    clear c12
                    by_cases c13 : x8_2 = true
                    · subst c13
                      have H1 : (if 0 ≤ x9_2 then (if x9_2 < (sx_.size : Int) then (signetref13_Decode.l0 k2 sx_ ((bt sx_ x9_2) == 0) (wrap64 (x9_2 + 1))) else (none)) else (none)) = some (r1, r2, r3, r4) := by rw [if_pos rfl] at H; exact H
                      clear H
                      have H := H1
                      clear H1
                      by_cases c14 : 0 ≤ x9_2
                      · rw [if_pos c14] at H
                        have c14b0 : decide (0 ≤ x9_2) = true := decide_eq_true c14
                        clear c14
                        by_cases c15 : x9_2 < (sx_.size : Int)
                        · rw [if_pos c15] at H
                          have c15b0 : decide (x9_2 < (sx_.size : Int)) = true := decide_eq_true c15
                          clear c15
                          have H' := Aside0.mk H
                          clear H
                          have p16 : 0 ≤ (x9_2 : Int) := of_decide_eq_true (by first | (with_reducible assumption) | assumption)
                          have q16 : x9_2 < (sx_.size : Int) := of_decide_eq_true (by first | (with_reducible assumption) | assumption)
                          have hx16 := bt_at sx_ x9_2
                          replace p16 := eq_true p16
                          replace q16 := eq_true q16
                          go_wp2
                          go_roundg k2
                          case measure => have := HJ2.out; have := HK2.out; omega
                          case rel => exact ⟨(((bt sx_ x9_2) == 0)), (wrap64 (x9_2 + 1)), (by first | rfl | (simp; done) | (simp [*]; done)), (by first | rfl | (simp; done) | (simp [*]; done)), H', ⟨by have := HJ2.out; have := HK2.out; omega⟩, ⟨by (with_reducible repeat (first | refine blk_drewN ?_ _ | refine blk_drew ?_ | refine blk_alloc ?_ _)); exact BK143.out⟩, ⟨by repeat (first | (with_reducible first | exact HB.out | apply below_alloc | apply pw_below_drewN | apply below_drew1 | refine below_set ?_ GE143.out) | exact HB.out)⟩⟩
                        · rw [if_neg c15] at H
                          exact absurd H (by simp)
                      · rw [if_neg c14] at H
                        exact absurd H (by simp)
                    · replace c13 := Bool.eq_false_iff.mpr c13
                      subst c13
                      have H1 : (signetref13_Decode.l0 k2 sx_ false (wrap64 (x9_2 + 1))) = some (r1, r2, r3, r4) := by rw [if_neg (show ¬ (false = true) by decide)] at H; exact H
                      clear H
                      have H := H1
                      clear H1
                      have H' := Aside0.mk H
                      clear H
                      go_wp2
                      go_roundg k2
                      case measure => have := HJ2.out; have := HK2.out; omega
                      case rel => exact ⟨(false), (wrap64 (x9_2 + 1)), (by first | rfl | (simp; done) | (simp [*]; done)), (by first | rfl | (simp; done) | (simp [*]; done)), H', ⟨by have := HJ2.out; have := HK2.out; omega⟩, ⟨by (with_reducible repeat (first | refine blk_drewN ?_ _ | refine blk_drew ?_ | refine blk_alloc ?_ _)); exact BK143.out⟩, ⟨by repeat (first | (with_reducible first | exact HB.out | apply below_alloc | apply pw_below_drewN | apply below_drew1 | refine below_set ?_ GE143.out) | exact HB.out)⟩⟩
                  · rw [if_neg c12] at H
                    have c12b0 : decide (x9_2 < 64) = false := decide_eq_false c12
                    clear c12
                    by_cases c17 : x8_2 = true
                    · subst c17
                      have H1 : (some (0, (⟨#[]⟩ : ByteArray), false, 0)) = some (r1, r2, r3, r4) := by rw [if_pos rfl] at H; exact H
                      clear H
                      have H := H1
                      clear H1
                      simp only [Option.some.injEq, Prod.mk.injEq] at H
                      obtain ⟨rfl, rfl, rfl, rfl⟩ := H
                      have hcz18_0 : wr.cell? ⟨gb143, 0, none⟩ = some (.int .i64 0) := (blk_cell BK143.out 0).trans rfl
                      have hcz18_1 : wr.cell? ⟨gb143, 1, none⟩ = some (.string (⟨#[]⟩ : ByteArray)) := (blk_cell BK143.out 1).trans rfl
                      have hfz18_0 := blk_frozen BK143.out 0
                      have hfz18_1 := blk_frozen BK143.out 1
                      go_wp2
                      refine bodyPost_ret (results_ctt rfl _ _ gb143 33 #[.int .i64 0, .string (⟨#[]⟩ : ByteArray)] (0, 0) _ rfl (by (with_reducible repeat (first | refine blk_drewN ?_ _ | refine blk_drew ?_ | refine blk_alloc ?_ _)); refine blk_put (cs := #[.int .i64 0, .string (⟨#[]⟩ : ByteArray)]) ?_ 1 _ rfl; (with_reducible repeat (first | refine blk_drewN ?_ _ | refine blk_drew ?_ | refine blk_alloc ?_ _)); refine blk_put (cs := #[.int .i64 0, .string (⟨#[]⟩ : ByteArray)]) ?_ 0 _ rfl; (with_reducible repeat (first | refine blk_drewN ?_ _ | refine blk_drew ?_ | refine blk_alloc ?_ _)); exact BK143.out) Tryd.underlying33 rfl (by kernel_rfl)) rfl ?_
                      exact ⟨by first | rfl | (simp [errW_none, errW_some] <;> rfl) | (simp [*, errW_none, errW_some] <;> rfl), by repeat (first | (with_reducible first | exact HB.out | apply below_alloc | apply pw_below_drewN | apply below_drew1 | refine below_set ?_ GE143.out) | exact HB.out)⟩
                    · replace c17 := Bool.eq_false_iff.mpr c17
                      subst c17
                      have H1 : ((signetref01_Take.f k2 sx_ 0 4).bind fun bt144 => ((signetref01_Take.f k2 sx_ 4 2).bind fun bt146 => (if bt146.1 > 56 then (some (0, (⟨#[]⟩ : ByteArray), false, 131)) else (if 8 ≤ (wrap64 (8 + (wrap64 (bt146.1)))) then (if (wrap64 (8 + (wrap64 (bt146.1)))) ≤ (sx_.size : Int) then ((signetref13_Encode.f k2 (wrap64 (bt144.1)) (sx_.extract 8 ((wrap64 (8 + (wrap64 (bt146.1)))) : Int).toNat)).bind fun bt149 => (if bt149.2 = 0 then (if bt149.1.toList = sx_.toList then (some (wrap64 (bt144.1), sx_.extract 8 ((wrap64 (8 + (wrap64 (bt146.1)))) : Int).toNat, true, 0)) else (some (0, (⟨#[]⟩ : ByteArray), false, 131))) else (some (0, (⟨#[]⟩ : ByteArray), false, 131)))) else (none)) else (none))))) = some (r1, r2, r3, r4) := by rw [if_neg (show ¬ (false = true) by decide)] at H; exact H
                      clear H
                      have H := H1
                      clear H1
                      replace H := Option.bind_eq_some_iff.mp H
                      obtain ⟨⟨t144, t145⟩, A190, H⟩ := H
                      replace H : ((signetref01_Take.f k2 sx_ 4 2).bind fun bt146 => (if bt146.1 > 56 then (some (0, (⟨#[]⟩ : ByteArray), false, 131)) else (if 8 ≤ (wrap64 (8 + (wrap64 (bt146.1)))) then (if (wrap64 (8 + (wrap64 (bt146.1)))) ≤ (sx_.size : Int) then ((signetref13_Encode.f k2 (wrap64 (t144)) (sx_.extract 8 ((wrap64 (8 + (wrap64 (bt146.1)))) : Int).toNat)).bind fun bt149 => (if bt149.2 = 0 then (if bt149.1.toList = sx_.toList then (some (wrap64 (t144), sx_.extract 8 ((wrap64 (8 + (wrap64 (bt146.1)))) : Int).toNat, true, 0)) else (some (0, (⟨#[]⟩ : ByteArray), false, 131))) else (some (0, (⟨#[]⟩ : ByteArray), false, 131)))) else (none)) else (none)))) = some (r1, r2, r3, r4) := H
                      have A19 := Aside0.mk A190
                      clear A190
                      replace H := Option.bind_eq_some_iff.mp H
                      obtain ⟨⟨t146, t147⟩, A200, H⟩ := H
                      replace H : (if t146 > 56 then (some (0, (⟨#[]⟩ : ByteArray), false, 131)) else (if 8 ≤ (wrap64 (8 + (wrap64 (t146)))) then (if (wrap64 (8 + (wrap64 (t146)))) ≤ (sx_.size : Int) then ((signetref13_Encode.f k2 (wrap64 (t144)) (sx_.extract 8 ((wrap64 (8 + (wrap64 (t146)))) : Int).toNat)).bind fun bt149 => (if bt149.2 = 0 then (if bt149.1.toList = sx_.toList then (some (wrap64 (t144), sx_.extract 8 ((wrap64 (8 + (wrap64 (t146)))) : Int).toNat, true, 0)) else (some (0, (⟨#[]⟩ : ByteArray), false, 131))) else (some (0, (⟨#[]⟩ : ByteArray), false, 131)))) else (none)) else (none))) = some (r1, r2, r3, r4) := H
                      have A20 := Aside0.mk A200
                      clear A200
                      by_cases c21 : t146 > 56
                      · rw [if_pos c21] at H
                        have c21b0 : decide (56 < t146) = true := decide_eq_true c21
                        clear c21
                        simp only [Option.some.injEq, Prod.mk.injEq] at H
                        obtain ⟨rfl, rfl, rfl, rfl⟩ := H
                        go_wp2_with (first | ((with_reducible refine gate_callee (f := 41) rfl ?_); refine goesL_ (some 53) rfl rfl Tryd.func41 (by kernel_rfl) rfl #[.string sx_, .int .i64 0, .int .i64 4] rfl (by (try simp only [List.map_toArray, List.map_cons, List.map_nil]); first | done | rfl | (simp only [List.length_drop, List.length_take]; rfl)) ?_; (with_reducible refine (signetref01_Take.calls k2 sx_ 0 4 t144 t145 _ A19.out).mono ?_); rintro e w22 ⟨rfl, hb⟩; refine ⟨_, rfl, ?_⟩; have n0_ := Aside0.mk (blk_below (g := gb143) (o := .cells #[.int .i64 0, .string (⟨#[]⟩ : ByteArray)] 33 (0, 0)) (by (with_reducible repeat (first | refine blk_drewN ?_ _ | refine blk_drew ?_ | refine blk_alloc ?_ _)); exact BK143.out) hb); have n1_ := Aside0.mk (below_step (by repeat (first | (with_reducible first | exact HB.out | apply below_alloc | apply pw_below_drewN | apply below_drew1 | refine below_set ?_ GE143.out) | exact HB.out)) hb); clear BK143; clear HB; have BK143 := n0_; have HB := n1_; clear n0_ n1_; (try clear hb); (try clear hb2); (try clear hk); (try clear hi)) | ((with_reducible refine gate_callee (f := 41) rfl ?_); refine goesL_ (some 58) rfl rfl Tryd.func41 (by kernel_rfl) rfl #[.string sx_, .int .i64 4, .int .i64 2] rfl (by (try simp only [List.map_toArray, List.map_cons, List.map_nil]); first | done | rfl | (simp only [List.length_drop, List.length_take]; rfl)) ?_; (with_reducible refine (signetref01_Take.calls k2 sx_ 4 2 t146 t147 _ A20.out).mono ?_); rintro e w23 ⟨rfl, hb⟩; refine ⟨_, rfl, ?_⟩; have n0_ := Aside0.mk (blk_below (g := gb143) (o := .cells #[.int .i64 0, .string (⟨#[]⟩ : ByteArray)] 33 (0, 0)) (by (with_reducible repeat (first | refine blk_drewN ?_ _ | refine blk_drew ?_ | refine blk_alloc ?_ _)); exact BK143.out) hb); have n1_ := Aside0.mk (below_step (by repeat (first | (with_reducible first | exact HB.out | apply below_alloc | apply pw_below_drewN | apply below_drew1 | refine below_set ?_ GE143.out) | exact HB.out)) hb); clear BK143; clear HB; have BK143 := n0_; have HB := n1_; clear n0_ n1_; (try clear hb); (try clear hb2); (try clear hk); (try clear hi); have hcz24_0 : w23.cell? ⟨gb143, 0, none⟩ = some (.int .i64 0) := (blk_cell BK143.out 0).trans rfl; have hcz24_1 : w23.cell? ⟨gb143, 1, none⟩ = some (.string (⟨#[]⟩ : ByteArray)) := (blk_cell BK143.out 1).trans rfl; have hfz24_0 := blk_frozen BK143.out 0; have hfz24_1 := blk_frozen BK143.out 1))
                        refine bodyPost_ret (results_ctt rfl _ _ gb143 33 #[.int .i64 0, .string (⟨#[]⟩ : ByteArray)] (0, 0) _ rfl (by (with_reducible repeat (first | refine blk_drewN ?_ _ | refine blk_drew ?_ | refine blk_alloc ?_ _)); refine blk_put (cs := #[.int .i64 0, .string (⟨#[]⟩ : ByteArray)]) ?_ 1 _ rfl; (with_reducible repeat (first | refine blk_drewN ?_ _ | refine blk_drew ?_ | refine blk_alloc ?_ _)); refine blk_put (cs := #[.int .i64 0, .string (⟨#[]⟩ : ByteArray)]) ?_ 0 _ rfl; (with_reducible repeat (first | refine blk_drewN ?_ _ | refine blk_drew ?_ | refine blk_alloc ?_ _)); exact BK143.out) Tryd.underlying33 rfl (by kernel_rfl)) rfl ?_
                        exact ⟨by first | rfl | (simp [errW_none, errW_some] <;> rfl) | (simp [*, errW_none, errW_some] <;> rfl), by repeat (first | (with_reducible first | exact HB.out | apply below_alloc | apply pw_below_drewN | apply below_drew1 | refine below_set ?_ GE143.out) | exact HB.out)⟩
                      · rw [if_neg c21] at H
                        have c21b0 : decide (56 < t146) = false := decide_eq_false c21
                        clear c21
                        by_cases c25 : 8 ≤ (wrap64 (8 + (wrap64 (t146))))
                        · rw [if_pos c25] at H
                          have c25b0 := eq_true c25
                          have c25b1 : decide (8 ≤ (wrap64 (8 + (wrap64 (t146))))) = true := decide_eq_true c25
                          by_cases c26 : (wrap64 (8 + (wrap64 (t146)))) ≤ (sx_.size : Int)
                          · rw [if_pos c26] at H
                            have c26b0 := eq_true c26
                            have c26b1 : decide ((wrap64 (8 + (wrap64 (t146)))) ≤ (sx_.size : Int)) = true := decide_eq_true c26
                            replace H := Option.bind_eq_some_iff.mp H
                            obtain ⟨⟨t149, t150⟩, A270, H⟩ := H
                            replace H : (if t150 = 0 then (if t149.toList = sx_.toList then (some (wrap64 (t144), sx_.extract 8 ((wrap64 (8 + (wrap64 (t146)))) : Int).toNat, true, 0)) else (some (0, (⟨#[]⟩ : ByteArray), false, 131))) else (some (0, (⟨#[]⟩ : ByteArray), false, 131))) = some (r1, r2, r3, r4) := H
                            have A27 := Aside0.mk A270
                            clear A270
                            by_cases c28 : t150 = 0
                            · rw [if_pos c28] at H
                              have c28b0 : (t150 == 0) = true := beq_iff_eq.mpr c28
                              have c28b1 : (t150 != 0) = false := bne_eq_false_iff_eq.mpr c28
                              clear c28
                              by_cases c29 : t149.toList = sx_.toList
                              · rw [if_pos c29] at H
                                have c29b0 : (t149.toList == sx_.toList) = true := beq_iff_eq.mpr c29
                                have c29b1 : (t149.toList != sx_.toList) = false := bne_eq_false_iff_eq.mpr c29
                                clear c29
                                simp only [Option.some.injEq, Prod.mk.injEq] at H
                                obtain ⟨rfl, rfl, rfl, rfl⟩ := H
                                go_wp2_with (first | ((with_reducible refine gate_callee (f := 41) rfl ?_); refine goesL_ (some 53) rfl rfl Tryd.func41 (by kernel_rfl) rfl #[.string sx_, .int .i64 0, .int .i64 4] rfl (by (try simp only [List.map_toArray, List.map_cons, List.map_nil]); first | done | rfl | (simp only [List.length_drop, List.length_take]; rfl)) ?_; (with_reducible refine (signetref01_Take.calls k2 sx_ 0 4 t144 t145 _ A19.out).mono ?_); rintro e w30 ⟨rfl, hb⟩; refine ⟨_, rfl, ?_⟩; have n0_ := Aside0.mk (blk_below (g := gb143) (o := .cells #[.int .i64 0, .string (⟨#[]⟩ : ByteArray)] 33 (0, 0)) (by (with_reducible repeat (first | refine blk_drewN ?_ _ | refine blk_drew ?_ | refine blk_alloc ?_ _)); exact BK143.out) hb); have n1_ := Aside0.mk (below_step (by repeat (first | (with_reducible first | exact HB.out | apply below_alloc | apply pw_below_drewN | apply below_drew1 | refine below_set ?_ GE143.out) | exact HB.out)) hb); clear BK143; clear HB; have BK143 := n0_; have HB := n1_; clear n0_ n1_; (try clear hb); (try clear hb2); (try clear hk); (try clear hi)) | ((with_reducible refine gate_callee (f := 41) rfl ?_); refine goesL_ (some 58) rfl rfl Tryd.func41 (by kernel_rfl) rfl #[.string sx_, .int .i64 4, .int .i64 2] rfl (by (try simp only [List.map_toArray, List.map_cons, List.map_nil]); first | done | rfl | (simp only [List.length_drop, List.length_take]; rfl)) ?_; (with_reducible refine (signetref01_Take.calls k2 sx_ 4 2 t146 t147 _ A20.out).mono ?_); rintro e w31 ⟨rfl, hb⟩; refine ⟨_, rfl, ?_⟩; have n0_ := Aside0.mk (blk_below (g := gb143) (o := .cells #[.int .i64 0, .string (⟨#[]⟩ : ByteArray)] 33 (0, 0)) (by (with_reducible repeat (first | refine blk_drewN ?_ _ | refine blk_drew ?_ | refine blk_alloc ?_ _)); exact BK143.out) hb); have n1_ := Aside0.mk (below_step (by repeat (first | (with_reducible first | exact HB.out | apply below_alloc | apply pw_below_drewN | apply below_drew1 | refine below_set ?_ GE143.out) | exact HB.out)) hb); clear BK143; clear HB; have BK143 := n0_; have HB := n1_; clear n0_ n1_; (try clear hb); (try clear hb2); (try clear hk); (try clear hi)) | ((with_reducible refine gate_dst (N := 14) rfl ?_); (try (refine gate_guard (by rfl) ?_; dsimp only)); refine box_event ?hg (N := 14) ?hd (cs := #[.int .i64 0, .string (⟨#[]⟩ : ByteArray)]) (t := 33) ?hr ?_; (case hd => rfl); (case hg => rfl); (case hr => first | (go_simp; done) | (go_simp; rfl)); intro gb148 hg w32 hbox hb; have n0_ := Aside0.mk (blk_below (g := gb143) (o := .cells #[.int .i64 0, .string (⟨#[]⟩ : ByteArray)] 33 (0, 0)) (by (with_reducible repeat (first | refine blk_drewN ?_ _ | refine blk_drew ?_ | refine blk_alloc ?_ _)); exact BK143.out) hb); have n1_ := Aside0.mk (below_step (by repeat (first | (with_reducible first | exact HB.out | apply below_alloc | apply pw_below_drewN | apply below_drew1 | refine below_set ?_ GE143.out) | exact HB.out)) hb); have n2_ := Aside0.mk (hbox); have n3_ := Aside0.mk ((by rw [hg]; exact (below_size (by repeat (first | (with_reducible first | exact HB.out | apply below_alloc | apply pw_below_drewN | apply below_drew1 | refine below_set ?_ GE143.out) | exact HB.out))) : w.heap.size ≤ gb148)); have n4_ := Aside0.mk ((by rw [hg]; exact (below_size (by repeat (first | (with_reducible first | exact HB.out | apply below_alloc | apply pw_below_drewN | apply below_drew1 | refine below_set ?_ GE143.out) | exact HB.out))) : w.heap.size ≤ gb148)); have n5_ := Aside0.mk ((by rw [hg]; exact Nat.ne_of_lt (blk_lt (g := gb143) (o := .cells #[.int .i64 0, .string (⟨#[]⟩ : ByteArray)] 33 (0, 0)) (by (with_reducible repeat (first | refine blk_drewN ?_ _ | refine blk_drew ?_ | refine blk_alloc ?_ _)); exact BK143.out)) : gb143 ≠ gb148)); have n6_ := Aside0.mk ((by rw [hg]; exact Nat.ne_of_gt (blk_lt (g := gb143) (o := .cells #[.int .i64 0, .string (⟨#[]⟩ : ByteArray)] 33 (0, 0)) (by (with_reducible repeat (first | refine blk_drewN ?_ _ | refine blk_drew ?_ | refine blk_alloc ?_ _)); exact BK143.out)) : gb148 ≠ gb143)); clear BK143; clear HB; have BK143 := n0_; have HB := n1_; have BK148 := n2_; have GW148 := n3_; have GE148 := n4_; have NB143_148 := n5_; have NB148_143 := n6_; clear n0_ n1_ n2_ n3_ n4_ n5_ n6_; clear hb hbox hg; have hnb33 := NB148_143.out; have hnc33 := NB143_148.out; have hcz34_0 : w32.cell? ⟨gb148, 0, none⟩ = some (.int .i64 0) := (blk_cell BK148.out 0).trans rfl; have hcz34_1 : w32.cell? ⟨gb148, 1, none⟩ = some (.string (⟨#[]⟩ : ByteArray)) := (blk_cell BK148.out 1).trans rfl; have hfz34_0 := blk_frozen BK148.out 0; have hfz34_1 := blk_frozen BK148.out 1) | ((with_reducible refine gate_callee (f := 13) rfl ?_); refine goesL_ (some 74) rfl rfl Tryd.func13 (by kernel_rfl) rfl #[.agg #[.int .i64 (wrap64 (t144)), .string (sx_.extract 8 ((wrap64 (8 + (wrap64 (t146)))) : Int).toNat)]] rfl (by (try simp only [List.map_toArray, List.map_cons, List.map_nil]); first | done | rfl | (simp only [List.length_drop, List.length_take]; rfl)) ?_; (with_reducible refine (signetref13_Encode.calls k2 (wrap64 (t144)) (sx_.extract 8 ((wrap64 (8 + (wrap64 (t146)))) : Int).toNat) t149 t150 _ A27.out).mono ?_); rintro e w35 ⟨rfl, hb⟩; refine ⟨_, rfl, ?_⟩; have n0_ := Aside0.mk (blk_below (g := gb143) (o := .cells #[.int .i64 0, .string (⟨#[]⟩ : ByteArray)] 33 (0, 0)) (by (with_reducible repeat (first | refine blk_drewN ?_ _ | refine blk_drew ?_ | refine blk_alloc ?_ _)); refine blk_far ?_ NB143_148.out _; (with_reducible repeat (first | refine blk_drewN ?_ _ | refine blk_drew ?_ | refine blk_alloc ?_ _)); refine blk_far ?_ NB143_148.out _; (with_reducible repeat (first | refine blk_drewN ?_ _ | refine blk_drew ?_ | refine blk_alloc ?_ _)); exact BK143.out) hb); have n1_ := Aside0.mk (blk_below (g := gb148) (o := .cells #[.int .i64 (wrap64 (t144)), .string (sx_.extract 8 ((wrap64 (8 + (wrap64 (t146)))) : Int).toNat)] 33 (0, 0)) (by (with_reducible repeat (first | refine blk_drewN ?_ _ | refine blk_drew ?_ | refine blk_alloc ?_ _)); refine blk_put (cs := #[.int .i64 (wrap64 (t144)), .string (⟨#[]⟩ : ByteArray)]) ?_ 1 _ rfl; (with_reducible repeat (first | refine blk_drewN ?_ _ | refine blk_drew ?_ | refine blk_alloc ?_ _)); refine blk_put (cs := #[.int .i64 0, .string (⟨#[]⟩ : ByteArray)]) ?_ 0 _ rfl; (with_reducible repeat (first | refine blk_drewN ?_ _ | refine blk_drew ?_ | refine blk_alloc ?_ _)); exact BK148.out) hb); have n2_ := Aside0.mk (below_step (by repeat (first | (with_reducible first | exact HB.out | apply below_alloc | apply pw_below_drewN | apply below_drew1 | refine below_set ?_ GE143.out | refine below_set ?_ GE148.out) | exact HB.out)) hb); clear BK143; clear BK148; clear HB; have BK143 := n0_; have BK148 := n1_; have HB := n2_; clear n0_ n1_ n2_; (try clear hb); (try clear hb2); (try clear hk); (try clear hi); have hcz36_0 : w35.cell? ⟨gb148, 0, none⟩ = some (.int .i64 (wrap64 (t144))) := (blk_cell BK148.out 0).trans rfl; have hcz36_1 : w35.cell? ⟨gb148, 1, none⟩ = some (.string (sx_.extract 8 ((wrap64 (8 + (wrap64 (t146)))) : Int).toNat)) := (blk_cell BK148.out 1).trans rfl; have hfz36_0 := blk_frozen BK148.out 0; have hfz36_1 := blk_frozen BK148.out 1; have hcz37_0 : w35.cell? ⟨gb143, 0, none⟩ = some (.int .i64 0) := (blk_cell BK143.out 0).trans rfl; have hcz37_1 : w35.cell? ⟨gb143, 1, none⟩ = some (.string (⟨#[]⟩ : ByteArray)) := (blk_cell BK143.out 1).trans rfl; have hfz37_0 := blk_frozen BK143.out 0; have hfz37_1 := blk_frozen BK143.out 1))
                                refine bodyPost_ret (results_ctt rfl _ _ gb143 33 #[.int .i64 (wrap64 (t144)), .string (sx_.extract 8 ((wrap64 (8 + (wrap64 (t146)))) : Int).toNat)] (0, 0) _ rfl (by (with_reducible repeat (first | refine blk_drewN ?_ _ | refine blk_drew ?_ | refine blk_alloc ?_ _)); refine blk_put (cs := #[.int .i64 (wrap64 (t144)), .string (⟨#[]⟩ : ByteArray)]) ?_ 1 _ rfl; (with_reducible repeat (first | refine blk_drewN ?_ _ | refine blk_drew ?_ | refine blk_alloc ?_ _)); refine blk_put (cs := #[.int .i64 0, .string (⟨#[]⟩ : ByteArray)]) ?_ 0 _ rfl; (with_reducible repeat (first | refine blk_drewN ?_ _ | refine blk_drew ?_ | refine blk_alloc ?_ _)); exact BK143.out) Tryd.underlying33 rfl (by kernel_rfl)) rfl ?_
                                exact ⟨by first | rfl | (simp [errW_none, errW_some] <;> rfl) | (simp [*, errW_none, errW_some] <;> rfl), by repeat (first | (with_reducible first | exact HB.out | apply below_alloc | apply pw_below_drewN | apply below_drew1 | refine below_set ?_ GE143.out | refine below_set ?_ GE148.out) | exact HB.out)⟩
                              · rw [if_neg c29] at H
                                have c29b0 : (t149.toList == sx_.toList) = false := beq_eq_false_iff_ne.mpr c29
                                have c29b1 : (t149.toList != sx_.toList) = true := bne_iff_ne.mpr c29
                                simp only [Option.some.injEq, Prod.mk.injEq] at H
                                obtain ⟨rfl, rfl, rfl, rfl⟩ := H
                                go_wp2_with (first | ((with_reducible refine gate_callee (f := 41) rfl ?_); refine goesL_ (some 53) rfl rfl Tryd.func41 (by kernel_rfl) rfl #[.string sx_, .int .i64 0, .int .i64 4] rfl (by (try simp only [List.map_toArray, List.map_cons, List.map_nil]); first | done | rfl | (simp only [List.length_drop, List.length_take]; rfl)) ?_; (with_reducible refine (signetref01_Take.calls k2 sx_ 0 4 t144 t145 _ A19.out).mono ?_); rintro e w38 ⟨rfl, hb⟩; refine ⟨_, rfl, ?_⟩; have n0_ := Aside0.mk (blk_below (g := gb143) (o := .cells #[.int .i64 0, .string (⟨#[]⟩ : ByteArray)] 33 (0, 0)) (by (with_reducible repeat (first | refine blk_drewN ?_ _ | refine blk_drew ?_ | refine blk_alloc ?_ _)); exact BK143.out) hb); have n1_ := Aside0.mk (below_step (by repeat (first | (with_reducible first | exact HB.out | apply below_alloc | apply pw_below_drewN | apply below_drew1 | refine below_set ?_ GE143.out) | exact HB.out)) hb); clear BK143; clear HB; have BK143 := n0_; have HB := n1_; clear n0_ n1_; (try clear hb); (try clear hb2); (try clear hk); (try clear hi)) | ((with_reducible refine gate_callee (f := 41) rfl ?_); refine goesL_ (some 58) rfl rfl Tryd.func41 (by kernel_rfl) rfl #[.string sx_, .int .i64 4, .int .i64 2] rfl (by (try simp only [List.map_toArray, List.map_cons, List.map_nil]); first | done | rfl | (simp only [List.length_drop, List.length_take]; rfl)) ?_; (with_reducible refine (signetref01_Take.calls k2 sx_ 4 2 t146 t147 _ A20.out).mono ?_); rintro e w39 ⟨rfl, hb⟩; refine ⟨_, rfl, ?_⟩; have n0_ := Aside0.mk (blk_below (g := gb143) (o := .cells #[.int .i64 0, .string (⟨#[]⟩ : ByteArray)] 33 (0, 0)) (by (with_reducible repeat (first | refine blk_drewN ?_ _ | refine blk_drew ?_ | refine blk_alloc ?_ _)); exact BK143.out) hb); have n1_ := Aside0.mk (below_step (by repeat (first | (with_reducible first | exact HB.out | apply below_alloc | apply pw_below_drewN | apply below_drew1 | refine below_set ?_ GE143.out) | exact HB.out)) hb); clear BK143; clear HB; have BK143 := n0_; have HB := n1_; clear n0_ n1_; (try clear hb); (try clear hb2); (try clear hk); (try clear hi)) | ((with_reducible refine gate_dst (N := 14) rfl ?_); (try (refine gate_guard (by rfl) ?_; dsimp only)); refine box_event ?hg (N := 14) ?hd (cs := #[.int .i64 0, .string (⟨#[]⟩ : ByteArray)]) (t := 33) ?hr ?_; (case hd => rfl); (case hg => rfl); (case hr => first | (go_simp; done) | (go_simp; rfl)); intro gb148 hg w40 hbox hb; have n0_ := Aside0.mk (blk_below (g := gb143) (o := .cells #[.int .i64 0, .string (⟨#[]⟩ : ByteArray)] 33 (0, 0)) (by (with_reducible repeat (first | refine blk_drewN ?_ _ | refine blk_drew ?_ | refine blk_alloc ?_ _)); exact BK143.out) hb); have n1_ := Aside0.mk (below_step (by repeat (first | (with_reducible first | exact HB.out | apply below_alloc | apply pw_below_drewN | apply below_drew1 | refine below_set ?_ GE143.out) | exact HB.out)) hb); have n2_ := Aside0.mk (hbox); have n3_ := Aside0.mk ((by rw [hg]; exact (below_size (by repeat (first | (with_reducible first | exact HB.out | apply below_alloc | apply pw_below_drewN | apply below_drew1 | refine below_set ?_ GE143.out) | exact HB.out))) : w.heap.size ≤ gb148)); have n4_ := Aside0.mk ((by rw [hg]; exact (below_size (by repeat (first | (with_reducible first | exact HB.out | apply below_alloc | apply pw_below_drewN | apply below_drew1 | refine below_set ?_ GE143.out) | exact HB.out))) : w.heap.size ≤ gb148)); have n5_ := Aside0.mk ((by rw [hg]; exact Nat.ne_of_lt (blk_lt (g := gb143) (o := .cells #[.int .i64 0, .string (⟨#[]⟩ : ByteArray)] 33 (0, 0)) (by (with_reducible repeat (first | refine blk_drewN ?_ _ | refine blk_drew ?_ | refine blk_alloc ?_ _)); exact BK143.out)) : gb143 ≠ gb148)); have n6_ := Aside0.mk ((by rw [hg]; exact Nat.ne_of_gt (blk_lt (g := gb143) (o := .cells #[.int .i64 0, .string (⟨#[]⟩ : ByteArray)] 33 (0, 0)) (by (with_reducible repeat (first | refine blk_drewN ?_ _ | refine blk_drew ?_ | refine blk_alloc ?_ _)); exact BK143.out)) : gb148 ≠ gb143)); clear BK143; clear HB; have BK143 := n0_; have HB := n1_; have BK148 := n2_; have GW148 := n3_; have GE148 := n4_; have NB143_148 := n5_; have NB148_143 := n6_; clear n0_ n1_ n2_ n3_ n4_ n5_ n6_; clear hb hbox hg; have hnb41 := NB148_143.out; have hnc41 := NB143_148.out; have hcz42_0 : w40.cell? ⟨gb148, 0, none⟩ = some (.int .i64 0) := (blk_cell BK148.out 0).trans rfl; have hcz42_1 : w40.cell? ⟨gb148, 1, none⟩ = some (.string (⟨#[]⟩ : ByteArray)) := (blk_cell BK148.out 1).trans rfl; have hfz42_0 := blk_frozen BK148.out 0; have hfz42_1 := blk_frozen BK148.out 1) | ((with_reducible refine gate_callee (f := 13) rfl ?_); refine goesL_ (some 74) rfl rfl Tryd.func13 (by kernel_rfl) rfl #[.agg #[.int .i64 (wrap64 (t144)), .string (sx_.extract 8 ((wrap64 (8 + (wrap64 (t146)))) : Int).toNat)]] rfl (by (try simp only [List.map_toArray, List.map_cons, List.map_nil]); first | done | rfl | (simp only [List.length_drop, List.length_take]; rfl)) ?_; (with_reducible refine (signetref13_Encode.calls k2 (wrap64 (t144)) (sx_.extract 8 ((wrap64 (8 + (wrap64 (t146)))) : Int).toNat) t149 t150 _ A27.out).mono ?_); rintro e w43 ⟨rfl, hb⟩; refine ⟨_, rfl, ?_⟩; have n0_ := Aside0.mk (blk_below (g := gb143) (o := .cells #[.int .i64 0, .string (⟨#[]⟩ : ByteArray)] 33 (0, 0)) (by (with_reducible repeat (first | refine blk_drewN ?_ _ | refine blk_drew ?_ | refine blk_alloc ?_ _)); refine blk_far ?_ NB143_148.out _; (with_reducible repeat (first | refine blk_drewN ?_ _ | refine blk_drew ?_ | refine blk_alloc ?_ _)); refine blk_far ?_ NB143_148.out _; (with_reducible repeat (first | refine blk_drewN ?_ _ | refine blk_drew ?_ | refine blk_alloc ?_ _)); exact BK143.out) hb); have n1_ := Aside0.mk (blk_below (g := gb148) (o := .cells #[.int .i64 (wrap64 (t144)), .string (sx_.extract 8 ((wrap64 (8 + (wrap64 (t146)))) : Int).toNat)] 33 (0, 0)) (by (with_reducible repeat (first | refine blk_drewN ?_ _ | refine blk_drew ?_ | refine blk_alloc ?_ _)); refine blk_put (cs := #[.int .i64 (wrap64 (t144)), .string (⟨#[]⟩ : ByteArray)]) ?_ 1 _ rfl; (with_reducible repeat (first | refine blk_drewN ?_ _ | refine blk_drew ?_ | refine blk_alloc ?_ _)); refine blk_put (cs := #[.int .i64 0, .string (⟨#[]⟩ : ByteArray)]) ?_ 0 _ rfl; (with_reducible repeat (first | refine blk_drewN ?_ _ | refine blk_drew ?_ | refine blk_alloc ?_ _)); exact BK148.out) hb); have n2_ := Aside0.mk (below_step (by repeat (first | (with_reducible first | exact HB.out | apply below_alloc | apply pw_below_drewN | apply below_drew1 | refine below_set ?_ GE143.out | refine below_set ?_ GE148.out) | exact HB.out)) hb); clear BK143; clear BK148; clear HB; have BK143 := n0_; have BK148 := n1_; have HB := n2_; clear n0_ n1_ n2_; (try clear hb); (try clear hb2); (try clear hk); (try clear hi); have hcz44_0 : w43.cell? ⟨gb143, 0, none⟩ = some (.int .i64 0) := (blk_cell BK143.out 0).trans rfl; have hcz44_1 : w43.cell? ⟨gb143, 1, none⟩ = some (.string (⟨#[]⟩ : ByteArray)) := (blk_cell BK143.out 1).trans rfl; have hfz44_0 := blk_frozen BK143.out 0; have hfz44_1 := blk_frozen BK143.out 1))
                                refine bodyPost_ret (results_ctt rfl _ _ gb143 33 #[.int .i64 0, .string (⟨#[]⟩ : ByteArray)] (0, 0) _ rfl (by (with_reducible repeat (first | refine blk_drewN ?_ _ | refine blk_drew ?_ | refine blk_alloc ?_ _)); refine blk_put (cs := #[.int .i64 0, .string (⟨#[]⟩ : ByteArray)]) ?_ 1 _ rfl; (with_reducible repeat (first | refine blk_drewN ?_ _ | refine blk_drew ?_ | refine blk_alloc ?_ _)); refine blk_put (cs := #[.int .i64 0, .string (⟨#[]⟩ : ByteArray)]) ?_ 0 _ rfl; (with_reducible repeat (first | refine blk_drewN ?_ _ | refine blk_drew ?_ | refine blk_alloc ?_ _)); exact BK143.out) Tryd.underlying33 rfl (by kernel_rfl)) rfl ?_
                                exact ⟨by first | rfl | (simp [errW_none, errW_some] <;> rfl) | (simp [*, errW_none, errW_some] <;> rfl), by repeat (first | (with_reducible first | exact HB.out | apply below_alloc | apply pw_below_drewN | apply below_drew1 | refine below_set ?_ GE143.out | refine below_set ?_ GE148.out) | exact HB.out)⟩
                            · rw [if_neg c28] at H
                              have c28b0 : (t150 == 0) = false := beq_eq_false_iff_ne.mpr c28
                              have c28b1 : (t150 != 0) = true := bne_iff_ne.mpr c28
                              simp only [Option.some.injEq, Prod.mk.injEq] at H
                              obtain ⟨rfl, rfl, rfl, rfl⟩ := H
                              go_wp2_with (first | ((with_reducible refine gate_callee (f := 41) rfl ?_); refine goesL_ (some 53) rfl rfl Tryd.func41 (by kernel_rfl) rfl #[.string sx_, .int .i64 0, .int .i64 4] rfl (by (try simp only [List.map_toArray, List.map_cons, List.map_nil]); first | done | rfl | (simp only [List.length_drop, List.length_take]; rfl)) ?_; (with_reducible refine (signetref01_Take.calls k2 sx_ 0 4 t144 t145 _ A19.out).mono ?_); rintro e w45 ⟨rfl, hb⟩; refine ⟨_, rfl, ?_⟩; have n0_ := Aside0.mk (blk_below (g := gb143) (o := .cells #[.int .i64 0, .string (⟨#[]⟩ : ByteArray)] 33 (0, 0)) (by (with_reducible repeat (first | refine blk_drewN ?_ _ | refine blk_drew ?_ | refine blk_alloc ?_ _)); exact BK143.out) hb); have n1_ := Aside0.mk (below_step (by repeat (first | (with_reducible first | exact HB.out | apply below_alloc | apply pw_below_drewN | apply below_drew1 | refine below_set ?_ GE143.out) | exact HB.out)) hb); clear BK143; clear HB; have BK143 := n0_; have HB := n1_; clear n0_ n1_; (try clear hb); (try clear hb2); (try clear hk); (try clear hi)) | ((with_reducible refine gate_callee (f := 41) rfl ?_); refine goesL_ (some 58) rfl rfl Tryd.func41 (by kernel_rfl) rfl #[.string sx_, .int .i64 4, .int .i64 2] rfl (by (try simp only [List.map_toArray, List.map_cons, List.map_nil]); first | done | rfl | (simp only [List.length_drop, List.length_take]; rfl)) ?_; (with_reducible refine (signetref01_Take.calls k2 sx_ 4 2 t146 t147 _ A20.out).mono ?_); rintro e w46 ⟨rfl, hb⟩; refine ⟨_, rfl, ?_⟩; have n0_ := Aside0.mk (blk_below (g := gb143) (o := .cells #[.int .i64 0, .string (⟨#[]⟩ : ByteArray)] 33 (0, 0)) (by (with_reducible repeat (first | refine blk_drewN ?_ _ | refine blk_drew ?_ | refine blk_alloc ?_ _)); exact BK143.out) hb); have n1_ := Aside0.mk (below_step (by repeat (first | (with_reducible first | exact HB.out | apply below_alloc | apply pw_below_drewN | apply below_drew1 | refine below_set ?_ GE143.out) | exact HB.out)) hb); clear BK143; clear HB; have BK143 := n0_; have HB := n1_; clear n0_ n1_; (try clear hb); (try clear hb2); (try clear hk); (try clear hi)) | ((with_reducible refine gate_dst (N := 14) rfl ?_); (try (refine gate_guard (by rfl) ?_; dsimp only)); refine box_event ?hg (N := 14) ?hd (cs := #[.int .i64 0, .string (⟨#[]⟩ : ByteArray)]) (t := 33) ?hr ?_; (case hd => rfl); (case hg => rfl); (case hr => first | (go_simp; done) | (go_simp; rfl)); intro gb148 hg w47 hbox hb; have n0_ := Aside0.mk (blk_below (g := gb143) (o := .cells #[.int .i64 0, .string (⟨#[]⟩ : ByteArray)] 33 (0, 0)) (by (with_reducible repeat (first | refine blk_drewN ?_ _ | refine blk_drew ?_ | refine blk_alloc ?_ _)); exact BK143.out) hb); have n1_ := Aside0.mk (below_step (by repeat (first | (with_reducible first | exact HB.out | apply below_alloc | apply pw_below_drewN | apply below_drew1 | refine below_set ?_ GE143.out) | exact HB.out)) hb); have n2_ := Aside0.mk (hbox); have n3_ := Aside0.mk ((by rw [hg]; exact (below_size (by repeat (first | (with_reducible first | exact HB.out | apply below_alloc | apply pw_below_drewN | apply below_drew1 | refine below_set ?_ GE143.out) | exact HB.out))) : w.heap.size ≤ gb148)); have n4_ := Aside0.mk ((by rw [hg]; exact (below_size (by repeat (first | (with_reducible first | exact HB.out | apply below_alloc | apply pw_below_drewN | apply below_drew1 | refine below_set ?_ GE143.out) | exact HB.out))) : w.heap.size ≤ gb148)); have n5_ := Aside0.mk ((by rw [hg]; exact Nat.ne_of_lt (blk_lt (g := gb143) (o := .cells #[.int .i64 0, .string (⟨#[]⟩ : ByteArray)] 33 (0, 0)) (by (with_reducible repeat (first | refine blk_drewN ?_ _ | refine blk_drew ?_ | refine blk_alloc ?_ _)); exact BK143.out)) : gb143 ≠ gb148)); have n6_ := Aside0.mk ((by rw [hg]; exact Nat.ne_of_gt (blk_lt (g := gb143) (o := .cells #[.int .i64 0, .string (⟨#[]⟩ : ByteArray)] 33 (0, 0)) (by (with_reducible repeat (first | refine blk_drewN ?_ _ | refine blk_drew ?_ | refine blk_alloc ?_ _)); exact BK143.out)) : gb148 ≠ gb143)); clear BK143; clear HB; have BK143 := n0_; have HB := n1_; have BK148 := n2_; have GW148 := n3_; have GE148 := n4_; have NB143_148 := n5_; have NB148_143 := n6_; clear n0_ n1_ n2_ n3_ n4_ n5_ n6_; clear hb hbox hg; have hnb48 := NB148_143.out; have hnc48 := NB143_148.out; have hcz49_0 : w47.cell? ⟨gb148, 0, none⟩ = some (.int .i64 0) := (blk_cell BK148.out 0).trans rfl; have hcz49_1 : w47.cell? ⟨gb148, 1, none⟩ = some (.string (⟨#[]⟩ : ByteArray)) := (blk_cell BK148.out 1).trans rfl; have hfz49_0 := blk_frozen BK148.out 0; have hfz49_1 := blk_frozen BK148.out 1) | ((with_reducible refine gate_callee (f := 13) rfl ?_); refine goesL_ (some 74) rfl rfl Tryd.func13 (by kernel_rfl) rfl #[.agg #[.int .i64 (wrap64 (t144)), .string (sx_.extract 8 ((wrap64 (8 + (wrap64 (t146)))) : Int).toNat)]] rfl (by (try simp only [List.map_toArray, List.map_cons, List.map_nil]); first | done | rfl | (simp only [List.length_drop, List.length_take]; rfl)) ?_; (with_reducible refine (signetref13_Encode.calls k2 (wrap64 (t144)) (sx_.extract 8 ((wrap64 (8 + (wrap64 (t146)))) : Int).toNat) t149 t150 _ A27.out).mono ?_); rintro e w50 ⟨rfl, hb⟩; refine ⟨_, rfl, ?_⟩; have n0_ := Aside0.mk (blk_below (g := gb143) (o := .cells #[.int .i64 0, .string (⟨#[]⟩ : ByteArray)] 33 (0, 0)) (by (with_reducible repeat (first | refine blk_drewN ?_ _ | refine blk_drew ?_ | refine blk_alloc ?_ _)); refine blk_far ?_ NB143_148.out _; (with_reducible repeat (first | refine blk_drewN ?_ _ | refine blk_drew ?_ | refine blk_alloc ?_ _)); refine blk_far ?_ NB143_148.out _; (with_reducible repeat (first | refine blk_drewN ?_ _ | refine blk_drew ?_ | refine blk_alloc ?_ _)); exact BK143.out) hb); have n1_ := Aside0.mk (blk_below (g := gb148) (o := .cells #[.int .i64 (wrap64 (t144)), .string (sx_.extract 8 ((wrap64 (8 + (wrap64 (t146)))) : Int).toNat)] 33 (0, 0)) (by (with_reducible repeat (first | refine blk_drewN ?_ _ | refine blk_drew ?_ | refine blk_alloc ?_ _)); refine blk_put (cs := #[.int .i64 (wrap64 (t144)), .string (⟨#[]⟩ : ByteArray)]) ?_ 1 _ rfl; (with_reducible repeat (first | refine blk_drewN ?_ _ | refine blk_drew ?_ | refine blk_alloc ?_ _)); refine blk_put (cs := #[.int .i64 0, .string (⟨#[]⟩ : ByteArray)]) ?_ 0 _ rfl; (with_reducible repeat (first | refine blk_drewN ?_ _ | refine blk_drew ?_ | refine blk_alloc ?_ _)); exact BK148.out) hb); have n2_ := Aside0.mk (below_step (by repeat (first | (with_reducible first | exact HB.out | apply below_alloc | apply pw_below_drewN | apply below_drew1 | refine below_set ?_ GE143.out | refine below_set ?_ GE148.out) | exact HB.out)) hb); clear BK143; clear BK148; clear HB; have BK143 := n0_; have BK148 := n1_; have HB := n2_; clear n0_ n1_ n2_; (try clear hb); (try clear hb2); (try clear hk); (try clear hi); have hcz51_0 : w50.cell? ⟨gb143, 0, none⟩ = some (.int .i64 0) := (blk_cell BK143.out 0).trans rfl; have hcz51_1 : w50.cell? ⟨gb143, 1, none⟩ = some (.string (⟨#[]⟩ : ByteArray)) := (blk_cell BK143.out 1).trans rfl; have hfz51_0 := blk_frozen BK143.out 0; have hfz51_1 := blk_frozen BK143.out 1))
                              refine bodyPost_ret (results_ctt rfl _ _ gb143 33 #[.int .i64 0, .string (⟨#[]⟩ : ByteArray)] (0, 0) _ rfl (by (with_reducible repeat (first | refine blk_drewN ?_ _ | refine blk_drew ?_ | refine blk_alloc ?_ _)); refine blk_put (cs := #[.int .i64 0, .string (⟨#[]⟩ : ByteArray)]) ?_ 1 _ rfl; (with_reducible repeat (first | refine blk_drewN ?_ _ | refine blk_drew ?_ | refine blk_alloc ?_ _)); refine blk_put (cs := #[.int .i64 0, .string (⟨#[]⟩ : ByteArray)]) ?_ 0 _ rfl; (with_reducible repeat (first | refine blk_drewN ?_ _ | refine blk_drew ?_ | refine blk_alloc ?_ _)); exact BK143.out) Tryd.underlying33 rfl (by kernel_rfl)) rfl ?_
                              exact ⟨by first | rfl | (simp [errW_none, errW_some] <;> rfl) | (simp [*, errW_none, errW_some] <;> rfl), by repeat (first | (with_reducible first | exact HB.out | apply below_alloc | apply pw_below_drewN | apply below_drew1 | refine below_set ?_ GE143.out | refine below_set ?_ GE148.out) | exact HB.out)⟩
                          · rw [if_neg c26] at H
                            exact absurd H (by simp)
                        · rw [if_neg c25] at H
                          exact absurd H (by simp)
            · rw [if_neg c11] at H
              exact absurd H (by simp)
          · rw [if_neg c10] at H
            exact absurd H (by simp)
        · rw [if_neg c9] at H
          exact absurd H (by simp)

end Go.Proofs.YtgciocgdppaaiaaDoor.P
