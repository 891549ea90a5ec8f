-- Printed by wip/tools/myprint.py (the kit's print over given contracts).
import Derived.Test.YtgciocgdppaaiaaDoorPx0
import Derived.Test.YtgciocgdppaaiaaDoorPxSignetref13Stretch
import Derived.Test.YtgciocgdppaaiaaDoorPxSignetref13Bare
import Derived.Test.YtgciocgdppaaiaaDoorPxSignetref13Compare
namespace Go.Proofs.YtgciocgdppaaiaaDoor.P
open Go.RowKit Go.Proofs.YtgciocgdppaaiaaDoorW.PrintWords Go.Proofs.YtgciocgdppaaiaaDoorW.PrintLast Go.Proofs.YtgciocgdppaaiaaDoorW.PrintMore
attribute [local go_sem] max2_int min2_int max_two min_two max_three min_three max_four min_four Go.Proofs.YtgciocgdppaaiaaDoor.bytesLess_flip Go.Proofs.YtgciocgdppaaiaaDoor.bytesLess_flip2
set_option linter.unusedVariables false
set_option linter.unusedSimpArgs false

/-! ### signetref13_Digits: function 9 -/
mutual
def signetref13_Digits.l0 : Nat → ByteArray → ByteArray → Int → Int → Option (Int)
  | 0, _, _, _, _ => none
  | k + 1, x0, x1, x5, x6 => if x5 < (x0.size : Int) then (signetref13_Digits.j1 k x0 x1 x5 x6 (decide (x6 < (x1.size : Int)))) else (signetref13_Digits.j1 k x0 x1 x5 x6 false)
def signetref13_Digits.j1 : Nat → ByteArray → ByteArray → Int → Int → Bool → Option (Int)
  | 0, _, _, _, _, _ => none
  | k + 1, x0, x1, x5, x6, x20 => if x20 = true then ((signetref13_stretch.f k x0 x5).bind fun t134 => ((signetref13_stretch.f k x1 x6).bind fun t135 => (if t134 > 0 then (signetref13_Digits.j2 k x0 x1 x5 x6 t134 t135 (decide (t135 > 0))) else (signetref13_Digits.j2 k x0 x1 x5 x6 t134 t135 false)))) else (if x5 < (x0.size : Int) then (some 1) else (if x6 < (x1.size : Int) then (some (-1)) else ((signetref13_Compare.f k x0 x1).bind fun t139 => (some t139))))
def signetref13_Digits.j2 : Nat → ByteArray → ByteArray → Int → Int → Int → Int → Bool → Option (Int)
  | 0, _, _, _, _, _, _, _ => none
  | k + 1, x0, x1, x5, x6, x7, x8, x32 => if x32 = true then (if 0 ≤ x5 then (if x5 ≤ (wrap64 (x5 + x7)) then (if (wrap64 (x5 + x7)) ≤ (x0.size : Int) then ((signetref13_bare.f k (x0.extract (x5 : Int).toNat ((wrap64 (x5 + x7)) : Int).toNat)).bind fun t136 => (if 0 ≤ x6 then (if x6 ≤ (wrap64 (x6 + x8)) then (if (wrap64 (x6 + x8)) ≤ (x1.size : Int) then ((signetref13_bare.f k (x1.extract (x6 : Int).toNat ((wrap64 (x6 + x8)) : Int).toNat)).bind fun t137 => (if (t136.size : Int) = (t137.size : Int) then (if t136.toList = t137.toList then (signetref13_Digits.l0 k x0 x1 (wrap64 (x5 + x7)) (wrap64 (x6 + x8))) else ((signetref13_Compare.f k t136 t137).bind fun t138 => (some t138))) else (if (t136.size : Int) < (t137.size : Int) then (some (-1)) else (some 1)))) else (none)) else (none)) else (none))) else (none)) else (none)) else (none)) else (if 0 ≤ x5 then (if x5 < (x0.size : Int) then (if 0 ≤ x6 then (if x6 < (x1.size : Int) then (if (bt x0 x5) = (bt x1 x6) then (signetref13_Digits.l0 k x0 x1 (wrap64 (x5 + 1)) (wrap64 (x6 + 1))) else (if (bt x0 x5) < (bt x1 x6) then (some (-1)) else (some 1))) else (none)) else (none)) else (none)) else (none))
end
def signetref13_Digits.f (k : Nat) (a0 : ByteArray) (a1 : ByteArray) : Option (Int) := signetref13_Digits.l0 k a0 a1 0 0
theorem signetref13_Digits.mono_l : ∀ k, (∀ y0 y1 y2 y3, LeO (signetref13_Digits.l0 k y0 y1 y2 y3) (signetref13_Digits.l0 (k + 1) y0 y1 y2 y3)) ∧ (∀ y0 y1 y2 y3 y4, LeO (signetref13_Digits.j1 k y0 y1 y2 y3 y4) (signetref13_Digits.j1 (k + 1) y0 y1 y2 y3 y4)) ∧ (∀ y0 y1 y2 y3 y4 y5 y6, LeO (signetref13_Digits.j2 k y0 y1 y2 y3 y4 y5 y6) (signetref13_Digits.j2 (k + 1) y0 y1 y2 y3 y4 y5 y6))
  | 0 => ⟨fun _ _ _ _ r h => by simp [signetref13_Digits.l0] at h, fun _ _ _ _ _ r h => by simp [signetref13_Digits.j1] at h, fun _ _ _ _ _ _ _ r h => by simp [signetref13_Digits.j2] at h⟩
  | k + 1 => by
    obtain ⟨ih0, ih1, ih2⟩ := signetref13_Digits.mono_l k
    refine ⟨?_, ?_, ?_⟩
    · intro y0 y1 y2 y3
      unfold signetref13_Digits.l0
      repeat' first
      | (with_reducible exact ih0 _ _ _ _)
      | (with_reducible exact ih1 _ _ _ _ _)
      | (with_reducible exact ih2 _ _ _ _ _ _ _)
      | (with_reducible exact signetref13_Compare.mono _ _ _)
      | (with_reducible exact signetref13_bare.mono _ _)
      | (with_reducible exact signetref13_stretch.mono _ _ _)
      | (with_reducible exact LeO.refl _)
      | (with_reducible exact LeO.none _)
      | (with_reducible refine LeO.ite ?_ ?_)
      | (with_reducible refine LeO.bind ?_ (fun _ => ?_))
      | exact ih0 _ _ _ _
      | exact ih1 _ _ _ _ _
      | exact ih2 _ _ _ _ _ _ _
      | exact signetref13_Compare.mono _ _ _
      | exact signetref13_bare.mono _ _
      | exact signetref13_stretch.mono _ _ _
      | exact LeO.none _
      | refine LeO.ite ?_ ?_
      | refine LeO.bind ?_ (fun _ => ?_)
    · intro y0 y1 y2 y3 y4
      unfold signetref13_Digits.j1
      repeat' first
      | (with_reducible exact ih0 _ _ _ _)
      | (with_reducible exact ih1 _ _ _ _ _)
      | (with_reducible exact ih2 _ _ _ _ _ _ _)
      | (with_reducible exact signetref13_Compare.mono _ _ _)
      | (with_reducible exact signetref13_bare.mono _ _)
      | (with_reducible exact signetref13_stretch.mono _ _ _)
      | (with_reducible exact LeO.refl _)
      | (with_reducible exact LeO.none _)
      | (with_reducible refine LeO.ite ?_ ?_)
      | (with_reducible refine LeO.bind ?_ (fun _ => ?_))
      | exact ih0 _ _ _ _
      | exact ih1 _ _ _ _ _
      | exact ih2 _ _ _ _ _ _ _
      | exact signetref13_Compare.mono _ _ _
      | exact signetref13_bare.mono _ _
      | exact signetref13_stretch.mono _ _ _
      | exact LeO.none _
      | refine LeO.ite ?_ ?_
      | refine LeO.bind ?_ (fun _ => ?_)
    · intro y0 y1 y2 y3 y4 y5 y6
      unfold signetref13_Digits.j2
      repeat' first
      | (with_reducible exact ih0 _ _ _ _)
      | (with_reducible exact ih1 _ _ _ _ _)
      | (with_reducible exact ih2 _ _ _ _ _ _ _)
      | (with_reducible exact signetref13_Compare.mono _ _ _)
      | (with_reducible exact signetref13_bare.mono _ _)
      | (with_reducible exact signetref13_stretch.mono _ _ _)
      | (with_reducible exact LeO.refl _)
      | (with_reducible exact LeO.none _)
      | (with_reducible refine LeO.ite ?_ ?_)
      | (with_reducible refine LeO.bind ?_ (fun _ => ?_))
      | exact ih0 _ _ _ _
      | exact ih1 _ _ _ _ _
      | exact ih2 _ _ _ _ _ _ _
      | exact signetref13_Compare.mono _ _ _
      | exact signetref13_bare.mono _ _
      | exact signetref13_stretch.mono _ _ _
      | exact LeO.none _
      | refine LeO.ite ?_ ?_
      | refine LeO.bind ?_ (fun _ => ?_)
theorem signetref13_Digits.mono : ∀ a0 a1 k, LeO (signetref13_Digits.f k a0 a1) (signetref13_Digits.f (k + 1) a0 a1) := by
  intro a0 a1 k
  obtain ⟨ih0, ih1, ih2⟩ := signetref13_Digits.mono_l k
  unfold signetref13_Digits.f
  repeat' first
      | (with_reducible exact ih0 _ _ _ _)
      | (with_reducible exact ih1 _ _ _ _ _)
      | (with_reducible exact ih2 _ _ _ _ _ _ _)
      | (with_reducible exact signetref13_Compare.mono _ _ _)
      | (with_reducible exact signetref13_bare.mono _ _)
      | (with_reducible exact signetref13_stretch.mono _ _ _)
      | (with_reducible exact LeO.refl _)
      | (with_reducible exact LeO.none _)
      | (with_reducible refine LeO.ite ?_ ?_)
      | (with_reducible refine LeO.bind ?_ (fun _ => ?_))
      | exact ih0 _ _ _ _
      | exact ih1 _ _ _ _ _
      | exact ih2 _ _ _ _ _ _ _
      | exact signetref13_Compare.mono _ _ _
      | exact signetref13_bare.mono _ _
      | exact signetref13_stretch.mono _ _ _
      | exact LeO.none _
      | refine LeO.ite ?_ ?_
      | refine LeO.bind ?_ (fun _ => ?_)
set_option maxHeartbeats 8000000 in
set_option maxRecDepth 100000 in
theorem signetref13_Digits.calls (k : Nat) (a0 : ByteArray) (a1 : ByteArray) (r : Int) (w : World) (h : signetref13_Digits.f k a0 a1 = some r) :
    Calls Tryd.prog 9 #[.string a0, .string a1] w fun e w' => e = .returned (.int .i64 r) ∧ Drawn0 w w' := by
  have H : (signetref13_Digits.l0 k a0 a1 0 0) = some r := h
  clear h
  have H' := Aside0.mk H
  clear H
  go_enter Tryd.func9, Tryd.ntmps9
  go_wp2
  repeat (go_quiet (fail); try go_wp2)
  go_loopg [5, 6] k (fun kq v5 v6 w' => ∃ (x5_1 : Int) (x6_1 : Int), v5 = .int .i64 x5_1 ∧ v6 = .int .i64 x6_1 ∧ Aside0 (signetref13_Digits.l0 kq a0 a1 x5_1 x6_1 = some r) ∧ Aside0 (kq ≤ k) ∧ Drawn0 w w')
  case atStart => exact ⟨(0), (0), (by first | rfl | (simp; done) | (simp [*]; done)), (by first | rfl | (simp; done) | (simp [*]; done)), H', ⟨Nat.le_refl _⟩, by repeat (first | exact Drawn0.refl _ | apply Drawn0.step)⟩
  case round =>
    clear H'
    try clear p2
    obtain ⟨x5_1, x6_1, rfl, rfl, HA, HK1, ⟨m1, rfl⟩⟩ := hrel
    cases gk with
    | zero => exact absurd HA.out (by simp [signetref13_Digits.l0])
    | succ k1 =>
      have H := HA.out
      clear HA
      simp only [signetref13_Digits.l0] at H
      have HC3 := Aside0.mk H
      clear H
      go_upto_region 2 with (fail)
      repeat (go_quiet (fail); go_upto_region 2 with (fail))
      go_cut [20] (fun v20 wc => ∃ (kq : Nat) (x20_2 : Bool), v20 = .bool x20_2 ∧ Aside0 (signetref13_Digits.j1 kq a0 a1 x5_1 x6_1 x20_2 = some r) ∧ Aside0 (kq ≤ k1) ∧ Drawn0 w wc)
      case first =>
        have H := HC3.out
        clear HC3
        by_cases c4 : x5_1 < (a0.size : Int)
        · rw [if_pos c4] at H
          have c4b0 : decide (x5_1 < (a0.size : Int)) = true := decide_eq_true c4
          clear c4
          (first | rw [c4b0] | (simp only [i64_w, i32_w]; rw [c4b0]) | skip)
          have H' := Aside0.mk H
          clear H
          go_wp2
          repeat (go_quiet (fail); try go_wp2)
          go_meet
          case rel => exact ⟨_, (decide (x6_1 < (a1.size : Int))), (by first | rfl | (simp; done) | (simp [*]; done)), H', ⟨by have := HK1.out; first | omega | exact Nat.le_refl _⟩, by repeat (first | exact Drawn0.refl _ | apply Drawn0.step)⟩
        · rw [if_neg c4] at H
          have c4b0 : decide (x5_1 < (a0.size : Int)) = false := decide_eq_false c4
          clear c4
          (first | rw [c4b0] | (simp only [i64_w, i32_w]; rw [c4b0]) | skip)
          have H' := Aside0.mk H
          clear H
          go_wp2
          repeat (go_quiet (fail); try go_wp2)
          go_meet
          case rel => exact ⟨_, (false), (by first | rfl | (simp; done) | (simp [*]; done)), H', ⟨by have := HK1.out; first | omega | exact Nat.le_refl _⟩, by repeat (first | exact Drawn0.refl _ | apply Drawn0.step)⟩
      case rest =>
        clear HC3
        try clear p2
        try clear c4
        try clear c4b0
        try clear p2
        obtain ⟨kq, x20_2, rfl, HA, HJ2, ⟨mc2, rfl⟩⟩ := hcut
        cases kq with
        | zero => exact absurd HA.out (by simp [signetref13_Digits.j1])
        | succ kj2 =>
          have H := HA.out
          clear HA
          simp only [signetref13_Digits.j1] at H
          by_cases c5 : x20_2 = true
          · subst c5
            have H1 : ((signetref13_stretch.f kj2 a0 x5_1).bind fun t134 => ((signetref13_stretch.f kj2 a1 x6_1).bind fun t135 => (if t134 > 0 then (signetref13_Digits.j2 kj2 a0 a1 x5_1 x6_1 t134 t135 (decide (t135 > 0))) else (signetref13_Digits.j2 kj2 a0 a1 x5_1 x6_1 t134 t135 false)))) = some r := by rw [if_pos rfl] at H; exact H
            clear H
            have H := H1
            clear H1
            replace H := Option.bind_eq_some_iff.mp H
            obtain ⟨t134, A60, H⟩ := H
            replace H : ((signetref13_stretch.f kj2 a1 x6_1).bind fun t135 => (if t134 > 0 then (signetref13_Digits.j2 kj2 a0 a1 x5_1 x6_1 t134 t135 (decide (t135 > 0))) else (signetref13_Digits.j2 kj2 a0 a1 x5_1 x6_1 t134 t135 false))) = some r := H
            have A6 := Aside0.mk A60
            clear A60
            replace H := Option.bind_eq_some_iff.mp H
            obtain ⟨t135, A70, H⟩ := H
            replace H : (if t134 > 0 then (signetref13_Digits.j2 kj2 a0 a1 x5_1 x6_1 t134 t135 (decide (t135 > 0))) else (signetref13_Digits.j2 kj2 a0 a1 x5_1 x6_1 t134 t135 false)) = some r := H
            have A7 := Aside0.mk A70
            clear A70
            have HC8 := Aside0.mk H
            clear H
            go_upto_region 4 with (first | (go_at_call 30; (with_reducible refine (signetref13_stretch.calls kj2 a0 x5_1 t134 _ A6.out).mono ?_); rintro e w' ⟨rfl, ⟨nd, rfl⟩⟩; (try first | exact ⟨rfl, _, World.drewN_drewN _ _ _⟩ | exact ⟨rfl, _, Eq.trans (World.drewN_drewN _ _ _) (congrArg (World.drewN _) (Nat.add_assoc _ _ _))⟩)) | (go_at_call 30; (with_reducible refine (signetref13_stretch.calls kj2 a1 x6_1 t135 _ A7.out).mono ?_); rintro e w' ⟨rfl, ⟨nd, rfl⟩⟩; (try first | exact ⟨rfl, _, World.drewN_drewN _ _ _⟩ | exact ⟨rfl, _, Eq.trans (World.drewN_drewN _ _ _) (congrArg (World.drewN _) (Nat.add_assoc _ _ _))⟩)))
            repeat (go_quiet (first | (go_at_call 30; (with_reducible refine (signetref13_stretch.calls kj2 a0 x5_1 t134 _ A6.out).mono ?_); rintro e w' ⟨rfl, ⟨nd, rfl⟩⟩; (try first | exact ⟨rfl, _, World.drewN_drewN _ _ _⟩ | exact ⟨rfl, _, Eq.trans (World.drewN_drewN _ _ _) (congrArg (World.drewN _) (Nat.add_assoc _ _ _))⟩)) | (go_at_call 30; (with_reducible refine (signetref13_stretch.calls kj2 a1 x6_1 t135 _ A7.out).mono ?_); rintro e w' ⟨rfl, ⟨nd, rfl⟩⟩; (try first | exact ⟨rfl, _, World.drewN_drewN _ _ _⟩ | exact ⟨rfl, _, Eq.trans (World.drewN_drewN _ _ _) (congrArg (World.drewN _) (Nat.add_assoc _ _ _))⟩))); go_upto_region 4 with (first | (go_at_call 30; (with_reducible refine (signetref13_stretch.calls kj2 a0 x5_1 t134 _ A6.out).mono ?_); rintro e w' ⟨rfl, ⟨nd, rfl⟩⟩; (try first | exact ⟨rfl, _, World.drewN_drewN _ _ _⟩ | exact ⟨rfl, _, Eq.trans (World.drewN_drewN _ _ _) (congrArg (World.drewN _) (Nat.add_assoc _ _ _))⟩)) | (go_at_call 30; (with_reducible refine (signetref13_stretch.calls kj2 a1 x6_1 t135 _ A7.out).mono ?_); rintro e w' ⟨rfl, ⟨nd, rfl⟩⟩; (try first | exact ⟨rfl, _, World.drewN_drewN _ _ _⟩ | exact ⟨rfl, _, Eq.trans (World.drewN_drewN _ _ _) (congrArg (World.drewN _) (Nat.add_assoc _ _ _))⟩))))
            (try simp only [Act.put, List.setIfInBounds_toArray, List.set_cons_zero, List.set_cons_succ])
            go_cut [32] (fun v32 wc => ∃ (kq : Nat) (x32_7 : Bool), v32 = .bool x32_7 ∧ Aside0 (signetref13_Digits.j2 kq a0 a1 x5_1 x6_1 t134 t135 x32_7 = some r) ∧ Aside0 (kq ≤ kj2) ∧ Drawn0 w wc)
            case first =>
              have H := HC8.out
              clear HC8
              by_cases c9 : t134 > 0
              · rw [if_pos c9] at H
                have c9b0 : decide (0 < t134) = true := decide_eq_true c9
                clear c9
                (first | rw [c9b0] | (simp only [i64_w, i32_w]; rw [c9b0]) | skip)
                have H' := Aside0.mk H
                clear H
                go_wp2
                repeat (go_quiet (fail); try go_wp2)
                go_meet
                case rel => exact ⟨_, (decide (t135 > 0)), (by first | rfl | (simp; done) | (simp [*]; done)), H', ⟨by have := HK1.out; have := HJ2.out; first | omega | exact Nat.le_refl _⟩, by repeat (first | exact Drawn0.refl _ | apply Drawn0.step)⟩
              · rw [if_neg c9] at H
                have c9b0 : decide (0 < t134) = false := decide_eq_false c9
                clear c9
                (first | rw [c9b0] | (simp only [i64_w, i32_w]; rw [c9b0]) | skip)
                have H' := Aside0.mk H
                clear H
                go_wp2
                repeat (go_quiet (fail); try go_wp2)
                go_meet
                case rel => exact ⟨_, (false), (by first | rfl | (simp; done) | (simp [*]; done)), H', ⟨by have := HK1.out; have := HJ2.out; first | omega | exact Nat.le_refl _⟩, by repeat (first | exact Drawn0.refl _ | apply Drawn0.step)⟩
            case rest =>
              clear HC8
              try clear c2
              try clear p2
              try clear c4
              try clear c4b0
              try clear c5
              try clear c9
              try clear c9b0
              try clear p2
              obtain ⟨kq, x32_7, rfl, HA, HJ7, ⟨mc7, rfl⟩⟩ := hcut
              cases kq with
              | zero => exact absurd HA.out (by simp [signetref13_Digits.j2])
              | succ kj7 =>
                have H := HA.out
                clear HA
                simp only [signetref13_Digits.j2] at H
                by_cases c10 : x32_7 = true
                · subst c10
                  have H1 : (if 0 ≤ x5_1 then (if x5_1 ≤ (wrap64 (x5_1 + t134)) then (if (wrap64 (x5_1 + t134)) ≤ (a0.size : Int) then ((signetref13_bare.f kj7 (a0.extract (x5_1 : Int).toNat ((wrap64 (x5_1 + t134)) : Int).toNat)).bind fun t136 => (if 0 ≤ x6_1 then (if x6_1 ≤ (wrap64 (x6_1 + t135)) then (if (wrap64 (x6_1 + t135)) ≤ (a1.size : Int) then ((signetref13_bare.f kj7 (a1.extract (x6_1 : Int).toNat ((wrap64 (x6_1 + t135)) : Int).toNat)).bind fun t137 => (if (t136.size : Int) = (t137.size : Int) then (if t136.toList = t137.toList then (signetref13_Digits.l0 kj7 a0 a1 (wrap64 (x5_1 + t134)) (wrap64 (x6_1 + t135))) else ((signetref13_Compare.f kj7 t136 t137).bind fun t138 => (some t138))) else (if (t136.size : Int) < (t137.size : Int) then (some (-1)) else (some 1)))) else (none)) else (none)) else (none))) else (none)) else (none)) else (none)) = some r := by rw [if_pos rfl] at H; exact H
                  clear H
                  have H := H1
                  clear H1
                  by_cases c11 : 0 ≤ x5_1
                  · rw [if_pos c11] at H
                    have c11b0 := eq_true c11
                    have c11b1 : decide (0 ≤ x5_1) = true := decide_eq_true c11
                    clear c11
                    by_cases c12 : x5_1 ≤ (wrap64 (x5_1 + t134))
                    · rw [if_pos c12] at H
                      have c12b0 := eq_true c12
                      have c12b1 : decide (x5_1 ≤ (wrap64 (x5_1 + t134))) = true := decide_eq_true c12
                      by_cases c13 : (wrap64 (x5_1 + t134)) ≤ (a0.size : Int)
                      · rw [if_pos c13] at H
                        have c13b0 := eq_true c13
                        have c13b1 : decide ((wrap64 (x5_1 + t134)) ≤ (a0.size : Int)) = true := decide_eq_true c13
                        replace H := Option.bind_eq_some_iff.mp H
                        obtain ⟨t136, A140, H⟩ := H
                        replace H : (if 0 ≤ x6_1 then (if x6_1 ≤ (wrap64 (x6_1 + t135)) then (if (wrap64 (x6_1 + t135)) ≤ (a1.size : Int) then ((signetref13_bare.f kj7 (a1.extract (x6_1 : Int).toNat ((wrap64 (x6_1 + t135)) : Int).toNat)).bind fun t137 => (if (t136.size : Int) = (t137.size : Int) then (if t136.toList = t137.toList then (signetref13_Digits.l0 kj7 a0 a1 (wrap64 (x5_1 + t134)) (wrap64 (x6_1 + t135))) else ((signetref13_Compare.f kj7 t136 t137).bind fun t138 => (some t138))) else (if (t136.size : Int) < (t137.size : Int) then (some (-1)) else (some 1)))) else (none)) else (none)) else (none)) = some r := H
                        have A14 := Aside0.mk A140
                        clear A140
                        by_cases c15 : 0 ≤ x6_1
                        · rw [if_pos c15] at H
                          have c15b0 := eq_true c15
                          have c15b1 : decide (0 ≤ x6_1) = true := decide_eq_true c15
                          clear c15
                          by_cases c16 : x6_1 ≤ (wrap64 (x6_1 + t135))
                          · rw [if_pos c16] at H
                            have c16b0 := eq_true c16
                            have c16b1 : decide (x6_1 ≤ (wrap64 (x6_1 + t135))) = true := decide_eq_true c16
                            by_cases c17 : (wrap64 (x6_1 + t135)) ≤ (a1.size : Int)
                            · rw [if_pos c17] at H
                              have c17b0 := eq_true c17
                              have c17b1 : decide ((wrap64 (x6_1 + t135)) ≤ (a1.size : Int)) = true := decide_eq_true c17
                              replace H := Option.bind_eq_some_iff.mp H
                              obtain ⟨t137, A180, H⟩ := H
                              replace H : (if (t136.size : Int) = (t137.size : Int) then (if t136.toList = t137.toList then (signetref13_Digits.l0 kj7 a0 a1 (wrap64 (x5_1 + t134)) (wrap64 (x6_1 + t135))) else ((signetref13_Compare.f kj7 t136 t137).bind fun t138 => (some t138))) else (if (t136.size : Int) < (t137.size : Int) then (some (-1)) else (some 1))) = some r := H
                              have A18 := Aside0.mk A180
                              clear A180
                              by_cases c19 : (t136.size : Int) = (t137.size : Int)
                              · rw [if_pos c19] at H
                                have c19b0 : ((t136.size : Int) == (t137.size : Int)) = true := beq_iff_eq.mpr c19
                                have c19b1 : ((t136.size : Int) != (t137.size : Int)) = false := bne_eq_false_iff_eq.mpr c19
                                have c19b2 : (t136.size == t137.size) = true := by first | simpa using c19 | (simp at c19 ⊢; omega)
                                clear c19
                                by_cases c20 : t136.toList = t137.toList
                                · rw [if_pos c20] at H
                                  have c20b0 : (t136.toList == t137.toList) = true := beq_iff_eq.mpr c20
                                  have c20b1 : (t136.toList != t137.toList) = false := bne_eq_false_iff_eq.mpr c20
                                  clear c20
                                  have H' := Aside0.mk H
                                  clear H
                                  go_wp2_with (first | (go_at_call 31; (with_reducible refine (signetref13_bare.calls kj7 (a0.extract (x5_1 : Int).toNat ((wrap64 (x5_1 + t134)) : Int).toNat) t136 _ A14.out).mono ?_); rintro e w' ⟨rfl, ⟨nd, rfl⟩⟩; (try first | exact ⟨rfl, _, World.drewN_drewN _ _ _⟩ | exact ⟨rfl, _, Eq.trans (World.drewN_drewN _ _ _) (congrArg (World.drewN _) (Nat.add_assoc _ _ _))⟩)) | (go_at_call 31; (with_reducible refine (signetref13_bare.calls kj7 (a1.extract (x6_1 : Int).toNat ((wrap64 (x6_1 + t135)) : Int).toNat) t137 _ A18.out).mono ?_); rintro e w' ⟨rfl, ⟨nd, rfl⟩⟩; (try first | exact ⟨rfl, _, World.drewN_drewN _ _ _⟩ | exact ⟨rfl, _, Eq.trans (World.drewN_drewN _ _ _) (congrArg (World.drewN _) (Nat.add_assoc _ _ _))⟩)))
                                  repeat (go_quiet (first | (go_at_call 31; (with_reducible refine (signetref13_bare.calls kj7 (a0.extract (x5_1 : Int).toNat ((wrap64 (x5_1 + t134)) : Int).toNat) t136 _ A14.out).mono ?_); rintro e w' ⟨rfl, ⟨nd, rfl⟩⟩; (try first | exact ⟨rfl, _, World.drewN_drewN _ _ _⟩ | exact ⟨rfl, _, Eq.trans (World.drewN_drewN _ _ _) (congrArg (World.drewN _) (Nat.add_assoc _ _ _))⟩)) | (go_at_call 31; (with_reducible refine (signetref13_bare.calls kj7 (a1.extract (x6_1 : Int).toNat ((wrap64 (x6_1 + t135)) : Int).toNat) t137 _ A18.out).mono ?_); rintro e w' ⟨rfl, ⟨nd, rfl⟩⟩; (try first | exact ⟨rfl, _, World.drewN_drewN _ _ _⟩ | exact ⟨rfl, _, Eq.trans (World.drewN_drewN _ _ _) (congrArg (World.drewN _) (Nat.add_assoc _ _ _))⟩))); try go_wp2_with (first | (go_at_call 31; (with_reducible refine (signetref13_bare.calls kj7 (a0.extract (x5_1 : Int).toNat ((wrap64 (x5_1 + t134)) : Int).toNat) t136 _ A14.out).mono ?_); rintro e w' ⟨rfl, ⟨nd, rfl⟩⟩; (try first | exact ⟨rfl, _, World.drewN_drewN _ _ _⟩ | exact ⟨rfl, _, Eq.trans (World.drewN_drewN _ _ _) (congrArg (World.drewN _) (Nat.add_assoc _ _ _))⟩)) | (go_at_call 31; (with_reducible refine (signetref13_bare.calls kj7 (a1.extract (x6_1 : Int).toNat ((wrap64 (x6_1 + t135)) : Int).toNat) t137 _ A18.out).mono ?_); rintro e w' ⟨rfl, ⟨nd, rfl⟩⟩; (try first | exact ⟨rfl, _, World.drewN_drewN _ _ _⟩ | exact ⟨rfl, _, Eq.trans (World.drewN_drewN _ _ _) (congrArg (World.drewN _) (Nat.add_assoc _ _ _))⟩))))
                                  go_roundg kj7
                                  case measure => have := HK1.out; have := HJ2.out; have := HJ7.out; omega
                                  case rel => exact ⟨(wrap64 (x5_1 + t134)), (wrap64 (x6_1 + t135)), (by first | rfl | (simp; done) | (simp [*]; done)), (by first | rfl | (simp; done) | (simp [*]; done)), H', ⟨by have := HK1.out; have := HJ2.out; have := HJ7.out; omega⟩, by repeat (first | exact Drawn0.refl _ | apply Drawn0.step)⟩
                                · rw [if_neg c20] at H
                                  have c20b0 : (t136.toList == t137.toList) = false := beq_eq_false_iff_ne.mpr c20
                                  have c20b1 : (t136.toList != t137.toList) = true := bne_iff_ne.mpr c20
                                  replace H := Option.bind_eq_some_iff.mp H
                                  obtain ⟨t138, A210, H⟩ := H
                                  replace H : (some t138) = some r := H
                                  have A21 := Aside0.mk A210
                                  clear A210
                                  obtain rfl := Option.some.inj H
                                  go_wp2_with (first | (go_at_call 31; (with_reducible refine (signetref13_bare.calls kj7 (a0.extract (x5_1 : Int).toNat ((wrap64 (x5_1 + t134)) : Int).toNat) t136 _ A14.out).mono ?_); rintro e w' ⟨rfl, ⟨nd, rfl⟩⟩; (try first | exact ⟨rfl, _, World.drewN_drewN _ _ _⟩ | exact ⟨rfl, _, Eq.trans (World.drewN_drewN _ _ _) (congrArg (World.drewN _) (Nat.add_assoc _ _ _))⟩)) | (go_at_call 31; (with_reducible refine (signetref13_bare.calls kj7 (a1.extract (x6_1 : Int).toNat ((wrap64 (x6_1 + t135)) : Int).toNat) t137 _ A18.out).mono ?_); rintro e w' ⟨rfl, ⟨nd, rfl⟩⟩; (try first | exact ⟨rfl, _, World.drewN_drewN _ _ _⟩ | exact ⟨rfl, _, Eq.trans (World.drewN_drewN _ _ _) (congrArg (World.drewN _) (Nat.add_assoc _ _ _))⟩)) | (go_at_call 32; (with_reducible refine (signetref13_Compare.calls kj7 t136 t137 t138 _ A21.out).mono ?_); rintro e w' ⟨rfl, ⟨nd, rfl⟩⟩; (try first | exact ⟨rfl, _, World.drewN_drewN _ _ _⟩ | exact ⟨rfl, _, Eq.trans (World.drewN_drewN _ _ _) (congrArg (World.drewN _) (Nat.add_assoc _ _ _))⟩)))
                                  repeat (go_quiet (first | (go_at_call 31; (with_reducible refine (signetref13_bare.calls kj7 (a0.extract (x5_1 : Int).toNat ((wrap64 (x5_1 + t134)) : Int).toNat) t136 _ A14.out).mono ?_); rintro e w' ⟨rfl, ⟨nd, rfl⟩⟩; (try first | exact ⟨rfl, _, World.drewN_drewN _ _ _⟩ | exact ⟨rfl, _, Eq.trans (World.drewN_drewN _ _ _) (congrArg (World.drewN _) (Nat.add_assoc _ _ _))⟩)) | (go_at_call 31; (with_reducible refine (signetref13_bare.calls kj7 (a1.extract (x6_1 : Int).toNat ((wrap64 (x6_1 + t135)) : Int).toNat) t137 _ A18.out).mono ?_); rintro e w' ⟨rfl, ⟨nd, rfl⟩⟩; (try first | exact ⟨rfl, _, World.drewN_drewN _ _ _⟩ | exact ⟨rfl, _, Eq.trans (World.drewN_drewN _ _ _) (congrArg (World.drewN _) (Nat.add_assoc _ _ _))⟩)) | (go_at_call 32; (with_reducible refine (signetref13_Compare.calls kj7 t136 t137 t138 _ A21.out).mono ?_); rintro e w' ⟨rfl, ⟨nd, rfl⟩⟩; (try first | exact ⟨rfl, _, World.drewN_drewN _ _ _⟩ | exact ⟨rfl, _, Eq.trans (World.drewN_drewN _ _ _) (congrArg (World.drewN _) (Nat.add_assoc _ _ _))⟩))); try go_wp2_with (first | (go_at_call 31; (with_reducible refine (signetref13_bare.calls kj7 (a0.extract (x5_1 : Int).toNat ((wrap64 (x5_1 + t134)) : Int).toNat) t136 _ A14.out).mono ?_); rintro e w' ⟨rfl, ⟨nd, rfl⟩⟩; (try first | exact ⟨rfl, _, World.drewN_drewN _ _ _⟩ | exact ⟨rfl, _, Eq.trans (World.drewN_drewN _ _ _) (congrArg (World.drewN _) (Nat.add_assoc _ _ _))⟩)) | (go_at_call 31; (with_reducible refine (signetref13_bare.calls kj7 (a1.extract (x6_1 : Int).toNat ((wrap64 (x6_1 + t135)) : Int).toNat) t137 _ A18.out).mono ?_); rintro e w' ⟨rfl, ⟨nd, rfl⟩⟩; (try first | exact ⟨rfl, _, World.drewN_drewN _ _ _⟩ | exact ⟨rfl, _, Eq.trans (World.drewN_drewN _ _ _) (congrArg (World.drewN _) (Nat.add_assoc _ _ _))⟩)) | (go_at_call 32; (with_reducible refine (signetref13_Compare.calls kj7 t136 t137 t138 _ A21.out).mono ?_); rintro e w' ⟨rfl, ⟨nd, rfl⟩⟩; (try first | exact ⟨rfl, _, World.drewN_drewN _ _ _⟩ | exact ⟨rfl, _, Eq.trans (World.drewN_drewN _ _ _) (congrArg (World.drewN _) (Nat.add_assoc _ _ _))⟩))))
                                  go_ret
                                  exact ⟨by first | rfl | (simp; done) | (simp [*]; done), by repeat (first | exact Drawn0.refl _ | apply Drawn0.step)⟩
                              · rw [if_neg c19] at H
                                have c19b0 : ((t136.size : Int) == (t137.size : Int)) = false := beq_eq_false_iff_ne.mpr c19
                                have c19b1 : ((t136.size : Int) != (t137.size : Int)) = true := bne_iff_ne.mpr c19
                                have c19b2 : (t136.size == t137.size) = false := by first | simpa using c19 | (simp at c19 ⊢; omega)
                                by_cases c22 : (t136.size : Int) < (t137.size : Int)
                                · rw [if_pos c22] at H
                                  have c22b0 : decide ((t136.size : Int) < (t137.size : Int)) = true := decide_eq_true c22
                                  have c22b1 : decide (t136.size < t137.size) = true := decide_eq_true (Int.ofNat_lt.mp c22)
                                  clear c22
                                  obtain rfl := Option.some.inj H
                                  go_wp2_with (first | (go_at_call 31; (with_reducible refine (signetref13_bare.calls kj7 (a0.extract (x5_1 : Int).toNat ((wrap64 (x5_1 + t134)) : Int).toNat) t136 _ A14.out).mono ?_); rintro e w' ⟨rfl, ⟨nd, rfl⟩⟩; (try first | exact ⟨rfl, _, World.drewN_drewN _ _ _⟩ | exact ⟨rfl, _, Eq.trans (World.drewN_drewN _ _ _) (congrArg (World.drewN _) (Nat.add_assoc _ _ _))⟩)) | (go_at_call 31; (with_reducible refine (signetref13_bare.calls kj7 (a1.extract (x6_1 : Int).toNat ((wrap64 (x6_1 + t135)) : Int).toNat) t137 _ A18.out).mono ?_); rintro e w' ⟨rfl, ⟨nd, rfl⟩⟩; (try first | exact ⟨rfl, _, World.drewN_drewN _ _ _⟩ | exact ⟨rfl, _, Eq.trans (World.drewN_drewN _ _ _) (congrArg (World.drewN _) (Nat.add_assoc _ _ _))⟩)))
                                  repeat (go_quiet (first | (go_at_call 31; (with_reducible refine (signetref13_bare.calls kj7 (a0.extract (x5_1 : Int).toNat ((wrap64 (x5_1 + t134)) : Int).toNat) t136 _ A14.out).mono ?_); rintro e w' ⟨rfl, ⟨nd, rfl⟩⟩; (try first | exact ⟨rfl, _, World.drewN_drewN _ _ _⟩ | exact ⟨rfl, _, Eq.trans (World.drewN_drewN _ _ _) (congrArg (World.drewN _) (Nat.add_assoc _ _ _))⟩)) | (go_at_call 31; (with_reducible refine (signetref13_bare.calls kj7 (a1.extract (x6_1 : Int).toNat ((wrap64 (x6_1 + t135)) : Int).toNat) t137 _ A18.out).mono ?_); rintro e w' ⟨rfl, ⟨nd, rfl⟩⟩; (try first | exact ⟨rfl, _, World.drewN_drewN _ _ _⟩ | exact ⟨rfl, _, Eq.trans (World.drewN_drewN _ _ _) (congrArg (World.drewN _) (Nat.add_assoc _ _ _))⟩))); try go_wp2_with (first | (go_at_call 31; (with_reducible refine (signetref13_bare.calls kj7 (a0.extract (x5_1 : Int).toNat ((wrap64 (x5_1 + t134)) : Int).toNat) t136 _ A14.out).mono ?_); rintro e w' ⟨rfl, ⟨nd, rfl⟩⟩; (try first | exact ⟨rfl, _, World.drewN_drewN _ _ _⟩ | exact ⟨rfl, _, Eq.trans (World.drewN_drewN _ _ _) (congrArg (World.drewN _) (Nat.add_assoc _ _ _))⟩)) | (go_at_call 31; (with_reducible refine (signetref13_bare.calls kj7 (a1.extract (x6_1 : Int).toNat ((wrap64 (x6_1 + t135)) : Int).toNat) t137 _ A18.out).mono ?_); rintro e w' ⟨rfl, ⟨nd, rfl⟩⟩; (try first | exact ⟨rfl, _, World.drewN_drewN _ _ _⟩ | exact ⟨rfl, _, Eq.trans (World.drewN_drewN _ _ _) (congrArg (World.drewN _) (Nat.add_assoc _ _ _))⟩))))
                                  go_ret
                                  exact ⟨by first | rfl | (simp; done) | (simp [*]; done), by repeat (first | exact Drawn0.refl _ | apply Drawn0.step)⟩
                                · rw [if_neg c22] at H
                                  have c22b0 : decide ((t136.size : Int) < (t137.size : Int)) = false := decide_eq_false c22
                                  have c22b1 : decide (t136.size < t137.size) = false := decide_eq_false (fun h => c22 (Int.ofNat_lt.mpr h))
                                  clear c22
                                  obtain rfl := Option.some.inj H
                                  go_wp2_with (first | (go_at_call 31; (with_reducible refine (signetref13_bare.calls kj7 (a0.extract (x5_1 : Int).toNat ((wrap64 (x5_1 + t134)) : Int).toNat) t136 _ A14.out).mono ?_); rintro e w' ⟨rfl, ⟨nd, rfl⟩⟩; (try first | exact ⟨rfl, _, World.drewN_drewN _ _ _⟩ | exact ⟨rfl, _, Eq.trans (World.drewN_drewN _ _ _) (congrArg (World.drewN _) (Nat.add_assoc _ _ _))⟩)) | (go_at_call 31; (with_reducible refine (signetref13_bare.calls kj7 (a1.extract (x6_1 : Int).toNat ((wrap64 (x6_1 + t135)) : Int).toNat) t137 _ A18.out).mono ?_); rintro e w' ⟨rfl, ⟨nd, rfl⟩⟩; (try first | exact ⟨rfl, _, World.drewN_drewN _ _ _⟩ | exact ⟨rfl, _, Eq.trans (World.drewN_drewN _ _ _) (congrArg (World.drewN _) (Nat.add_assoc _ _ _))⟩)))
                                  repeat (go_quiet (first | (go_at_call 31; (with_reducible refine (signetref13_bare.calls kj7 (a0.extract (x5_1 : Int).toNat ((wrap64 (x5_1 + t134)) : Int).toNat) t136 _ A14.out).mono ?_); rintro e w' ⟨rfl, ⟨nd, rfl⟩⟩; (try first | exact ⟨rfl, _, World.drewN_drewN _ _ _⟩ | exact ⟨rfl, _, Eq.trans (World.drewN_drewN _ _ _) (congrArg (World.drewN _) (Nat.add_assoc _ _ _))⟩)) | (go_at_call 31; (with_reducible refine (signetref13_bare.calls kj7 (a1.extract (x6_1 : Int).toNat ((wrap64 (x6_1 + t135)) : Int).toNat) t137 _ A18.out).mono ?_); rintro e w' ⟨rfl, ⟨nd, rfl⟩⟩; (try first | exact ⟨rfl, _, World.drewN_drewN _ _ _⟩ | exact ⟨rfl, _, Eq.trans (World.drewN_drewN _ _ _) (congrArg (World.drewN _) (Nat.add_assoc _ _ _))⟩))); try go_wp2_with (first | (go_at_call 31; (with_reducible refine (signetref13_bare.calls kj7 (a0.extract (x5_1 : Int).toNat ((wrap64 (x5_1 + t134)) : Int).toNat) t136 _ A14.out).mono ?_); rintro e w' ⟨rfl, ⟨nd, rfl⟩⟩; (try first | exact ⟨rfl, _, World.drewN_drewN _ _ _⟩ | exact ⟨rfl, _, Eq.trans (World.drewN_drewN _ _ _) (congrArg (World.drewN _) (Nat.add_assoc _ _ _))⟩)) | (go_at_call 31; (with_reducible refine (signetref13_bare.calls kj7 (a1.extract (x6_1 : Int).toNat ((wrap64 (x6_1 + t135)) : Int).toNat) t137 _ A18.out).mono ?_); rintro e w' ⟨rfl, ⟨nd, rfl⟩⟩; (try first | exact ⟨rfl, _, World.drewN_drewN _ _ _⟩ | exact ⟨rfl, _, Eq.trans (World.drewN_drewN _ _ _) (congrArg (World.drewN _) (Nat.add_assoc _ _ _))⟩))))
                                  go_ret
                                  exact ⟨by first | rfl | (simp; done) | (simp [*]; done), by repeat (first | exact Drawn0.refl _ | apply Drawn0.step)⟩
                            · rw [if_neg c17] at H
                              exact absurd H (by simp)
                          · rw [if_neg c16] at H
                            exact absurd H (by simp)
                        · rw [if_neg c15] at H
                          exact absurd H (by simp)
                      · rw [if_neg c13] at H
                        exact absurd H (by simp)
                    · rw [if_neg c12] at H
                      exact absurd H (by simp)
                  · rw [if_neg c11] at H
                    exact absurd H (by simp)
                · replace c10 := Bool.eq_false_iff.mpr c10
                  subst c10
                  have H1 : (if 0 ≤ x5_1 then (if x5_1 < (a0.size : Int) then (if 0 ≤ x6_1 then (if x6_1 < (a1.size : Int) then (if (bt a0 x5_1) = (bt a1 x6_1) then (signetref13_Digits.l0 kj7 a0 a1 (wrap64 (x5_1 + 1)) (wrap64 (x6_1 + 1))) else (if (bt a0 x5_1) < (bt a1 x6_1) then (some (-1)) else (some 1))) else (none)) else (none)) else (none)) else (none)) = some r := by rw [if_neg (show ¬ (false = true) by decide)] at H; exact H
                  clear H
                  have H := H1
                  clear H1
                  by_cases c23 : 0 ≤ x5_1
                  · rw [if_pos c23] at H
                    have c23b0 : decide (0 ≤ x5_1) = true := decide_eq_true c23
                    clear c23
                    by_cases c24 : x5_1 < (a0.size : Int)
                    · rw [if_pos c24] at H
                      have c24b0 : decide (x5_1 < (a0.size : Int)) = true := decide_eq_true c24
                      clear c24
                      by_cases c26 : 0 ≤ x6_1
                      · rw [if_pos c26] at H
                        have c26b0 : decide (0 ≤ x6_1) = true := decide_eq_true c26
                        clear c26
                        by_cases c27 : x6_1 < (a1.size : Int)
                        · rw [if_pos c27] at H
                          have c27b0 : decide (x6_1 < (a1.size : Int)) = true := decide_eq_true c27
                          clear c27
                          by_cases c29 : (bt a0 x5_1) = (bt a1 x6_1)
                          · rw [if_pos c29] at H
                            have c29b0 : ((bt a0 x5_1) == (bt a1 x6_1)) = true := beq_iff_eq.mpr c29
                            have c29b1 : ((bt a0 x5_1) != (bt a1 x6_1)) = false := bne_eq_false_iff_eq.mpr c29
                            clear c29
                            have H' := Aside0.mk H
                            clear H
                            have p25 : 0 ≤ (x5_1 : Int) := of_decide_eq_true (by first | (with_reducible assumption) | assumption)
                            have q25 : x5_1 < (a0.size : Int) := of_decide_eq_true (by first | (with_reducible assumption) | assumption)
                            have hx25 := bt_at a0 x5_1
                            replace p25 := eq_true p25
                            replace q25 := eq_true q25
                            have p28 : 0 ≤ (x6_1 : Int) := of_decide_eq_true (by first | (with_reducible assumption) | assumption)
                            have q28 : x6_1 < (a1.size : Int) := of_decide_eq_true (by first | (with_reducible assumption) | assumption)
                            have hx28 := bt_at a1 x6_1
                            replace p28 := eq_true p28
                            replace q28 := eq_true q28
                            go_wp2
                            repeat (go_quiet (fail); try go_wp2)
                            go_roundg kj7
                            case measure => have := HK1.out; have := HJ2.out; have := HJ7.out; omega
                            case rel => exact ⟨(wrap64 (x5_1 + 1)), (wrap64 (x6_1 + 1)), (by first | rfl | (simp; done) | (simp [*]; done)), (by first | rfl | (simp; done) | (simp [*]; done)), H', ⟨by have := HK1.out; have := HJ2.out; have := HJ7.out; omega⟩, by repeat (first | exact Drawn0.refl _ | apply Drawn0.step)⟩
                          · rw [if_neg c29] at H
                            have c29b0 : ((bt a0 x5_1) == (bt a1 x6_1)) = false := beq_eq_false_iff_ne.mpr c29
                            have c29b1 : ((bt a0 x5_1) != (bt a1 x6_1)) = true := bne_iff_ne.mpr c29
                            by_cases c32 : (bt a0 x5_1) < (bt a1 x6_1)
                            · rw [if_pos c32] at H
                              have c32b0 : decide ((bt a0 x5_1) < (bt a1 x6_1)) = true := decide_eq_true c32
                              clear c32
                              obtain rfl := Option.some.inj H
                              have p25 : 0 ≤ (x5_1 : Int) := of_decide_eq_true (by first | (with_reducible assumption) | assumption)
                              have q25 : x5_1 < (a0.size : Int) := of_decide_eq_true (by first | (with_reducible assumption) | assumption)
                              have hx25 := bt_at a0 x5_1
                              replace p25 := eq_true p25
                              replace q25 := eq_true q25
                              have p28 : 0 ≤ (x6_1 : Int) := of_decide_eq_true (by first | (with_reducible assumption) | assumption)
                              have q28 : x6_1 < (a1.size : Int) := of_decide_eq_true (by first | (with_reducible assumption) | assumption)
                              have hx28 := bt_at a1 x6_1
                              replace p28 := eq_true p28
                              replace q28 := eq_true q28
                              have p30 : 0 ≤ (x5_1 : Int) := of_decide_eq_true (by first | (with_reducible assumption) | assumption)
                              have q30 : x5_1 < (a0.size : Int) := of_decide_eq_true (by first | (with_reducible assumption) | assumption)
                              have hx30 := bt_at a0 x5_1
                              replace p30 := eq_true p30
                              replace q30 := eq_true q30
                              have p31 : 0 ≤ (x6_1 : Int) := of_decide_eq_true (by first | (with_reducible assumption) | assumption)
                              have q31 : x6_1 < (a1.size : Int) := of_decide_eq_true (by first | (with_reducible assumption) | assumption)
                              have hx31 := bt_at a1 x6_1
                              replace p31 := eq_true p31
                              replace q31 := eq_true q31
                              go_wp2
                              repeat (go_quiet (fail); try go_wp2)
                              go_ret
                              exact ⟨by first | rfl | (simp; done) | (simp [*]; done), by repeat (first | exact Drawn0.refl _ | apply Drawn0.step)⟩
                            · rw [if_neg c32] at H
                              have c32b0 : decide ((bt a0 x5_1) < (bt a1 x6_1)) = false := decide_eq_false c32
                              clear c32
                              obtain rfl := Option.some.inj H
                              have p25 : 0 ≤ (x5_1 : Int) := of_decide_eq_true (by first | (with_reducible assumption) | assumption)
                              have q25 : x5_1 < (a0.size : Int) := of_decide_eq_true (by first | (with_reducible assumption) | assumption)
                              have hx25 := bt_at a0 x5_1
                              replace p25 := eq_true p25
                              replace q25 := eq_true q25
                              have p28 : 0 ≤ (x6_1 : Int) := of_decide_eq_true (by first | (with_reducible assumption) | assumption)
                              have q28 : x6_1 < (a1.size : Int) := of_decide_eq_true (by first | (with_reducible assumption) | assumption)
                              have hx28 := bt_at a1 x6_1
                              replace p28 := eq_true p28
                              replace q28 := eq_true q28
                              have p30 : 0 ≤ (x5_1 : Int) := of_decide_eq_true (by first | (with_reducible assumption) | assumption)
                              have q30 : x5_1 < (a0.size : Int) := of_decide_eq_true (by first | (with_reducible assumption) | assumption)
                              have hx30 := bt_at a0 x5_1
                              replace p30 := eq_true p30
                              replace q30 := eq_true q30
                              have p31 : 0 ≤ (x6_1 : Int) := of_decide_eq_true (by first | (with_reducible assumption) | assumption)
                              have q31 : x6_1 < (a1.size : Int) := of_decide_eq_true (by first | (with_reducible assumption) | assumption)
                              have hx31 := bt_at a1 x6_1
                              replace p31 := eq_true p31
                              replace q31 := eq_true q31
                              go_wp2
                              repeat (go_quiet (fail); try go_wp2)
                              go_ret
                              exact ⟨by first | rfl | (simp; done) | (simp [*]; done), by repeat (first | exact Drawn0.refl _ | apply Drawn0.step)⟩
                        · rw [if_neg c27] at H
                          exact absurd H (by simp)
                      · rw [if_neg c26] at H
                        exact absurd H (by simp)
                    · rw [if_neg c24] at H
                      exact absurd H (by simp)
                  · rw [if_neg c23] at H
                    exact absurd H (by simp)
          · replace c5 := Bool.eq_false_iff.mpr c5
            subst c5
            have H1 : (if x5_1 < (a0.size : Int) then (some 1) else (if x6_1 < (a1.size : Int) then (some (-1)) else ((signetref13_Compare.f kj2 a0 a1).bind fun t139 => (some t139)))) = some r := by rw [if_neg (show ¬ (false = true) by decide)] at H; exact H
            clear H
            have H := H1
            clear H1
            by_cases c33 : x5_1 < (a0.size : Int)
            · rw [if_pos c33] at H
              have c33b0 : decide (x5_1 < (a0.size : Int)) = true := decide_eq_true c33
              clear c33
              obtain rfl := Option.some.inj H
              go_wp2
              repeat (go_quiet (fail); try go_wp2)
              go_ret
              exact ⟨by first | rfl | (simp; done) | (simp [*]; done), by repeat (first | exact Drawn0.refl _ | apply Drawn0.step)⟩
            · rw [if_neg c33] at H
              have c33b0 : decide (x5_1 < (a0.size : Int)) = false := decide_eq_false c33
              clear c33
              by_cases c34 : x6_1 < (a1.size : Int)
              · rw [if_pos c34] at H
                have c34b0 : decide (x6_1 < (a1.size : Int)) = true := decide_eq_true c34
                clear c34
                obtain rfl := Option.some.inj H
                go_wp2
                repeat (go_quiet (fail); try go_wp2)
                go_ret
                exact ⟨by first | rfl | (simp; done) | (simp [*]; done), by repeat (first | exact Drawn0.refl _ | apply Drawn0.step)⟩
              · rw [if_neg c34] at H
                have c34b0 : decide (x6_1 < (a1.size : Int)) = false := decide_eq_false c34
                clear c34
                replace H := Option.bind_eq_some_iff.mp H
                obtain ⟨t139, A350, H⟩ := H
                replace H : (some t139) = some r := H
                have A35 := Aside0.mk A350
                clear A350
                obtain rfl := Option.some.inj H
                go_wp2_with (first | (go_at_call 32; (with_reducible refine (signetref13_Compare.calls kj2 a0 a1 t139 _ A35.out).mono ?_); rintro e w' ⟨rfl, ⟨nd, rfl⟩⟩; (try first | exact ⟨rfl, _, World.drewN_drewN _ _ _⟩ | exact ⟨rfl, _, Eq.trans (World.drewN_drewN _ _ _) (congrArg (World.drewN _) (Nat.add_assoc _ _ _))⟩)))
                repeat (go_quiet (first | (go_at_call 32; (with_reducible refine (signetref13_Compare.calls kj2 a0 a1 t139 _ A35.out).mono ?_); rintro e w' ⟨rfl, ⟨nd, rfl⟩⟩; (try first | exact ⟨rfl, _, World.drewN_drewN _ _ _⟩ | exact ⟨rfl, _, Eq.trans (World.drewN_drewN _ _ _) (congrArg (World.drewN _) (Nat.add_assoc _ _ _))⟩))); try go_wp2_with (first | (go_at_call 32; (with_reducible refine (signetref13_Compare.calls kj2 a0 a1 t139 _ A35.out).mono ?_); rintro e w' ⟨rfl, ⟨nd, rfl⟩⟩; (try first | exact ⟨rfl, _, World.drewN_drewN _ _ _⟩ | exact ⟨rfl, _, Eq.trans (World.drewN_drewN _ _ _) (congrArg (World.drewN _) (Nat.add_assoc _ _ _))⟩))))
                go_ret
                exact ⟨by first | rfl | (simp; done) | (simp [*]; done), by repeat (first | exact Drawn0.refl _ | apply Drawn0.step)⟩

end Go.Proofs.YtgciocgdppaaiaaDoor.P
