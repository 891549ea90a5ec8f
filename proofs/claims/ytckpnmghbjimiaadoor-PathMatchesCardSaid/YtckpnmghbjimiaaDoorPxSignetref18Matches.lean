-- Printed by wip/tools/myprint.py (the kit's print over given contracts).
import Derived.Test.YtckpnmghbjimiaaDoorPx0
import Derived.Test.YtckpnmghbjimiaaDoorWGuard
import Derived.Test.YtckpnmghbjimiaaDoorWInvWords
import Derived.Test.YtckpnmghbjimiaaDoorWInv
import Derived.Test.YtckpnmghbjimiaaDoorWRepsOne
import Derived.Test.YtckpnmghbjimiaaDoorWEqStruct
import Derived.Test.YtckpnmghbjimiaaDoorWFootNe
import Derived.Test.YtckpnmghbjimiaaDoorWAt
import Derived.Test.YtckpnmghbjimiaaDoorWFour
import Derived.Test.YtckpnmghbjimiaaDoorWTab
namespace Go.Proofs.YtckpnmghbjimiaaDoor.P
open Go.RowKit Go.Proofs.YtckpnmghbjimiaaDoorW.PrintWords Go.Proofs.YtckpnmghbjimiaaDoorW.PrintLast Go.Proofs.YtckpnmghbjimiaaDoorW.PrintMore
attribute [local go_sem] max2_int min2_int max_two min_two max_three min_three max_four min_four Go.Proofs.YtckpnmghbjimiaaDoor.bytesLess_flip Go.Proofs.YtckpnmghbjimiaaDoor.bytesLess_flip2
set_option linter.unusedVariables false
set_option linter.unusedSimpArgs false

/-! ### signetref18_matches: function 50 -/
mutual
def signetref18_matches.j1 : Nat → ByteArray → ByteArray → List Bool → Option (Bool)
  | 0, _, _, _ => none
  | k + 1, x0, x1, x5 => signetref18_matches.l1 k x0 x1 x5 0
def signetref18_matches.l1 : Nat → ByteArray → ByteArray → List Bool → Int → Option (Bool)
  | 0, _, _, _, _ => none
  | k + 1, x0, x1, x5, x7 => if x7 < (x1.size : Int) then (if 0 ≤ (wrap64 ((x0.size : Int) + 1)) then (if (wrap64 ((x0.size : Int) + 1) : Int).toNat ≤ 281474976710656 then (signetref18_matches.l2 k x0 x1 x5 x7 (List.replicate (wrap64 ((x0.size : Int) + 1) : Int).toNat false) 0) else (none)) else (none)) else (if 0 ≤ (x0.size : Int) then (if (x0.size : Int) < (x5.length : Int) then (some (rdOf false x5 (x0.size : Int))) else (none)) else (none))
def signetref18_matches.l2 : Nat → ByteArray → ByteArray → List Bool → Int → List Bool → Int → Option (Bool)
  | 0, _, _, _, _, _, _ => none
  | k + 1, x0, x1, x5, x7, x8, x9 => if x9 < (x0.size : Int) then (if 0 ≤ x9 then (if x9 < (x5.length : Int) then (if rdOf false x5 x9 = true then (if (bt x0 x9) = 63 then (signetref18_matches.j4 k x0 x1 x5 x7 x8 x9 true) else (if 0 ≤ x7 then (if x7 < (x1.size : Int) then (if (bt x0 x9) = (bt x1 x7) then (signetref18_matches.j4 k x0 x1 x5 x7 x8 x9 ((bt x0 x9) != 42)) else (signetref18_matches.j4 k x0 x1 x5 x7 x8 x9 false)) else (none)) else (none))) else (signetref18_matches.j4 k x0 x1 x5 x7 x8 x9 false)) else (none)) else (none)) else (signetref18_matches.l3 k x0 x1 x7 x8 0)
def signetref18_matches.j4 : Nat → ByteArray → ByteArray → List Bool → Int → List Bool → Int → Bool → Option (Bool)
  | 0, _, _, _, _, _, _, _ => none
  | k + 1, x0, x1, x5, x7, x8, x9, x73 => if x73 = true then (if 0 ≤ (wrap64 (x9 + 1)) then (if (wrap64 (x9 + 1)) < (x8.length : Int) then ((some (x8.set ((wrap64 (x9 + 1)) : Int).toNat true : List Bool)).bind fun y338 => (if 0 ≤ x9 then (if x9 < (x0.size : Int) then (if (bt x0 x9) = 42 then (if x9 < (x5.length : Int) then (if rdOf false x5 x9 = true then (signetref18_matches.l2 k x0 x1 x5 x7 (y338.set ((wrap64 (x9 + 1)) : Int).toNat true) (wrap64 (x9 + 1))) else (if (wrap64 (x9 + 1)) < (x5.length : Int) then (if rdOf false x5 (wrap64 (x9 + 1)) = true then (signetref18_matches.l2 k x0 x1 x5 x7 (y338.set ((wrap64 (x9 + 1)) : Int).toNat true) (wrap64 (x9 + 1))) else (signetref18_matches.l2 k x0 x1 x5 x7 y338 (wrap64 (x9 + 1)))) else (none))) else (none)) else (signetref18_matches.l2 k x0 x1 x5 x7 y338 (wrap64 (x9 + 1)))) else (none)) else (none))) else (none)) else (none)) else (if 0 ≤ x9 then (if x9 < (x0.size : Int) then (if (bt x0 x9) = 42 then (if x9 < (x5.length : Int) then (if rdOf false x5 x9 = true then (if 0 ≤ (wrap64 (x9 + 1)) then (if (wrap64 (x9 + 1)) < (x8.length : Int) then (signetref18_matches.l2 k x0 x1 x5 x7 (x8.set ((wrap64 (x9 + 1)) : Int).toNat true) (wrap64 (x9 + 1))) else (none)) else (none)) else (if 0 ≤ (wrap64 (x9 + 1)) then (if (wrap64 (x9 + 1)) < (x5.length : Int) then (if rdOf false x5 (wrap64 (x9 + 1)) = true then (if (wrap64 (x9 + 1)) < (x8.length : Int) then (signetref18_matches.l2 k x0 x1 x5 x7 (x8.set ((wrap64 (x9 + 1)) : Int).toNat true) (wrap64 (x9 + 1))) else (none)) else (signetref18_matches.l2 k x0 x1 x5 x7 x8 (wrap64 (x9 + 1)))) else (none)) else (none))) else (none)) else (signetref18_matches.l2 k x0 x1 x5 x7 x8 (wrap64 (x9 + 1)))) else (none)) else (none))
def signetref18_matches.l3 : Nat → ByteArray → ByteArray → Int → List Bool → Int → Option (Bool)
  | 0, _, _, _, _, _ => none
  | k + 1, x0, x1, x7, x8, x10 => if x10 < (x0.size : Int) then (if 0 ≤ x10 then (if x10 < (x8.length : Int) then (if rdOf false x8 x10 = true then (if (bt x0 x10) = 42 then (if 0 ≤ (wrap64 (x10 + 1)) then (if (wrap64 (x10 + 1)) < (x8.length : Int) then (signetref18_matches.l3 k x0 x1 x7 (x8.set ((wrap64 (x10 + 1)) : Int).toNat true) (wrap64 (x10 + 1))) else (none)) else (none)) else (signetref18_matches.l3 k x0 x1 x7 x8 (wrap64 (x10 + 1)))) else (signetref18_matches.l3 k x0 x1 x7 x8 (wrap64 (x10 + 1)))) else (none)) else (none)) else (signetref18_matches.l1 k x0 x1 x8 (wrap64 (x7 + 1)))
def signetref18_matches.l0 : Nat → ByteArray → ByteArray → List Bool → Int → Option (Bool)
  | 0, _, _, _, _ => none
  | k + 1, x0, x1, x5, x6 => if x6 < (x0.size : Int) then (if 0 ≤ x6 then (if (bt x0 x6) = 42 then (if 0 ≤ (wrap64 (x6 + 1)) then (if (wrap64 (x6 + 1)) < (x5.length : Int) then (signetref18_matches.l0 k x0 x1 (x5.set ((wrap64 (x6 + 1)) : Int).toNat true) (wrap64 (x6 + 1))) else (none)) else (none)) else (signetref18_matches.j1 k x0 x1 x5)) else (none)) else (signetref18_matches.j1 k x0 x1 x5)
end
def signetref18_matches.f (k : Nat) (a0 : ByteArray) (a1 : ByteArray) : Option (Bool) := if 0 ≤ (wrap64 ((a0.size : Int) + 1)) then (if (wrap64 ((a0.size : Int) + 1) : Int).toNat ≤ 281474976710656 then ((some (List.replicate (wrap64 ((a0.size : Int) + 1) : Int).toNat false : List Bool)).bind fun y328 => (if 0 < (y328.length : Int) then (signetref18_matches.l0 k a0 a1 (y328.set (0 : Int).toNat true) 0) else (none))) else (none)) else (none)
theorem signetref18_matches.mono_l : ∀ k, (∀ y0 y1 y2, LeO (signetref18_matches.j1 k y0 y1 y2) (signetref18_matches.j1 (k + 1) y0 y1 y2)) ∧ (∀ y0 y1 y2 y3, LeO (signetref18_matches.l1 k y0 y1 y2 y3) (signetref18_matches.l1 (k + 1) y0 y1 y2 y3)) ∧ (∀ y0 y1 y2 y3 y4 y5, LeO (signetref18_matches.l2 k y0 y1 y2 y3 y4 y5) (signetref18_matches.l2 (k + 1) y0 y1 y2 y3 y4 y5)) ∧ (∀ y0 y1 y2 y3 y4 y5 y6, LeO (signetref18_matches.j4 k y0 y1 y2 y3 y4 y5 y6) (signetref18_matches.j4 (k + 1) y0 y1 y2 y3 y4 y5 y6)) ∧ (∀ y0 y1 y2 y3 y4, LeO (signetref18_matches.l3 k y0 y1 y2 y3 y4) (signetref18_matches.l3 (k + 1) y0 y1 y2 y3 y4)) ∧ (∀ y0 y1 y2 y3, LeO (signetref18_matches.l0 k y0 y1 y2 y3) (signetref18_matches.l0 (k + 1) y0 y1 y2 y3))
  | 0 => ⟨fun _ _ _ r h => by simp [signetref18_matches.j1] at h, fun _ _ _ _ r h => by simp [signetref18_matches.l1] at h, fun _ _ _ _ _ _ r h => by simp [signetref18_matches.l2] at h, fun _ _ _ _ _ _ _ r h => by simp [signetref18_matches.j4] at h, fun _ _ _ _ _ r h => by simp [signetref18_matches.l3] at h, fun _ _ _ _ r h => by simp [signetref18_matches.l0] at h⟩
  | k + 1 => by
    obtain ⟨ih0, ih1, ih2, ih3, ih4, ih5⟩ := signetref18_matches.mono_l k
    refine ⟨?_, ?_, ?_, ?_, ?_, ?_⟩
    · intro y0 y1 y2
      unfold signetref18_matches.j1
      repeat' first
      | (with_reducible exact ih0 _ _ _)
      | (with_reducible exact ih1 _ _ _ _)
      | (with_reducible exact ih2 _ _ _ _ _ _)
      | (with_reducible exact ih3 _ _ _ _ _ _ _)
      | (with_reducible exact ih4 _ _ _ _ _)
      | (with_reducible exact ih5 _ _ _ _)
      | (with_reducible exact LeO.refl _)
      | (with_reducible exact LeO.none _)
      | (with_reducible refine LeO.ite ?_ ?_)
      | (with_reducible refine LeO.bind ?_ (fun _ => ?_))
      | exact ih0 _ _ _
      | exact ih1 _ _ _ _
      | exact ih2 _ _ _ _ _ _
      | exact ih3 _ _ _ _ _ _ _
      | exact ih4 _ _ _ _ _
      | exact ih5 _ _ _ _
      | exact LeO.none _
      | refine LeO.ite ?_ ?_
      | refine LeO.bind ?_ (fun _ => ?_)
    · intro y0 y1 y2 y3
      unfold signetref18_matches.l1
      repeat' first
      | (with_reducible exact ih0 _ _ _)
      | (with_reducible exact ih1 _ _ _ _)
      | (with_reducible exact ih2 _ _ _ _ _ _)
      | (with_reducible exact ih3 _ _ _ _ _ _ _)
      | (with_reducible exact ih4 _ _ _ _ _)
      | (with_reducible exact ih5 _ _ _ _)
      | (with_reducible exact LeO.refl _)
      | (with_reducible exact LeO.none _)
      | (with_reducible refine LeO.ite ?_ ?_)
      | (with_reducible refine LeO.bind ?_ (fun _ => ?_))
      | exact ih0 _ _ _
      | exact ih1 _ _ _ _
      | exact ih2 _ _ _ _ _ _
      | exact ih3 _ _ _ _ _ _ _
      | exact ih4 _ _ _ _ _
      | exact ih5 _ _ _ _
      | exact LeO.none _
      | refine LeO.ite ?_ ?_
      | refine LeO.bind ?_ (fun _ => ?_)
    · intro y0 y1 y2 y3 y4 y5
      unfold signetref18_matches.l2
      repeat' first
      | (with_reducible exact ih0 _ _ _)
      | (with_reducible exact ih1 _ _ _ _)
      | (with_reducible exact ih2 _ _ _ _ _ _)
      | (with_reducible exact ih3 _ _ _ _ _ _ _)
      | (with_reducible exact ih4 _ _ _ _ _)
      | (with_reducible exact ih5 _ _ _ _)
      | (with_reducible exact LeO.refl _)
      | (with_reducible exact LeO.none _)
      | (with_reducible refine LeO.ite ?_ ?_)
      | (with_reducible refine LeO.bind ?_ (fun _ => ?_))
      | exact ih0 _ _ _
      | exact ih1 _ _ _ _
      | exact ih2 _ _ _ _ _ _
      | exact ih3 _ _ _ _ _ _ _
      | exact ih4 _ _ _ _ _
      | exact ih5 _ _ _ _
      | exact LeO.none _
      | refine LeO.ite ?_ ?_
      | refine LeO.bind ?_ (fun _ => ?_)
    · intro y0 y1 y2 y3 y4 y5 y6
      unfold signetref18_matches.j4
      repeat' first
      | (with_reducible exact ih0 _ _ _)
      | (with_reducible exact ih1 _ _ _ _)
      | (with_reducible exact ih2 _ _ _ _ _ _)
      | (with_reducible exact ih3 _ _ _ _ _ _ _)
      | (with_reducible exact ih4 _ _ _ _ _)
      | (with_reducible exact ih5 _ _ _ _)
      | (with_reducible exact LeO.refl _)
      | (with_reducible exact LeO.none _)
      | (with_reducible refine LeO.ite ?_ ?_)
      | (with_reducible refine LeO.bind ?_ (fun _ => ?_))
      | exact ih0 _ _ _
      | exact ih1 _ _ _ _
      | exact ih2 _ _ _ _ _ _
      | exact ih3 _ _ _ _ _ _ _
      | exact ih4 _ _ _ _ _
      | exact ih5 _ _ _ _
      | exact LeO.none _
      | refine LeO.ite ?_ ?_
      | refine LeO.bind ?_ (fun _ => ?_)
    · intro y0 y1 y2 y3 y4
      unfold signetref18_matches.l3
      repeat' first
      | (with_reducible exact ih0 _ _ _)
      | (with_reducible exact ih1 _ _ _ _)
      | (with_reducible exact ih2 _ _ _ _ _ _)
      | (with_reducible exact ih3 _ _ _ _ _ _ _)
      | (with_reducible exact ih4 _ _ _ _ _)
      | (with_reducible exact ih5 _ _ _ _)
      | (with_reducible exact LeO.refl _)
      | (with_reducible exact LeO.none _)
      | (with_reducible refine LeO.ite ?_ ?_)
      | (with_reducible refine LeO.bind ?_ (fun _ => ?_))
      | exact ih0 _ _ _
      | exact ih1 _ _ _ _
      | exact ih2 _ _ _ _ _ _
      | exact ih3 _ _ _ _ _ _ _
      | exact ih4 _ _ _ _ _
      | exact ih5 _ _ _ _
      | exact LeO.none _
      | refine LeO.ite ?_ ?_
      | refine LeO.bind ?_ (fun _ => ?_)
    · intro y0 y1 y2 y3
      unfold signetref18_matches.l0
      repeat' first
      | (with_reducible exact ih0 _ _ _)
      | (with_reducible exact ih1 _ _ _ _)
      | (with_reducible exact ih2 _ _ _ _ _ _)
      | (with_reducible exact ih3 _ _ _ _ _ _ _)
      | (with_reducible exact ih4 _ _ _ _ _)
      | (with_reducible exact ih5 _ _ _ _)
      | (with_reducible exact LeO.refl _)
      | (with_reducible exact LeO.none _)
      | (with_reducible refine LeO.ite ?_ ?_)
      | (with_reducible refine LeO.bind ?_ (fun _ => ?_))
      | exact ih0 _ _ _
      | exact ih1 _ _ _ _
      | exact ih2 _ _ _ _ _ _
      | exact ih3 _ _ _ _ _ _ _
      | exact ih4 _ _ _ _ _
      | exact ih5 _ _ _ _
      | exact LeO.none _
      | refine LeO.ite ?_ ?_
      | refine LeO.bind ?_ (fun _ => ?_)
theorem signetref18_matches.mono : ∀ a0 a1 k, LeO (signetref18_matches.f k a0 a1) (signetref18_matches.f (k + 1) a0 a1) := by
  intro a0 a1 k
  obtain ⟨ih0, ih1, ih2, ih3, ih4, ih5⟩ := signetref18_matches.mono_l k
  unfold signetref18_matches.f
  repeat' first
      | (with_reducible exact ih0 _ _ _)
      | (with_reducible exact ih1 _ _ _ _)
      | (with_reducible exact ih2 _ _ _ _ _ _)
      | (with_reducible exact ih3 _ _ _ _ _ _ _)
      | (with_reducible exact ih4 _ _ _ _ _)
      | (with_reducible exact ih5 _ _ _ _)
      | (with_reducible exact LeO.refl _)
      | (with_reducible exact LeO.none _)
      | (with_reducible refine LeO.ite ?_ ?_)
      | (with_reducible refine LeO.bind ?_ (fun _ => ?_))
      | exact ih0 _ _ _
      | exact ih1 _ _ _ _
      | exact ih2 _ _ _ _ _ _
      | exact ih3 _ _ _ _ _ _ _
      | exact ih4 _ _ _ _ _
      | exact ih5 _ _ _ _
      | exact LeO.none _
      | refine LeO.ite ?_ ?_
      | refine LeO.bind ?_ (fun _ => ?_)
set_option maxHeartbeats 8000000 in
set_option maxRecDepth 100000 in
theorem signetref18_matches.calls (k : Nat) (a0 : ByteArray) (a1 : ByteArray) (r : Bool) (w : World) (h : signetref18_matches.f k a0 a1 = some r) :
    Calls Tryd.prog 50 #[.string a0, .string a1] w fun e w' => e = .returned (.bool r) ∧ Below w.heap.size w w' := by
  have HB := Aside0.mk (Below.refl w.heap.size w)
  have H : (if 0 ≤ (wrap64 ((a0.size : Int) + 1)) then (if (wrap64 ((a0.size : Int) + 1) : Int).toNat ≤ 281474976710656 then ((some (List.replicate (wrap64 ((a0.size : Int) + 1) : Int).toNat false : List Bool)).bind fun y328 => (if 0 < (y328.length : Int) then (signetref18_matches.l0 k a0 a1 (y328.set (0 : Int).toNat true) 0) else (none))) else (none)) else (none)) = some r := h
  clear h
  obtain ⟨ji3, hji3⟩ : ∃ j_ : Int, (wrap64 ((a0.size : Int) + 1)) = j_ := ⟨_, rfl⟩
  replace H : (if 0 ≤ (ji3) then (if (ji3 : Int).toNat ≤ 281474976710656 then ((some (List.replicate (ji3 : Int).toNat false : List Bool)).bind fun y328 => (if 0 < (y328.length : Int) then (signetref18_matches.l0 k a0 a1 (y328.set (0 : Int).toNat true) 0) else (none))) else (none)) else (none)) = some r := by first | (rw [hji3] at H; exact H) | (simp only [hji3] at H ⊢; exact H)
  have hji3w : (IntKind.i64.wrap ((a0.size : Int) + 1)) = ji3 := (i64_w _).trans hji3
  by_cases c4 : 0 ≤ (ji3)
  · rw [if_pos c4] at H
    have c4b0 := eq_true c4
    have c4b1 : decide (0 ≤ (ji3)) = true := decide_eq_true c4
    clear c4
    by_cases c5 : (ji3 : Int).toNat ≤ 281474976710656
    · rw [if_pos c5] at H
      have c5b0 := eq_true c5
      have c5b1 : decide ((ji3 : Int).toNat ≤ 281474976710656) = true := decide_eq_true c5
      clear c5
      obtain ⟨y328, hy328⟩ : ∃ y_ : List Bool, y_ = (List.replicate (ji3 : Int).toNat false) := ⟨_, rfl⟩
      replace H : (if 0 < (y328.length : Int) then (signetref18_matches.l0 k a0 a1 (y328.set (0 : Int).toNat true) 0) else (none)) = some r := by first | (rw [hy328]; with_reducible exact H) | (have H2_ := (Option.bind_some _ _).symm.trans H; rw [hy328]; with_reducible exact H2_) | (have H2_ := (Option.bind_some _ _).symm.trans H; with_reducible exact H2_) | with_reducible exact H | (rw [hy328]; exact H) | exact H
      have Ny328 := Aside0.mk hy328
      clear hy328
      by_cases c6 : 0 < (y328.length : Int)
      · rw [if_pos c6] at H
        have c6b0 : decide (0 < (y328.length : Int)) = true := decide_eq_true c6
        have c6b1 : decide (0 < y328.length) = true := decide_eq_true (by omega)
        clear c6
        obtain ⟨y331, hy331⟩ : ∃ y_ : List Bool, y_ = (y328.set (0 : Int).toNat true) := ⟨_, rfl⟩
        replace H : (signetref18_matches.l0 k a0 a1 y331 0) = some r := by first | (rw [hy331]; with_reducible exact H) | (have H2_ := (Option.bind_some _ _).symm.trans H; rw [hy331]; with_reducible exact H2_) | (have H2_ := (Option.bind_some _ _).symm.trans H; with_reducible exact H2_) | with_reducible exact H | (rw [hy331]; exact H) | exact H
        have Ny331 := Aside0.mk hy331
        clear hy331
        have HC8 := Aside0.mk H
        clear H
        go_enter Tryd.func50, Tryd.ntmps50
        go_upto_block 0 with (first | ((with_reducible refine gate_dst (N := 14) rfl ?_); refine Kd.R_make Kd.bool _ 4 rfl (N := 14) rfl 88 _ _ rfl ji3 rfl rfl Tryd.underlying88 (.bool false) 1 info4 rfl (by decide) (by omega) false (ok := fun _ => True) (okp := fun _ => True) rfl (fun _ hk => hk) trivial (of_decide_eq_true (by first | (with_reducible assumption) | assumption)) (Nat.le_trans (Nat.mul_le_mul_right _ (of_decide_eq_true (by first | (with_reducible assumption) | assumption) : ji3.toNat ≤ 281474976710656)) (by omega)) (Below.refl _ _) (Nat.le_refl _) ?_; intro v329 w9 ho10 hb hg_ hnew_; clear hg_ hnew_; (first | rw [← Ny328.out] at ho10 | (simp only [Int.reduceToNat] at ho10; rw [← Ny328.out] at ho10)); have n0_ := Aside0.mk (Kd.R_lower ho10 (below_size (by repeat (first | (with_reducible first | exact HB.out | apply below_alloc | apply pw_below_drewN | apply below_drew1) | exact HB.out)))); have n1_ := Aside0.mk (below_step (by repeat (first | (with_reducible first | exact HB.out | apply below_alloc | apply pw_below_drewN | apply below_drew1) | exact HB.out)) hb); clear HB; have HO330 := n0_; have HB := n1_; clear n0_ n1_; clear hb ho10; have p7 : 0 ≤ (0 : Int) := (by omega); have q7 : (0 : Int) < ((y328.length : Int) : Int) := of_decide_eq_true (by first | (with_reducible assumption) | assumption); have qi7 : (0 < y328.length) = True := eq_true (by omega); obtain ⟨go7, co7, eo7, gb7, gl7, cl7, HG7⟩ := Kd.R_form HO330.out (by omega); (first | cases eo7 | (injection eo7 with ea_ en_ ec_; (first | subst ea_ | (injection ea_ with ea_; subst ea_)); subst ec_; clear en_)); have GB7 := Aside0.mk gb7; have GG7 := Aside0.mk HG7; clear gb7 gl7 HG7; obtain ⟨hx7_0, hf7_0⟩ := Kd.R_celln false HO330.out (0 : Int) p7 q7; (try rw [show ((0 : Int)).toNat = 0 from rfl] at hx7_0); (try simp only [Nat.reduceMul, Nat.zero_mul, Nat.zero_add, Nat.reduceAdd] at hx7_0); (try rw [show ((0 : Int)).toNat = 0 from rfl] at hf7_0); (try simp only [Nat.reduceMul, Nat.zero_mul, Nat.zero_add, Nat.reduceAdd] at hf7_0); replace p7 := eq_true p7; replace q7 := eq_true q7; obtain ⟨hy11_, hz11_⟩ := Kd.R_celln false HO330.out (0 : Int) (by omega) (of_decide_eq_true (by first | (with_reducible assumption) | assumption)); (try simp only [Int.reduceToNat, Int.toNat_zero, Int.toNat_ofNat, Nat.reduceMul, Nat.zero_mul, Nat.zero_add] at hy11_ hz11_); (try rw [show ((0 : Int)).toNat = 0 from rfl] at hy11_); (try rw [show ((0 : Int)).toNat = 0 from rfl] at hz11_); have HP11 := Kd.R_putg HO330.out (0 : Int) true) | ((with_reducible refine gate_store (t := 4) (p := 16) rfl ?_); (try (rw [drewN_self w9]; generalize hq_ : World.drewN w9 _ = w9; have n0_ := Aside0.mk (Kd.R_at hq_ HO330.out); have n1_ := Aside0.mk (below_at hq_ HB.out); clear hq_ HO330 HB; have HO330 := n0_; have HB := n1_; clear n0_ n1_; (try (obtain ⟨hy11_, hz11_⟩ := Kd.R_celln false HO330.out (0 : Int) (by omega) (of_decide_eq_true (by first | (with_reducible assumption) | assumption)))); (try (try simp only [Int.reduceToNat, Int.toNat_zero, Int.toNat_ofNat, Nat.reduceMul, Nat.zero_mul, Nat.zero_add] at hy11_ hz11_)); (try (try rw [show ((0 : Int)).toNat = 0 from rfl] at hy11_)); (try (try rw [show ((0 : Int)).toNat = 0 from rfl] at hz11_)); (try (have HP11 := Kd.R_putg HO330.out (0 : Int) true)))); refine store_event (t := 4) (p := 16) (v := ?vo_w12) (w1 := (w9.setCell ⟨go7, (0 : Int).toNat, none⟩ (.bool true))) ?hg ?ho ?hn ?hr ?_; (case ho => rfl); (case hg => rfl); (case hn => rfl); (case hr => first | (go_simp; done) | (go_simp; rfl)); intro w12 hw; have hg : w9.grownBy w12 (some go7) := (by rw [hw]; exact HP11.2); have hp_ : Kd.R Kd.bool 4 w12 w.heap.size (fun _ => True) (.slice (some ⟨go7, 0, none⟩) y328.length co7) y331 := (by rw [hw, Ny331.out]; exact HP11.1); clear HP11; have n0_ := Aside0.mk (hp_); have n1_ := Aside0.mk ((by rw [hw]; exact below_set (HB.out) GB7.out : Below w.heap.size w w12)); clear HO330; clear HB; have HO330 := n0_; have HB := n1_; clear n0_ n1_; clear hg hw hp_))
        repeat (go_quiet (first | ((with_reducible refine gate_dst (N := 14) rfl ?_); refine Kd.R_make Kd.bool _ 4 rfl (N := 14) rfl 88 _ _ rfl ji3 rfl rfl Tryd.underlying88 (.bool false) 1 info4 rfl (by decide) (by omega) false (ok := fun _ => True) (okp := fun _ => True) rfl (fun _ hk => hk) trivial (of_decide_eq_true (by first | (with_reducible assumption) | assumption)) (Nat.le_trans (Nat.mul_le_mul_right _ (of_decide_eq_true (by first | (with_reducible assumption) | assumption) : ji3.toNat ≤ 281474976710656)) (by omega)) (Below.refl _ _) (Nat.le_refl _) ?_; intro v329 w9 ho10 hb hg_ hnew_; clear hg_ hnew_; (first | rw [← Ny328.out] at ho10 | (simp only [Int.reduceToNat] at ho10; rw [← Ny328.out] at ho10)); have n0_ := Aside0.mk (Kd.R_lower ho10 (below_size (by repeat (first | (with_reducible first | exact HB.out | apply below_alloc | apply pw_below_drewN | apply below_drew1) | exact HB.out)))); have n1_ := Aside0.mk (below_step (by repeat (first | (with_reducible first | exact HB.out | apply below_alloc | apply pw_below_drewN | apply below_drew1) | exact HB.out)) hb); clear HB; have HO330 := n0_; have HB := n1_; clear n0_ n1_; clear hb ho10; have p7 : 0 ≤ (0 : Int) := (by omega); have q7 : (0 : Int) < ((y328.length : Int) : Int) := of_decide_eq_true (by first | (with_reducible assumption) | assumption); have qi7 : (0 < y328.length) = True := eq_true (by omega); obtain ⟨go7, co7, eo7, gb7, gl7, cl7, HG7⟩ := Kd.R_form HO330.out (by omega); (first | cases eo7 | (injection eo7 with ea_ en_ ec_; (first | subst ea_ | (injection ea_ with ea_; subst ea_)); subst ec_; clear en_)); have GB7 := Aside0.mk gb7; have GG7 := Aside0.mk HG7; clear gb7 gl7 HG7; obtain ⟨hx7_0, hf7_0⟩ := Kd.R_celln false HO330.out (0 : Int) p7 q7; (try rw [show ((0 : Int)).toNat = 0 from rfl] at hx7_0); (try simp only [Nat.reduceMul, Nat.zero_mul, Nat.zero_add, Nat.reduceAdd] at hx7_0); (try rw [show ((0 : Int)).toNat = 0 from rfl] at hf7_0); (try simp only [Nat.reduceMul, Nat.zero_mul, Nat.zero_add, Nat.reduceAdd] at hf7_0); replace p7 := eq_true p7; replace q7 := eq_true q7; obtain ⟨hy11_, hz11_⟩ := Kd.R_celln false HO330.out (0 : Int) (by omega) (of_decide_eq_true (by first | (with_reducible assumption) | assumption)); (try simp only [Int.reduceToNat, Int.toNat_zero, Int.toNat_ofNat, Nat.reduceMul, Nat.zero_mul, Nat.zero_add] at hy11_ hz11_); (try rw [show ((0 : Int)).toNat = 0 from rfl] at hy11_); (try rw [show ((0 : Int)).toNat = 0 from rfl] at hz11_); have HP11 := Kd.R_putg HO330.out (0 : Int) true) | ((with_reducible refine gate_store (t := 4) (p := 16) rfl ?_); (try (rw [drewN_self w9]; generalize hq_ : World.drewN w9 _ = w9; have n0_ := Aside0.mk (Kd.R_at hq_ HO330.out); have n1_ := Aside0.mk (below_at hq_ HB.out); clear hq_ HO330 HB; have HO330 := n0_; have HB := n1_; clear n0_ n1_; (try (obtain ⟨hy11_, hz11_⟩ := Kd.R_celln false HO330.out (0 : Int) (by omega) (of_decide_eq_true (by first | (with_reducible assumption) | assumption)))); (try (try simp only [Int.reduceToNat, Int.toNat_zero, Int.toNat_ofNat, Nat.reduceMul, Nat.zero_mul, Nat.zero_add] at hy11_ hz11_)); (try (try rw [show ((0 : Int)).toNat = 0 from rfl] at hy11_)); (try (try rw [show ((0 : Int)).toNat = 0 from rfl] at hz11_)); (try (have HP11 := Kd.R_putg HO330.out (0 : Int) true)))); refine store_event (t := 4) (p := 16) (v := ?vo_w12) (w1 := (w9.setCell ⟨go7, (0 : Int).toNat, none⟩ (.bool true))) ?hg ?ho ?hn ?hr ?_; (case ho => rfl); (case hg => rfl); (case hn => rfl); (case hr => first | (go_simp; done) | (go_simp; rfl)); intro w12 hw; have hg : w9.grownBy w12 (some go7) := (by rw [hw]; exact HP11.2); have hp_ : Kd.R Kd.bool 4 w12 w.heap.size (fun _ => True) (.slice (some ⟨go7, 0, none⟩) y328.length co7) y331 := (by rw [hw, Ny331.out]; exact HP11.1); clear HP11; have n0_ := Aside0.mk (hp_); have n1_ := Aside0.mk ((by rw [hw]; exact below_set (HB.out) GB7.out : Below w.heap.size w w12)); clear HO330; clear HB; have HO330 := n0_; have HB := n1_; clear n0_ n1_; clear hg hw hp_)); go_upto_block 0 with (first | ((with_reducible refine gate_dst (N := 14) rfl ?_); refine Kd.R_make Kd.bool _ 4 rfl (N := 14) rfl 88 _ _ rfl ji3 rfl rfl Tryd.underlying88 (.bool false) 1 info4 rfl (by decide) (by omega) false (ok := fun _ => True) (okp := fun _ => True) rfl (fun _ hk => hk) trivial (of_decide_eq_true (by first | (with_reducible assumption) | assumption)) (Nat.le_trans (Nat.mul_le_mul_right _ (of_decide_eq_true (by first | (with_reducible assumption) | assumption) : ji3.toNat ≤ 281474976710656)) (by omega)) (Below.refl _ _) (Nat.le_refl _) ?_; intro v329 w9 ho10 hb hg_ hnew_; clear hg_ hnew_; (first | rw [← Ny328.out] at ho10 | (simp only [Int.reduceToNat] at ho10; rw [← Ny328.out] at ho10)); have n0_ := Aside0.mk (Kd.R_lower ho10 (below_size (by repeat (first | (with_reducible first | exact HB.out | apply below_alloc | apply pw_below_drewN | apply below_drew1) | exact HB.out)))); have n1_ := Aside0.mk (below_step (by repeat (first | (with_reducible first | exact HB.out | apply below_alloc | apply pw_below_drewN | apply below_drew1) | exact HB.out)) hb); clear HB; have HO330 := n0_; have HB := n1_; clear n0_ n1_; clear hb ho10; have p7 : 0 ≤ (0 : Int) := (by omega); have q7 : (0 : Int) < ((y328.length : Int) : Int) := of_decide_eq_true (by first | (with_reducible assumption) | assumption); have qi7 : (0 < y328.length) = True := eq_true (by omega); obtain ⟨go7, co7, eo7, gb7, gl7, cl7, HG7⟩ := Kd.R_form HO330.out (by omega); (first | cases eo7 | (injection eo7 with ea_ en_ ec_; (first | subst ea_ | (injection ea_ with ea_; subst ea_)); subst ec_; clear en_)); have GB7 := Aside0.mk gb7; have GG7 := Aside0.mk HG7; clear gb7 gl7 HG7; obtain ⟨hx7_0, hf7_0⟩ := Kd.R_celln false HO330.out (0 : Int) p7 q7; (try rw [show ((0 : Int)).toNat = 0 from rfl] at hx7_0); (try simp only [Nat.reduceMul, Nat.zero_mul, Nat.zero_add, Nat.reduceAdd] at hx7_0); (try rw [show ((0 : Int)).toNat = 0 from rfl] at hf7_0); (try simp only [Nat.reduceMul, Nat.zero_mul, Nat.zero_add, Nat.reduceAdd] at hf7_0); replace p7 := eq_true p7; replace q7 := eq_true q7; obtain ⟨hy11_, hz11_⟩ := Kd.R_celln false HO330.out (0 : Int) (by omega) (of_decide_eq_true (by first | (with_reducible assumption) | assumption)); (try simp only [Int.reduceToNat, Int.toNat_zero, Int.toNat_ofNat, Nat.reduceMul, Nat.zero_mul, Nat.zero_add] at hy11_ hz11_); (try rw [show ((0 : Int)).toNat = 0 from rfl] at hy11_); (try rw [show ((0 : Int)).toNat = 0 from rfl] at hz11_); have HP11 := Kd.R_putg HO330.out (0 : Int) true) | ((with_reducible refine gate_store (t := 4) (p := 16) rfl ?_); (try (rw [drewN_self w9]; generalize hq_ : World.drewN w9 _ = w9; have n0_ := Aside0.mk (Kd.R_at hq_ HO330.out); have n1_ := Aside0.mk (below_at hq_ HB.out); clear hq_ HO330 HB; have HO330 := n0_; have HB := n1_; clear n0_ n1_; (try (obtain ⟨hy11_, hz11_⟩ := Kd.R_celln false HO330.out (0 : Int) (by omega) (of_decide_eq_true (by first | (with_reducible assumption) | assumption)))); (try (try simp only [Int.reduceToNat, Int.toNat_zero, Int.toNat_ofNat, Nat.reduceMul, Nat.zero_mul, Nat.zero_add] at hy11_ hz11_)); (try (try rw [show ((0 : Int)).toNat = 0 from rfl] at hy11_)); (try (try rw [show ((0 : Int)).toNat = 0 from rfl] at hz11_)); (try (have HP11 := Kd.R_putg HO330.out (0 : Int) true)))); refine store_event (t := 4) (p := 16) (v := ?vo_w12) (w1 := (w9.setCell ⟨go7, (0 : Int).toNat, none⟩ (.bool true))) ?hg ?ho ?hn ?hr ?_; (case ho => rfl); (case hg => rfl); (case hn => rfl); (case hr => first | (go_simp; done) | (go_simp; rfl)); intro w12 hw; have hg : w9.grownBy w12 (some go7) := (by rw [hw]; exact HP11.2); have hp_ : Kd.R Kd.bool 4 w12 w.heap.size (fun _ => True) (.slice (some ⟨go7, 0, none⟩) y328.length co7) y331 := (by rw [hw, Ny331.out]; exact HP11.1); clear HP11; have n0_ := Aside0.mk (hp_); have n1_ := Aside0.mk ((by rw [hw]; exact below_set (HB.out) GB7.out : Below w.heap.size w w12)); clear HO330; clear HB; have HO330 := n0_; have HB := n1_; clear n0_ n1_; clear hg hw hp_)))
        (try simp only [Act.put, List.setIfInBounds_toArray, List.set_cons_zero, List.set_cons_succ])
        go_cut [] (fun wc => ∃ (kq : Nat) (x5_7 : List Bool), Aside0 (signetref18_matches.j1 kq a0 a1 x5_7 = some r) ∧ Aside0 (kq ≤ k) ∧ Aside0 (Kd.R Kd.bool 4 wc w.heap.size (fun _ => True) (.slice (some ⟨go7, 0, none⟩) y328.length co7) x5_7) ∧ Aside0 (Below w.heap.size w wc))
        case first =>
          have H := HC8.out
          clear HC8
          have H' := Aside0.mk H
          clear H
          go_wp2
          repeat (go_quiet (fail); try go_wp2)
          go_loopg [6] k (fun kq v6 w' => ∃ (x5_1 : List Bool) (x6_1 : Int), v6 = .int .i64 x6_1 ∧ Aside0 (signetref18_matches.l0 kq a0 a1 x5_1 x6_1 = some r) ∧ Aside0 (kq ≤ k) ∧ Aside0 (Kd.R Kd.bool 4 w' w.heap.size (fun _ => True) (.slice (some ⟨go7, 0, none⟩) y328.length co7) x5_1) ∧ Aside0 (Below w.heap.size w w'))
          case atStart => exact ⟨(y331), (0), (by first | rfl | (simp; done) | (simp [*]; done)), H', ⟨Nat.le_refl _⟩, ⟨by (with_reducible repeat (first | apply Kd.R_alloc | apply Kd.R_drewN | apply Kd.R_drew)); exact HO330.out⟩, ⟨by repeat (first | (with_reducible first | exact HB.out | apply below_alloc | apply pw_below_drewN | apply below_drew1) | exact HB.out)⟩⟩
          case round =>
            clear H'
            try clear p2
            try clear c4
            try clear c4b0
            try clear c4b1
            try clear c5
            try clear c5b0
            try clear c5b1
            try clear c6
            try clear c6b0
            try clear c6b1
            try clear p6
            try clear p7
            try clear q7
            try clear hx7
            try clear qi7
            try clear hf7
            try clear hx7_0
            try clear p7
            try clear q7
            obtain ⟨x5_1, x6_1, rfl, HA, HK1, HO_5, HB⟩ := hrel
            have hl5_1 := (Kd.R_reads' HO_5.out).1
            rw [hl5_1] at HO_5
            (try simp only [hl5_1])
            cases gk with
            | zero => exact absurd HA.out (by simp [signetref18_matches.l0])
            | succ k1 =>
              have H := HA.out
              clear HA
              simp only [signetref18_matches.l0] at H
              by_cases c13 : x6_1 < (a0.size : Int)
              · rw [if_pos c13] at H
                have c13b0 : decide (x6_1 < (a0.size : Int)) = true := decide_eq_true c13
                clear c13
                (first | rw [c13b0] | (simp only [i64_w, i32_w]; rw [c13b0]) | skip)
                by_cases c14 : 0 ≤ x6_1
                · rw [if_pos c14] at H
                  have c14b0 : decide (0 ≤ x6_1) = true := decide_eq_true c14
                  clear c14
                  by_cases c16 : (bt a0 x6_1) = 42
                  · rw [if_pos c16] at H
                    have c16b0 : ((bt a0 x6_1) == 42) = true := beq_iff_eq.mpr c16
                    have c16b1 : ((bt a0 x6_1) != 42) = false := bne_eq_false_iff_eq.mpr c16
                    clear c16
                    obtain ⟨ji17, hji17⟩ : ∃ j_ : Int, (wrap64 (x6_1 + 1)) = j_ := ⟨_, rfl⟩
                    replace H : (if 0 ≤ (ji17) then (if (ji17) < (x5_1.length : Int) then (signetref18_matches.l0 k1 a0 a1 (x5_1.set ((ji17) : Int).toNat true) ji17) else (none)) else (none)) = some r := by first | (rw [hji17] at H; exact H) | (simp only [hji17] at H ⊢; exact H)
                    have hji17w : (IntKind.i64.wrap (x6_1 + 1)) = ji17 := (i64_w _).trans hji17
                    by_cases c18 : 0 ≤ (ji17)
                    · rw [if_pos c18] at H
                      have c18b0 : decide (0 ≤ (ji17)) = true := decide_eq_true c18
                      clear c18
                      by_cases c19 : (ji17) < (x5_1.length : Int)
                      · rw [if_pos c19] at H
                        have c19b0 : decide ((ji17) < (x5_1.length : Int)) = true := decide_eq_true c19
                        clear c19
                        obtain ⟨y332, hy332⟩ : ∃ y_ : List Bool, y_ = (x5_1.set ((ji17) : Int).toNat true) := ⟨_, rfl⟩
                        replace H : (signetref18_matches.l0 k1 a0 a1 y332 ji17) = some r := by first | (rw [hy332]; with_reducible exact H) | (have H2_ := (Option.bind_some _ _).symm.trans H; rw [hy332]; with_reducible exact H2_) | (have H2_ := (Option.bind_some _ _).symm.trans H; with_reducible exact H2_) | with_reducible exact H | (rw [hy332]; exact H) | exact H
                        have Ny332 := Aside0.mk hy332
                        clear hy332
                        have H' := Aside0.mk H
                        clear H
                        have p15 : 0 ≤ (x6_1 : Int) := of_decide_eq_true (by first | (with_reducible assumption) | assumption)
                        have q15 : x6_1 < (a0.size : Int) := of_decide_eq_true (by first | (with_reducible assumption) | assumption)
                        have hx15 := bt_at a0 x6_1
                        replace p15 := eq_true p15
                        replace q15 := eq_true q15
                        have p20 : 0 ≤ ((ji17) : Int) := of_decide_eq_true (by first | (with_reducible assumption) | assumption)
                        have q20 : ((ji17) : Int) < ((x5_1.length : Int) : Int) := of_decide_eq_true (by first | (with_reducible assumption) | assumption)
                        obtain ⟨hx20_0, hf20_0⟩ := Kd.R_celln false HO_5.out ((ji17) : Int) p20 q20
                        replace p20 := eq_true p20
                        replace q20 := eq_true q20
                        have HP21 := Kd.R_putg HO_5.out ((ji17) : Int) true
                        go_wp2_with (first | ((with_reducible refine gate_store (t := 4) (p := 32) rfl ?_); (try (rw [drewN_self wr]; generalize hq_ : World.drewN wr _ = wr; have n0_ := Aside0.mk (Kd.R_at hq_ HO_5.out); have n1_ := Aside0.mk (below_at hq_ HB.out); clear hq_ HO_5 HB; have HO_5 := n0_; have HB := n1_; clear n0_ n1_; (try (have HP21 := Kd.R_putg HO_5.out ((ji17) : Int) true)))); refine store_event (t := 4) (p := 32) (v := ?vo_w22) (w1 := (wr.setCell ⟨go7, ((ji17) : Int).toNat, none⟩ (.bool true))) ?hg ?ho ?hn ?hr ?_; (case ho => rfl); (case hg => rfl); (case hn => rfl); (case hr => first | (go_simp; done) | (go_simp; rfl)); intro w22 hw; have hg : wr.grownBy w22 (some go7) := (by rw [hw]; exact HP21.2); have hp_ : Kd.R Kd.bool 4 w22 w.heap.size (fun _ => True) (.slice (some ⟨go7, 0, none⟩) x5_1.length co7) y332 := (by rw [hw, Ny332.out]; exact HP21.1); clear HP21; have n0_ := Aside0.mk (hp_); have n1_ := Aside0.mk ((by rw [hw]; exact below_set (HB.out) GB7.out : Below w.heap.size w w22)); clear HO_5; clear HB; have HO_5 := n0_; have HB := n1_; clear n0_ n1_; clear hg hw hp_))
                        repeat (go_quiet (first | ((with_reducible refine gate_store (t := 4) (p := 32) rfl ?_); (try (rw [drewN_self wr]; generalize hq_ : World.drewN wr _ = wr; have n0_ := Aside0.mk (Kd.R_at hq_ HO_5.out); have n1_ := Aside0.mk (below_at hq_ HB.out); clear hq_ HO_5 HB; have HO_5 := n0_; have HB := n1_; clear n0_ n1_; (try (have HP21 := Kd.R_putg HO_5.out ((ji17) : Int) true)))); refine store_event (t := 4) (p := 32) (v := ?vo_w22) (w1 := (wr.setCell ⟨go7, ((ji17) : Int).toNat, none⟩ (.bool true))) ?hg ?ho ?hn ?hr ?_; (case ho => rfl); (case hg => rfl); (case hn => rfl); (case hr => first | (go_simp; done) | (go_simp; rfl)); intro w22 hw; have hg : wr.grownBy w22 (some go7) := (by rw [hw]; exact HP21.2); have hp_ : Kd.R Kd.bool 4 w22 w.heap.size (fun _ => True) (.slice (some ⟨go7, 0, none⟩) x5_1.length co7) y332 := (by rw [hw, Ny332.out]; exact HP21.1); clear HP21; have n0_ := Aside0.mk (hp_); have n1_ := Aside0.mk ((by rw [hw]; exact below_set (HB.out) GB7.out : Below w.heap.size w w22)); clear HO_5; clear HB; have HO_5 := n0_; have HB := n1_; clear n0_ n1_; clear hg hw hp_)); try go_wp2_with (first | ((with_reducible refine gate_store (t := 4) (p := 32) rfl ?_); (try (rw [drewN_self wr]; generalize hq_ : World.drewN wr _ = wr; have n0_ := Aside0.mk (Kd.R_at hq_ HO_5.out); have n1_ := Aside0.mk (below_at hq_ HB.out); clear hq_ HO_5 HB; have HO_5 := n0_; have HB := n1_; clear n0_ n1_; (try (have HP21 := Kd.R_putg HO_5.out ((ji17) : Int) true)))); refine store_event (t := 4) (p := 32) (v := ?vo_w22) (w1 := (wr.setCell ⟨go7, ((ji17) : Int).toNat, none⟩ (.bool true))) ?hg ?ho ?hn ?hr ?_; (case ho => rfl); (case hg => rfl); (case hn => rfl); (case hr => first | (go_simp; done) | (go_simp; rfl)); intro w22 hw; have hg : wr.grownBy w22 (some go7) := (by rw [hw]; exact HP21.2); have hp_ : Kd.R Kd.bool 4 w22 w.heap.size (fun _ => True) (.slice (some ⟨go7, 0, none⟩) x5_1.length co7) y332 := (by rw [hw, Ny332.out]; exact HP21.1); clear HP21; have n0_ := Aside0.mk (hp_); have n1_ := Aside0.mk ((by rw [hw]; exact below_set (HB.out) GB7.out : Below w.heap.size w w22)); clear HO_5; clear HB; have HO_5 := n0_; have HB := n1_; clear n0_ n1_; clear hg hw hp_)))
                        (try simp only [← hl5_1])
                        go_roundg k1
                        case measure => have := HK1.out; omega
                        case rel => exact ⟨(y332), (ji17), (by first | rfl | (simp; done) | (simp only [← hji17] <;> (first | rfl | simp)) | (simp [*]; done)), H', ⟨by have := HK1.out; omega⟩, ⟨by (try simp only [hl5_1]); (with_reducible repeat (first | apply Kd.R_alloc | apply Kd.R_drewN | apply Kd.R_drew)); exact HO_5.out⟩, ⟨by repeat (first | (with_reducible first | exact HB.out | apply below_alloc | apply pw_below_drewN | apply below_drew1) | exact HB.out)⟩⟩
                      · rw [if_neg c19] at H
                        exact absurd H (by simp)
                    · rw [if_neg c18] at H
                      exact absurd H (by simp)
                  · rw [if_neg c16] at H
                    have c16b0 : ((bt a0 x6_1) == 42) = false := beq_eq_false_iff_ne.mpr c16
                    have c16b1 : ((bt a0 x6_1) != 42) = true := bne_iff_ne.mpr c16
                    have H' := Aside0.mk H
                    clear H
                    have p15 : 0 ≤ (x6_1 : Int) := of_decide_eq_true (by first | (with_reducible assumption) | assumption)
                    have q15 : x6_1 < (a0.size : Int) := of_decide_eq_true (by first | (with_reducible assumption) | assumption)
                    have hx15 := bt_at a0 x6_1
                    replace p15 := eq_true p15
                    replace q15 := eq_true q15
                    go_wp2
                    repeat (go_quiet (fail); try go_wp2)
                    (try simp only [← hl5_1])
                    go_meet
                    case rel => exact ⟨_, (x5_1), H', ⟨by have := HK1.out; first | omega | exact Nat.le_refl _⟩, ⟨by (try simp only [hl5_1]); (with_reducible repeat (first | apply Kd.R_alloc | apply Kd.R_drewN | apply Kd.R_drew)); exact HO_5.out⟩, ⟨by repeat (first | (with_reducible first | exact HB.out | apply below_alloc | apply pw_below_drewN | apply below_drew1) | exact HB.out)⟩⟩
                · rw [if_neg c14] at H
                  exact absurd H (by simp)
              · rw [if_neg c13] at H
                have c13b0 : decide (x6_1 < (a0.size : Int)) = false := decide_eq_false c13
                clear c13
                (first | rw [c13b0] | (simp only [i64_w, i32_w]; rw [c13b0]) | skip)
                have H' := Aside0.mk H
                clear H
                go_wp2
                repeat (go_quiet (fail); try go_wp2)
                (try simp only [← hl5_1])
                go_meet
                case rel => exact ⟨_, (x5_1), H', ⟨by have := HK1.out; first | omega | exact Nat.le_refl _⟩, ⟨by (try simp only [hl5_1]); (with_reducible repeat (first | apply Kd.R_alloc | apply Kd.R_drewN | apply Kd.R_drew)); exact HO_5.out⟩, ⟨by repeat (first | (with_reducible first | exact HB.out | apply below_alloc | apply pw_below_drewN | apply below_drew1) | exact HB.out)⟩⟩
        case rest =>
          clear HC8
          try clear c1
          try clear p1
          try clear q1
          try clear hx1
          try clear p2
          try clear q2
          try clear hx2
          try clear hf2
          try clear c4
          try clear c4b0
          try clear c4b1
          try clear c5
          try clear c5b0
          try clear c5b1
          try clear c6
          try clear c6b0
          try clear c6b1
          try clear p6
          try clear p7
          try clear q7
          try clear hx7
          try clear qi7
          try clear hf7
          try clear c13
          try clear c13b0
          try clear c14
          try clear c14b0
          try clear p15
          try clear q15
          try clear hx15
          try clear c16
          try clear c16b0
          try clear c16b1
          try clear c18
          try clear c18b0
          try clear c19
          try clear c19b0
          try clear p20
          try clear q20
          try clear hx20
          try clear hf20
          try clear hx20_0
          try clear hx7_0
          try clear p15
          try clear p2
          try clear p20
          try clear p6
          try clear p7
          try clear q15
          try clear q20
          try clear q7
          obtain ⟨kq, x5_7, HA, HJ7, HO_5, HB⟩ := hcut
          have hl5_7 := (Kd.R_reads' HO_5.out).1
          rw [hl5_7] at HO_5
          (try simp only [hl5_7])
          cases kq with
          | zero => exact absurd HA.out (by simp [signetref18_matches.j1])
          | succ kj7 =>
            have H := HA.out
            clear HA
            simp only [signetref18_matches.j1] at H
            have H' := Aside0.mk H
            clear H
            go_wp2
            repeat (go_quiet (fail); try go_wp2)
            go_loopg [5, 7] kj7 (fun kq v5 v7 w' => ∃ (x5_2 : List Bool) (x7_2 : Int), v7 = .int .i64 x7_2 ∧ Aside0 (signetref18_matches.l1 kq a0 a1 x5_2 x7_2 = some r) ∧ Aside0 (kq ≤ kj7) ∧ Aside0 (Kd.R Kd.bool 4 w' w.heap.size (fun _ => True) v5 x5_2) ∧ Aside0 (Below w.heap.size w w'))
            case atStart => exact ⟨(x5_7), (0), (by first | rfl | (simp; done) | (simp [*]; done)), H', ⟨Nat.le_refl _⟩, ⟨by (try simp only [hl5_7]); (with_reducible repeat (first | apply Kd.R_alloc | apply Kd.R_drewN | apply Kd.R_drew)); exact HO_5.out⟩, ⟨by repeat (first | (with_reducible first | exact HB.out | apply below_alloc | apply pw_below_drewN | apply below_drew1) | exact HB.out)⟩⟩
            case round =>
              clear H'
              try clear c1
              try clear p1
              try clear q1
              try clear hx1
              try clear p2
              try clear q2
              try clear hx2
              try clear hf2
              try clear c4
              try clear c4b0
              try clear c4b1
              try clear c5
              try clear c5b0
              try clear c5b1
              try clear c6
              try clear c6b0
              try clear c6b1
              try clear p6
              try clear p7
              try clear q7
              try clear hx7
              try clear qi7
              try clear hf7
              try clear c13
              try clear c13b0
              try clear c14
              try clear c14b0
              try clear p15
              try clear q15
              try clear hx15
              try clear c16
              try clear c16b0
              try clear c16b1
              try clear c18
              try clear c18b0
              try clear c19
              try clear c19b0
              try clear p20
              try clear q20
              try clear hx20
              try clear hf20
              try clear hx20_0
              try clear hx7_0
              try clear p1
              try clear p15
              try clear p2
              try clear p20
              try clear p6
              try clear p7
              try clear q1
              try clear q15
              try clear q2
              try clear q20
              try clear q7
              obtain ⟨x5_2, x7_2, rfl, HA, HK2, HO_5, HB⟩ := hrel
              cases gk with
              | zero => exact absurd HA.out (by simp [signetref18_matches.l1])
              | succ k2 =>
                have H := HA.out
                clear HA
                simp only [signetref18_matches.l1] at H
                by_cases c23 : x7_2 < (a1.size : Int)
                · rw [if_pos c23] at H
                  have c23b0 : decide (x7_2 < (a1.size : Int)) = true := decide_eq_true c23
                  clear c23
                  obtain ⟨ji24, hji24⟩ : ∃ j_ : Int, (wrap64 ((a0.size : Int) + 1)) = j_ := ⟨_, rfl⟩
                  replace H : (if 0 ≤ (ji24) then (if (ji24 : Int).toNat ≤ 281474976710656 then (signetref18_matches.l2 k2 a0 a1 x5_2 x7_2 (List.replicate (ji24 : Int).toNat false) 0) else (none)) else (none)) = some r := by first | (rw [hji24] at H; exact H) | (simp only [hji24] at H ⊢; exact H)
                  have hji24w : (IntKind.i64.wrap ((a0.size : Int) + 1)) = ji24 := (i64_w _).trans hji24
                  have hz24 : ji3 = ji24 := hji3.symm.trans hji24
                  subst hz24
                  by_cases c25 : 0 ≤ (ji3)
                  · rw [if_pos c25] at H
                    have c25b0 := eq_true c25
                    have c25b1 : decide (0 ≤ (ji3)) = true := decide_eq_true c25
                    clear c25
                    by_cases c26 : (ji3 : Int).toNat ≤ 281474976710656
                    · rw [if_pos c26] at H
                      have c26b0 := eq_true c26
                      have c26b1 : decide ((ji3 : Int).toNat ≤ 281474976710656) = true := decide_eq_true c26
                      clear c26
                      obtain ⟨y334, hy334⟩ : ∃ y_ : List Bool, y_ = (List.replicate (ji3 : Int).toNat false) := ⟨_, rfl⟩
                      replace H : (signetref18_matches.l2 k2 a0 a1 x5_2 x7_2 y334 0) = some r := by first | (rw [hy334]; with_reducible exact H) | (have H2_ := (Option.bind_some _ _).symm.trans H; rw [hy334]; with_reducible exact H2_) | (have H2_ := (Option.bind_some _ _).symm.trans H; with_reducible exact H2_) | with_reducible exact H | (rw [hy334]; exact H) | exact H
                      have Ny334 := Aside0.mk hy334
                      clear hy334
                      have H' := Aside0.mk H
                      clear H
                      go_wp2_with (first | ((with_reducible refine gate_dst (N := 42) rfl ?_); refine Kd.R_make Kd.bool _ 4 rfl (N := 42) rfl 88 _ _ rfl ji3 rfl rfl Tryd.underlying88 (.bool false) 1 info4 rfl (by decide) (by omega) false (ok := fun _ => True) (okp := fun _ => True) rfl (fun _ hk => hk) trivial (of_decide_eq_true (by first | (with_reducible assumption) | assumption)) (Nat.le_trans (Nat.mul_le_mul_right _ (of_decide_eq_true (by first | (with_reducible assumption) | assumption) : ji3.toNat ≤ 281474976710656)) (by omega)) (Below.refl _ _) (Nat.le_refl _) ?_; intro v335 w27 ho28 hb hg_ hnew_; clear hg_ hnew_; (first | rw [← Ny334.out] at ho28 | (simp only [Int.reduceToNat] at ho28; rw [← Ny334.out] at ho28)); have n0_ := Aside0.mk (Kd.R_elder' (by (with_reducible repeat (first | apply Kd.R_alloc | apply Kd.R_drewN | apply Kd.R_drew)); exact HO_5.out) (Kd.R_base ho28) hb); have n1_ := Aside0.mk (Kd.R_lower (Kd.R_new' ho28 (Kd.R_lt (by (with_reducible repeat (first | apply Kd.R_alloc | apply Kd.R_drewN | apply Kd.R_drew)); exact HO_5.out))) (below_size (by repeat (first | (with_reducible first | exact HB.out | apply below_alloc | apply pw_below_drewN | apply below_drew1) | exact HB.out)))); have n2_ := Aside0.mk (below_step (by repeat (first | (with_reducible first | exact HB.out | apply below_alloc | apply pw_below_drewN | apply below_drew1) | exact HB.out)) hb); clear HO_5; clear HB; have HO_5 := n0_; have HO336 := n1_; have HB := n2_; clear n0_ n1_ n2_; clear hb ho28))
                      repeat (go_quiet (first | ((with_reducible refine gate_dst (N := 42) rfl ?_); refine Kd.R_make Kd.bool _ 4 rfl (N := 42) rfl 88 _ _ rfl ji3 rfl rfl Tryd.underlying88 (.bool false) 1 info4 rfl (by decide) (by omega) false (ok := fun _ => True) (okp := fun _ => True) rfl (fun _ hk => hk) trivial (of_decide_eq_true (by first | (with_reducible assumption) | assumption)) (Nat.le_trans (Nat.mul_le_mul_right _ (of_decide_eq_true (by first | (with_reducible assumption) | assumption) : ji3.toNat ≤ 281474976710656)) (by omega)) (Below.refl _ _) (Nat.le_refl _) ?_; intro v335 w27 ho28 hb hg_ hnew_; clear hg_ hnew_; (first | rw [← Ny334.out] at ho28 | (simp only [Int.reduceToNat] at ho28; rw [← Ny334.out] at ho28)); have n0_ := Aside0.mk (Kd.R_elder' (by (with_reducible repeat (first | apply Kd.R_alloc | apply Kd.R_drewN | apply Kd.R_drew)); exact HO_5.out) (Kd.R_base ho28) hb); have n1_ := Aside0.mk (Kd.R_lower (Kd.R_new' ho28 (Kd.R_lt (by (with_reducible repeat (first | apply Kd.R_alloc | apply Kd.R_drewN | apply Kd.R_drew)); exact HO_5.out))) (below_size (by repeat (first | (with_reducible first | exact HB.out | apply below_alloc | apply pw_below_drewN | apply below_drew1) | exact HB.out)))); have n2_ := Aside0.mk (below_step (by repeat (first | (with_reducible first | exact HB.out | apply below_alloc | apply pw_below_drewN | apply below_drew1) | exact HB.out)) hb); clear HO_5; clear HB; have HO_5 := n0_; have HO336 := n1_; have HB := n2_; clear n0_ n1_ n2_; clear hb ho28)); try go_wp2_with (first | ((with_reducible refine gate_dst (N := 42) rfl ?_); refine Kd.R_make Kd.bool _ 4 rfl (N := 42) rfl 88 _ _ rfl ji3 rfl rfl Tryd.underlying88 (.bool false) 1 info4 rfl (by decide) (by omega) false (ok := fun _ => True) (okp := fun _ => True) rfl (fun _ hk => hk) trivial (of_decide_eq_true (by first | (with_reducible assumption) | assumption)) (Nat.le_trans (Nat.mul_le_mul_right _ (of_decide_eq_true (by first | (with_reducible assumption) | assumption) : ji3.toNat ≤ 281474976710656)) (by omega)) (Below.refl _ _) (Nat.le_refl _) ?_; intro v335 w27 ho28 hb hg_ hnew_; clear hg_ hnew_; (first | rw [← Ny334.out] at ho28 | (simp only [Int.reduceToNat] at ho28; rw [← Ny334.out] at ho28)); have n0_ := Aside0.mk (Kd.R_elder' (by (with_reducible repeat (first | apply Kd.R_alloc | apply Kd.R_drewN | apply Kd.R_drew)); exact HO_5.out) (Kd.R_base ho28) hb); have n1_ := Aside0.mk (Kd.R_lower (Kd.R_new' ho28 (Kd.R_lt (by (with_reducible repeat (first | apply Kd.R_alloc | apply Kd.R_drewN | apply Kd.R_drew)); exact HO_5.out))) (below_size (by repeat (first | (with_reducible first | exact HB.out | apply below_alloc | apply pw_below_drewN | apply below_drew1) | exact HB.out)))); have n2_ := Aside0.mk (below_step (by repeat (first | (with_reducible first | exact HB.out | apply below_alloc | apply pw_below_drewN | apply below_drew1) | exact HB.out)) hb); clear HO_5; clear HB; have HO_5 := n0_; have HO336 := n1_; have HB := n2_; clear n0_ n1_ n2_; clear hb ho28)))
                      go_loopg [9] k2 (fun kq v9 w' => ∃ (x8_3 : List Bool) (x9_3 : Int), v9 = .int .i64 x9_3 ∧ Aside0 (signetref18_matches.l2 kq a0 a1 x5_2 x7_2 x8_3 x9_3 = some r) ∧ Aside0 (kq ≤ k2) ∧ Aside0 (Kd.R Kd.bool 4 w' w.heap.size (fun k_ => some k_ ≠ (v335 : Value).ownBlock) u5 x5_2) ∧ Aside0 (Kd.R Kd.bool 4 w' w.heap.size (fun k_ => some k_ ≠ (u5 : Value).ownBlock) v335 x8_3) ∧ Aside0 (Below w.heap.size w w'))
                      case atStart => exact ⟨(y334), (0), (by first | rfl | (simp; done) | (simp [*]; done)), H', ⟨Nat.le_refl _⟩, ⟨by (try simp only [hl5_7]); (with_reducible repeat (first | apply Kd.R_alloc | apply Kd.R_drewN | apply Kd.R_drew)); exact Kd.R_mono HO_5.out (fun _ hk => hk.2)⟩, ⟨by (try simp only [hl5_7]); (with_reducible repeat (first | apply Kd.R_alloc | apply Kd.R_drewN | apply Kd.R_drew)); exact Kd.R_mono HO336.out (fun _ hk => hk.2)⟩, ⟨by repeat (first | (with_reducible first | exact HB.out | apply below_alloc | apply pw_below_drewN | apply below_drew1) | exact HB.out)⟩⟩
                      case round =>
                        clear H'
                        try clear c1
                        try clear p1
                        try clear q1
                        try clear hx1
                        try clear c2
                        try clear p2
                        try clear q2
                        try clear hx2
                        try clear hf2
                        try clear c4
                        try clear c4b0
                        try clear c4b1
                        try clear c5
                        try clear c5b0
                        try clear c5b1
                        try clear c6
                        try clear c6b0
                        try clear c6b1
                        try clear p6
                        try clear p7
                        try clear q7
                        try clear hx7
                        try clear qi7
                        try clear hf7
                        try clear c13
                        try clear c13b0
                        try clear c14
                        try clear c14b0
                        try clear p15
                        try clear q15
                        try clear hx15
                        try clear c16
                        try clear c16b0
                        try clear c16b1
                        try clear c18
                        try clear c18b0
                        try clear c19
                        try clear c19b0
                        try clear p20
                        try clear q20
                        try clear hx20
                        try clear hf20
                        try clear c23
                        try clear c23b0
                        try clear c25
                        try clear c25b0
                        try clear c25b1
                        try clear c26
                        try clear c26b0
                        try clear c26b1
                        try clear hx20_0
                        try clear hx7_0
                        try clear p1
                        try clear p15
                        try clear p2
                        try clear p20
                        try clear p6
                        try clear p7
                        try clear q1
                        try clear q15
                        try clear q2
                        try clear q20
                        try clear q7
                        obtain ⟨x8_3, x9_3, rfl, HA, HK3, HO_5, HO_8, HB⟩ := hrel
                        cases gk with
                        | zero => exact absurd HA.out (by simp [signetref18_matches.l2])
                        | succ k3 =>
                          have H := HA.out
                          clear HA
                          simp only [signetref18_matches.l2] at H
                          by_cases c29 : x9_3 < (a0.size : Int)
                          · rw [if_pos c29] at H
                            have c29b0 : decide (x9_3 < (a0.size : Int)) = true := decide_eq_true c29
                            clear c29
                            have HC30 := Aside0.mk H
                            clear H
                            go_upto_region 14 with (fail)
                            repeat (go_quiet (fail); go_upto_region 14 with (fail))
                            go_cut [73] (fun v73 wc => ∃ (kq : Nat) (x73_29 : Bool), v73 = .bool x73_29 ∧ Aside0 (signetref18_matches.j4 kq a0 a1 x5_2 x7_2 x8_3 x9_3 x73_29 = some r) ∧ Aside0 (kq ≤ k3) ∧ Aside0 (Kd.R Kd.bool 4 wc w.heap.size (fun k_ => some k_ ≠ (v335 : Value).ownBlock) u5 x5_2) ∧ Aside0 (Kd.R Kd.bool 4 wc w.heap.size (fun k_ => some k_ ≠ (u5 : Value).ownBlock) v335 x8_3) ∧ Aside0 (Below w.heap.size w wc))
                            case first =>
                              have H := HC30.out
                              clear HC30
                              by_cases c31 : 0 ≤ x9_3
                              · rw [if_pos c31] at H
                                have c31b0 : decide (0 ≤ x9_3) = true := decide_eq_true c31
                                clear c31
                                (first | rw [c31b0] | (simp only [i64_w, i32_w]; rw [c31b0]) | skip)
                                by_cases c32 : x9_3 < (x5_2.length : Int)
                                · rw [if_pos c32] at H
                                  have c32b0 : decide (x9_3 < (x5_2.length : Int)) = true := decide_eq_true c32
                                  clear c32
                                  obtain ⟨bq33, hbq33⟩ : ∃ b_ : Bool, b_ = (rdOf false x5_2 x9_3) := ⟨_, rfl⟩
                                  replace H : (if bq33 = true then (if (bt a0 x9_3) = 63 then (signetref18_matches.j4 k3 a0 a1 x5_2 x7_2 x8_3 x9_3 true) else (if 0 ≤ x7_2 then (if x7_2 < (a1.size : Int) then (if (bt a0 x9_3) = (bt a1 x7_2) then (signetref18_matches.j4 k3 a0 a1 x5_2 x7_2 x8_3 x9_3 ((bt a0 x9_3) != 42)) else (signetref18_matches.j4 k3 a0 a1 x5_2 x7_2 x8_3 x9_3 false)) else (none)) else (none))) else (signetref18_matches.j4 k3 a0 a1 x5_2 x7_2 x8_3 x9_3 false)) = some r := by rw [← hbq33] at H; exact H
                                  have Nbq33 := Aside0.mk hbq33
                                  clear hbq33
                                  by_cases c34 : bq33 = true
                                  · subst c34
                                    have H1 : (if (bt a0 x9_3) = 63 then (signetref18_matches.j4 k3 a0 a1 x5_2 x7_2 x8_3 x9_3 true) else (if 0 ≤ x7_2 then (if x7_2 < (a1.size : Int) then (if (bt a0 x9_3) = (bt a1 x7_2) then (signetref18_matches.j4 k3 a0 a1 x5_2 x7_2 x8_3 x9_3 ((bt a0 x9_3) != 42)) else (signetref18_matches.j4 k3 a0 a1 x5_2 x7_2 x8_3 x9_3 false)) else (none)) else (none))) = some r := by rw [if_pos rfl] at H; exact H
                                    clear H
                                    have H := H1
                                    clear H1
                                    by_cases c36 : (bt a0 x9_3) = 63
                                    · rw [if_pos c36] at H
                                      have c36b0 : ((bt a0 x9_3) == 63) = true := beq_iff_eq.mpr c36
                                      have c36b1 : ((bt a0 x9_3) != 63) = false := bne_eq_false_iff_eq.mpr c36
                                      clear c36
                                      have H' := Aside0.mk H
                                      clear H
                                      obtain ⟨Ao37, co37, eo37⟩ := Kd.R_slice HO_5.out
                                      subst eo37
                                      have p337 : 0 ≤ (x9_3 : Int) := of_decide_eq_true (by first | (with_reducible assumption) | assumption)
                                      have q337 : x9_3 < (x5_2.length : Int) := of_decide_eq_true (by first | (with_reducible assumption) | assumption)
                                      obtain ⟨ad337, e337, hx337_0⟩ := Kd.at_bool (Kd.R_reads' HO_5.out).2.2 x9_3 p337 q337
                                      (try rw [← Nbq33.out] at hx337_0)
                                      cases e337
                                      replace p337 := eq_true p337
                                      replace q337 := eq_true q337
                                      have p35 : 0 ≤ (x9_3 : Int) := of_decide_eq_true (by first | (with_reducible assumption) | assumption)
                                      have q35 : x9_3 < (a0.size : Int) := of_decide_eq_true (by first | (with_reducible assumption) | assumption)
                                      have hx35 := bt_at a0 x9_3
                                      replace p35 := eq_true p35
                                      replace q35 := eq_true q35
                                      go_wp2
                                      repeat (go_quiet (fail); try go_wp2)
                                      go_meet
                                      case rel => exact ⟨_, (true), (by first | rfl | (simp; done) | (simp [*]; done)), H', ⟨by have := HJ7.out; have := HK2.out; have := HK3.out; first | omega | exact Nat.le_refl _⟩, ⟨by (try simp only [hl5_7]); (with_reducible repeat (first | apply Kd.R_alloc | apply Kd.R_drewN | apply Kd.R_drew)); exact HO_5.out⟩, ⟨by (try simp only [hl5_7]); (with_reducible repeat (first | apply Kd.R_alloc | apply Kd.R_drewN | apply Kd.R_drew)); exact HO_8.out⟩, ⟨by repeat (first | (with_reducible first | exact HB.out | apply below_alloc | apply pw_below_drewN | apply below_drew1) | exact HB.out)⟩⟩
                                    · rw [if_neg c36] at H
                                      have c36b0 : ((bt a0 x9_3) == 63) = false := beq_eq_false_iff_ne.mpr c36
                                      have c36b1 : ((bt a0 x9_3) != 63) = true := bne_iff_ne.mpr c36
                                      by_cases c39 : 0 ≤ x7_2
                                      · rw [if_pos c39] at H
                                        have c39b0 : decide (0 ≤ x7_2) = true := decide_eq_true c39
                                        clear c39
                                        by_cases c40 : x7_2 < (a1.size : Int)
                                        · rw [if_pos c40] at H
                                          have c40b0 : decide (x7_2 < (a1.size : Int)) = true := decide_eq_true c40
                                          clear c40
                                          by_cases c42 : (bt a0 x9_3) = (bt a1 x7_2)
                                          · rw [if_pos c42] at H
                                            have c42b0 : ((bt a0 x9_3) == (bt a1 x7_2)) = true := beq_iff_eq.mpr c42
                                            have c42b1 : ((bt a0 x9_3) != (bt a1 x7_2)) = false := bne_eq_false_iff_eq.mpr c42
                                            clear c42
                                            have H' := Aside0.mk H
                                            clear H
                                            obtain ⟨Ao44, co44, eo44⟩ := Kd.R_slice HO_5.out
                                            subst eo44
                                            have p337 : 0 ≤ (x9_3 : Int) := of_decide_eq_true (by first | (with_reducible assumption) | assumption)
                                            have q337 : x9_3 < (x5_2.length : Int) := of_decide_eq_true (by first | (with_reducible assumption) | assumption)
                                            obtain ⟨ad337, e337, hx337_0⟩ := Kd.at_bool (Kd.R_reads' HO_5.out).2.2 x9_3 p337 q337
                                            (try rw [← Nbq33.out] at hx337_0)
                                            cases e337
                                            replace p337 := eq_true p337
                                            replace q337 := eq_true q337
                                            have p35 : 0 ≤ (x9_3 : Int) := of_decide_eq_true (by first | (with_reducible assumption) | assumption)
                                            have q35 : x9_3 < (a0.size : Int) := of_decide_eq_true (by first | (with_reducible assumption) | assumption)
                                            have hx35 := bt_at a0 x9_3
                                            replace p35 := eq_true p35
                                            replace q35 := eq_true q35
                                            have p38 : 0 ≤ (x9_3 : Int) := of_decide_eq_true (by first | (with_reducible assumption) | assumption)
                                            have q38 : x9_3 < (a0.size : Int) := of_decide_eq_true (by first | (with_reducible assumption) | assumption)
                                            have hx38 := bt_at a0 x9_3
                                            replace p38 := eq_true p38
                                            replace q38 := eq_true q38
                                            have p41 : 0 ≤ (x7_2 : Int) := of_decide_eq_true (by first | (with_reducible assumption) | assumption)
                                            have q41 : x7_2 < (a1.size : Int) := of_decide_eq_true (by first | (with_reducible assumption) | assumption)
                                            have hx41 := bt_at a1 x7_2
                                            replace p41 := eq_true p41
                                            replace q41 := eq_true q41
                                            have p43 : 0 ≤ (x9_3 : Int) := of_decide_eq_true (by first | (with_reducible assumption) | assumption)
                                            have q43 : x9_3 < (a0.size : Int) := of_decide_eq_true (by first | (with_reducible assumption) | assumption)
                                            have hx43 := bt_at a0 x9_3
                                            replace p43 := eq_true p43
                                            replace q43 := eq_true q43
                                            go_wp2
                                            repeat (go_quiet (fail); try go_wp2)
                                            go_meet
                                            case rel => exact ⟨_, (((bt a0 x9_3) != 42)), (by first | rfl | (simp; done) | (simp [*]; done)), H', ⟨by have := HJ7.out; have := HK2.out; have := HK3.out; first | omega | exact Nat.le_refl _⟩, ⟨by (try simp only [hl5_7]); (with_reducible repeat (first | apply Kd.R_alloc | apply Kd.R_drewN | apply Kd.R_drew)); exact HO_5.out⟩, ⟨by (try simp only [hl5_7]); (with_reducible repeat (first | apply Kd.R_alloc | apply Kd.R_drewN | apply Kd.R_drew)); exact HO_8.out⟩, ⟨by repeat (first | (with_reducible first | exact HB.out | apply below_alloc | apply pw_below_drewN | apply below_drew1) | exact HB.out)⟩⟩
                                          · rw [if_neg c42] at H
                                            have c42b0 : ((bt a0 x9_3) == (bt a1 x7_2)) = false := beq_eq_false_iff_ne.mpr c42
                                            have c42b1 : ((bt a0 x9_3) != (bt a1 x7_2)) = true := bne_iff_ne.mpr c42
                                            have H' := Aside0.mk H
                                            clear H
                                            obtain ⟨Ao45, co45, eo45⟩ := Kd.R_slice HO_5.out
                                            subst eo45
                                            have p337 : 0 ≤ (x9_3 : Int) := of_decide_eq_true (by first | (with_reducible assumption) | assumption)
                                            have q337 : x9_3 < (x5_2.length : Int) := of_decide_eq_true (by first | (with_reducible assumption) | assumption)
                                            obtain ⟨ad337, e337, hx337_0⟩ := Kd.at_bool (Kd.R_reads' HO_5.out).2.2 x9_3 p337 q337
                                            (try rw [← Nbq33.out] at hx337_0)
                                            cases e337
                                            replace p337 := eq_true p337
                                            replace q337 := eq_true q337
                                            have p35 : 0 ≤ (x9_3 : Int) := of_decide_eq_true (by first | (with_reducible assumption) | assumption)
                                            have q35 : x9_3 < (a0.size : Int) := of_decide_eq_true (by first | (with_reducible assumption) | assumption)
                                            have hx35 := bt_at a0 x9_3
                                            replace p35 := eq_true p35
                                            replace q35 := eq_true q35
                                            have p38 : 0 ≤ (x9_3 : Int) := of_decide_eq_true (by first | (with_reducible assumption) | assumption)
                                            have q38 : x9_3 < (a0.size : Int) := of_decide_eq_true (by first | (with_reducible assumption) | assumption)
                                            have hx38 := bt_at a0 x9_3
                                            replace p38 := eq_true p38
                                            replace q38 := eq_true q38
                                            have p41 : 0 ≤ (x7_2 : Int) := of_decide_eq_true (by first | (with_reducible assumption) | assumption)
                                            have q41 : x7_2 < (a1.size : Int) := of_decide_eq_true (by first | (with_reducible assumption) | assumption)
                                            have hx41 := bt_at a1 x7_2
                                            replace p41 := eq_true p41
                                            replace q41 := eq_true q41
                                            go_wp2
                                            repeat (go_quiet (fail); try go_wp2)
                                            go_meet
                                            case rel => exact ⟨_, (false), (by first | rfl | (simp; done) | (simp [*]; done)), H', ⟨by have := HJ7.out; have := HK2.out; have := HK3.out; first | omega | exact Nat.le_refl _⟩, ⟨by (try simp only [hl5_7]); (with_reducible repeat (first | apply Kd.R_alloc | apply Kd.R_drewN | apply Kd.R_drew)); exact HO_5.out⟩, ⟨by (try simp only [hl5_7]); (with_reducible repeat (first | apply Kd.R_alloc | apply Kd.R_drewN | apply Kd.R_drew)); exact HO_8.out⟩, ⟨by repeat (first | (with_reducible first | exact HB.out | apply below_alloc | apply pw_below_drewN | apply below_drew1) | exact HB.out)⟩⟩
                                        · rw [if_neg c40] at H
                                          exact absurd H (by simp)
                                      · rw [if_neg c39] at H
                                        exact absurd H (by simp)
                                  · replace c34 := Bool.eq_false_iff.mpr c34
                                    subst c34
                                    have H1 : (signetref18_matches.j4 k3 a0 a1 x5_2 x7_2 x8_3 x9_3 false) = some r := by rw [if_neg (show ¬ (false = true) by decide)] at H; exact H
                                    clear H
                                    have H := H1
                                    clear H1
                                    have H' := Aside0.mk H
                                    clear H
                                    obtain ⟨Ao46, co46, eo46⟩ := Kd.R_slice HO_5.out
                                    subst eo46
                                    have p337 : 0 ≤ (x9_3 : Int) := of_decide_eq_true (by first | (with_reducible assumption) | assumption)
                                    have q337 : x9_3 < (x5_2.length : Int) := of_decide_eq_true (by first | (with_reducible assumption) | assumption)
                                    obtain ⟨ad337, e337, hx337_0⟩ := Kd.at_bool (Kd.R_reads' HO_5.out).2.2 x9_3 p337 q337
                                    (try rw [← Nbq33.out] at hx337_0)
                                    cases e337
                                    replace p337 := eq_true p337
                                    replace q337 := eq_true q337
                                    go_wp2
                                    repeat (go_quiet (fail); try go_wp2)
                                    go_meet
                                    case rel => exact ⟨_, (false), (by first | rfl | (simp; done) | (simp [*]; done)), H', ⟨by have := HJ7.out; have := HK2.out; have := HK3.out; first | omega | exact Nat.le_refl _⟩, ⟨by (try simp only [hl5_7]); (with_reducible repeat (first | apply Kd.R_alloc | apply Kd.R_drewN | apply Kd.R_drew)); exact HO_5.out⟩, ⟨by (try simp only [hl5_7]); (with_reducible repeat (first | apply Kd.R_alloc | apply Kd.R_drewN | apply Kd.R_drew)); exact HO_8.out⟩, ⟨by repeat (first | (with_reducible first | exact HB.out | apply below_alloc | apply pw_below_drewN | apply below_drew1) | exact HB.out)⟩⟩
                                · rw [if_neg c32] at H
                                  exact absurd H (by simp)
                              · rw [if_neg c31] at H
                                exact absurd H (by simp)
                            case rest =>
                              clear HC30
                              try clear c1
                              try clear p1
                              try clear q1
                              try clear hx1
                              try clear c2
                              try clear p2
                              try clear q2
                              try clear hx2
                              try clear hf2
                              try clear c3
                              try clear p3
                              try clear q3
                              try clear hx3
                              try clear c4
                              try clear c4b0
                              try clear c4b1
                              try clear p4
                              try clear q4
                              try clear hx4
                              try clear c5
                              try clear c5b0
                              try clear c5b1
                              try clear c6
                              try clear c6b0
                              try clear c6b1
                              try clear p6
                              try clear p7
                              try clear q7
                              try clear hx7
                              try clear qi7
                              try clear hf7
                              try clear c13
                              try clear c13b0
                              try clear c14
                              try clear c14b0
                              try clear p15
                              try clear q15
                              try clear hx15
                              try clear c16
                              try clear c16b0
                              try clear c16b1
                              try clear c18
                              try clear c18b0
                              try clear c19
                              try clear c19b0
                              try clear p20
                              try clear q20
                              try clear hx20
                              try clear hf20
                              try clear c23
                              try clear c23b0
                              try clear c25
                              try clear c25b0
                              try clear c25b1
                              try clear c26
                              try clear c26b0
                              try clear c26b1
                              try clear c29
                              try clear c29b0
                              try clear c31
                              try clear c31b0
                              try clear c32
                              try clear c32b0
                              try clear p33
                              try clear q33
                              try clear hx33
                              try clear c34
                              try clear p35
                              try clear q35
                              try clear hx35
                              try clear c36
                              try clear c36b0
                              try clear c36b1
                              try clear p38
                              try clear q38
                              try clear hx38
                              try clear c39
                              try clear c39b0
                              try clear c40
                              try clear c40b0
                              try clear p41
                              try clear q41
                              try clear hx41
                              try clear c42
                              try clear c42b0
                              try clear c42b1
                              try clear p43
                              try clear q43
                              try clear hx43
                              try clear hx20_0
                              try clear hx337_0
                              try clear hx7_0
                              try clear p1
                              try clear p15
                              try clear p2
                              try clear p20
                              try clear p337
                              try clear p35
                              try clear p38
                              try clear p41
                              try clear p43
                              try clear p6
                              try clear p7
                              try clear q1
                              try clear q15
                              try clear q2
                              try clear q20
                              try clear q337
                              try clear q35
                              try clear q38
                              try clear q41
                              try clear q43
                              try clear q7
                              obtain ⟨kq, x73_29, rfl, HA, HJ29, HO_5, HO_8, HB⟩ := hcut
                              cases kq with
                              | zero => exact absurd HA.out (by simp [signetref18_matches.j4])
                              | succ kj29 =>
                                have H := HA.out
                                clear HA
                                simp only [signetref18_matches.j4] at H
                                by_cases c47 : x73_29 = true
                                · subst c47
                                  have H1 : (if 0 ≤ (wrap64 (x9_3 + 1)) then (if (wrap64 (x9_3 + 1)) < (x8_3.length : Int) then ((some (x8_3.set ((wrap64 (x9_3 + 1)) : Int).toNat true : List Bool)).bind fun y338 => (if 0 ≤ x9_3 then (if x9_3 < (a0.size : Int) then (if (bt a0 x9_3) = 42 then (if x9_3 < (x5_2.length : Int) then (if rdOf false x5_2 x9_3 = true then (signetref18_matches.l2 kj29 a0 a1 x5_2 x7_2 (y338.set ((wrap64 (x9_3 + 1)) : Int).toNat true) (wrap64 (x9_3 + 1))) else (if (wrap64 (x9_3 + 1)) < (x5_2.length : Int) then (if rdOf false x5_2 (wrap64 (x9_3 + 1)) = true then (signetref18_matches.l2 kj29 a0 a1 x5_2 x7_2 (y338.set ((wrap64 (x9_3 + 1)) : Int).toNat true) (wrap64 (x9_3 + 1))) else (signetref18_matches.l2 kj29 a0 a1 x5_2 x7_2 y338 (wrap64 (x9_3 + 1)))) else (none))) else (none)) else (signetref18_matches.l2 kj29 a0 a1 x5_2 x7_2 y338 (wrap64 (x9_3 + 1)))) else (none)) else (none))) else (none)) else (none)) = some r := by rw [if_pos rfl] at H; exact H
                                  clear H
                                  have H := H1
                                  clear H1
                                  obtain ⟨ji48, hji48⟩ : ∃ j_ : Int, (wrap64 (x9_3 + 1)) = j_ := ⟨_, rfl⟩
                                  replace H : (if 0 ≤ (ji48) then (if (ji48) < (x8_3.length : Int) then ((some (x8_3.set ((ji48) : Int).toNat true : List Bool)).bind fun y338 => (if 0 ≤ x9_3 then (if x9_3 < (a0.size : Int) then (if (bt a0 x9_3) = 42 then (if x9_3 < (x5_2.length : Int) then (if rdOf false x5_2 x9_3 = true then (signetref18_matches.l2 kj29 a0 a1 x5_2 x7_2 (y338.set ((ji48) : Int).toNat true) ji48) else (if (ji48) < (x5_2.length : Int) then (if rdOf false x5_2 (ji48) = true then (signetref18_matches.l2 kj29 a0 a1 x5_2 x7_2 (y338.set ((ji48) : Int).toNat true) ji48) else (signetref18_matches.l2 kj29 a0 a1 x5_2 x7_2 y338 ji48)) else (none))) else (none)) else (signetref18_matches.l2 kj29 a0 a1 x5_2 x7_2 y338 ji48)) else (none)) else (none))) else (none)) else (none)) = some r := by first | (rw [hji48] at H; exact H) | (simp only [hji48] at H ⊢; exact H)
                                  have hji48w : (IntKind.i64.wrap (x9_3 + 1)) = ji48 := (i64_w _).trans hji48
                                  by_cases c49 : 0 ≤ (ji48)
                                  · rw [if_pos c49] at H
                                    have c49b0 : decide (0 ≤ (ji48)) = true := decide_eq_true c49
                                    clear c49
                                    by_cases c50 : (ji48) < (x8_3.length : Int)
                                    · rw [if_pos c50] at H
                                      have c50b0 : decide ((ji48) < (x8_3.length : Int)) = true := decide_eq_true c50
                                      clear c50
                                      obtain ⟨y338, hy338⟩ : ∃ y_ : List Bool, y_ = (x8_3.set ((ji48) : Int).toNat true) := ⟨_, rfl⟩
                                      replace H : (if 0 ≤ x9_3 then (if x9_3 < (a0.size : Int) then (if (bt a0 x9_3) = 42 then (if x9_3 < (x5_2.length : Int) then (if rdOf false x5_2 x9_3 = true then (signetref18_matches.l2 kj29 a0 a1 x5_2 x7_2 (y338.set ((ji48) : Int).toNat true) ji48) else (if (ji48) < (x5_2.length : Int) then (if rdOf false x5_2 (ji48) = true then (signetref18_matches.l2 kj29 a0 a1 x5_2 x7_2 (y338.set ((ji48) : Int).toNat true) ji48) else (signetref18_matches.l2 kj29 a0 a1 x5_2 x7_2 y338 ji48)) else (none))) else (none)) else (signetref18_matches.l2 kj29 a0 a1 x5_2 x7_2 y338 ji48)) else (none)) else (none)) = some r := by first | (rw [hy338]; with_reducible exact H) | (have H2_ := (Option.bind_some _ _).symm.trans H; rw [hy338]; with_reducible exact H2_) | (have H2_ := (Option.bind_some _ _).symm.trans H; with_reducible exact H2_) | with_reducible exact H | (rw [hy338]; exact H) | exact H
                                      have Ny338 := Aside0.mk hy338
                                      clear hy338
                                      by_cases c52 : 0 ≤ x9_3
                                      · rw [if_pos c52] at H
                                        have c52b0 : decide (0 ≤ x9_3) = true := decide_eq_true c52
                                        clear c52
                                        by_cases c53 : x9_3 < (a0.size : Int)
                                        · rw [if_pos c53] at H
                                          have c53b0 : decide (x9_3 < (a0.size : Int)) = true := decide_eq_true c53
                                          clear c53
                                          by_cases c55 : (bt a0 x9_3) = 42
                                          · rw [if_pos c55] at H
                                            have c55b0 : ((bt a0 x9_3) == 42) = true := beq_iff_eq.mpr c55
                                            have c55b1 : ((bt a0 x9_3) != 42) = false := bne_eq_false_iff_eq.mpr c55
                                            clear c55
                                            by_cases c56 : x9_3 < (x5_2.length : Int)
                                            · rw [if_pos c56] at H
                                              have c56b0 : decide (x9_3 < (x5_2.length : Int)) = true := decide_eq_true c56
                                              clear c56
                                              obtain ⟨bq57, hbq57⟩ : ∃ b_ : Bool, b_ = (rdOf false x5_2 x9_3) := ⟨_, rfl⟩
                                              replace H : (if bq57 = true then (signetref18_matches.l2 kj29 a0 a1 x5_2 x7_2 (y338.set ((ji48) : Int).toNat true) ji48) else (if (ji48) < (x5_2.length : Int) then (if rdOf false x5_2 (ji48) = true then (signetref18_matches.l2 kj29 a0 a1 x5_2 x7_2 (y338.set ((ji48) : Int).toNat true) ji48) else (signetref18_matches.l2 kj29 a0 a1 x5_2 x7_2 y338 ji48)) else (none))) = some r := by rw [← hbq57] at H; exact H
                                              have Nbq57 := Aside0.mk hbq57
                                              clear hbq57
                                              by_cases c58 : bq57 = true
                                              · subst c58
                                                have H1 : (signetref18_matches.l2 kj29 a0 a1 x5_2 x7_2 (y338.set ((ji48) : Int).toNat true) ji48) = some r := by rw [if_pos rfl] at H; exact H
                                                clear H
                                                have H := H1
                                                clear H1
                                                obtain ⟨y340, hy340⟩ : ∃ y_ : List Bool, y_ = (y338.set ((ji48) : Int).toNat true) := ⟨_, rfl⟩
                                                replace H : (signetref18_matches.l2 kj29 a0 a1 x5_2 x7_2 y340 ji48) = some r := by first | (rw [hy340]; with_reducible exact H) | (have H2_ := (Option.bind_some _ _).symm.trans H; rw [hy340]; with_reducible exact H2_) | (have H2_ := (Option.bind_some _ _).symm.trans H; with_reducible exact H2_) | with_reducible exact H | (rw [hy340]; exact H) | exact H
                                                have Ny340 := Aside0.mk hy340
                                                clear hy340
                                                have H' := Aside0.mk H
                                                clear H
                                                have p51 : 0 ≤ ((ji48) : Int) := of_decide_eq_true (by first | (with_reducible assumption) | assumption)
                                                have q51 : ((ji48) : Int) < ((x8_3.length : Int) : Int) := of_decide_eq_true (by first | (with_reducible assumption) | assumption)
                                                obtain ⟨go51, co51, eo51, gb51, gl51, cl51, HG51⟩ := Kd.R_form HO_8.out (by omega)
                                                (first | cases eo51 | (injection eo51 with ea_ en_ ec_; (first | subst ea_ | (injection ea_ with ea_; subst ea_)); subst ec_; clear en_))
                                                have GB51 := Aside0.mk gb51
                                                have GG51 := Aside0.mk HG51
                                                clear gb51 gl51 HG51
                                                obtain ⟨hx51_0, hf51_0⟩ := Kd.R_celln false HO_8.out ((ji48) : Int) p51 q51
                                                replace p51 := eq_true p51
                                                replace q51 := eq_true q51
                                                have HP60 := Kd.R_putg HO_8.out ((ji48) : Int) true
                                                go_wp2_with (first | ((with_reducible refine gate_store (t := 4) (p := 77) rfl ?_); (try (rw [drewN_self wc]; generalize hq_ : World.drewN wc _ = wc; have n0_ := Aside0.mk (Kd.R_at hq_ HO_5.out); have n1_ := Aside0.mk (Kd.R_at hq_ HO_8.out); have n2_ := Aside0.mk (below_at hq_ HB.out); clear hq_ HO_5 HO_8 HB; have HO_5 := n0_; have HO_8 := n1_; have HB := n2_; clear n0_ n1_ n2_; (try (have HP60 := Kd.R_putg HO_8.out ((ji48) : Int) true)))); refine store_event (t := 4) (p := 77) (v := ?vo_w61) (w1 := (wc.setCell ⟨go51, ((ji48) : Int).toNat, none⟩ (.bool true))) ?hg ?ho ?hn ?hr ?_; (case ho => rfl); (case hg => rfl); (case hn => rfl); (case hr => first | (go_simp; done) | (go_simp; rfl)); intro w61 hw; have hg : wc.grownBy w61 (some go51) := (by rw [hw]; exact HP60.2); have hp_ : Kd.R Kd.bool 4 w61 w.heap.size (fun k_ => some k_ ≠ (u5 : Value).ownBlock) (.slice (some ⟨go51, 0, none⟩) x8_3.length co51) y338 := (by rw [hw, Ny338.out]; exact HP60.1); clear HP60; have n0_ := Aside0.mk (Kd.R_after (v := (.slice (some ⟨go51, 0, none⟩) x8_3.length co51)) (v1 := (.slice (some ⟨go51, 0, none⟩) x8_3.length co51)) (ok := (fun _ => True)) (by (with_reducible repeat (first | apply Kd.R_alloc | apply Kd.R_drewN | apply Kd.R_drew)); exact Kd.R_mono HO_5.out (fun _ hk => ⟨trivial, hk⟩)) hg (.inl rfl)); have n1_ := Aside0.mk (hp_); have n2_ := Aside0.mk ((by rw [hw]; exact below_set (HB.out) GB51.out : Below w.heap.size w w61)); clear HO_5; clear HO_8; clear HB; have HO_5 := n0_; have HO_8 := n1_; have HB := n2_; clear n0_ n1_ n2_; clear hg hw hp_; have p54 : 0 ≤ (x9_3 : Int) := of_decide_eq_true (by first | (with_reducible assumption) | assumption); have q54 : x9_3 < (a0.size : Int) := of_decide_eq_true (by first | (with_reducible assumption) | assumption); have hx54 := bt_at a0 x9_3; replace p54 := eq_true p54; replace q54 := eq_true q54; obtain ⟨Ao62, co62, eo62⟩ := Kd.R_slice HO_5.out; subst eo62; have p339 : 0 ≤ (x9_3 : Int) := of_decide_eq_true (by first | (with_reducible assumption) | assumption); have q339 : x9_3 < (x5_2.length : Int) := of_decide_eq_true (by first | (with_reducible assumption) | assumption); obtain ⟨ad339, e339, hx339_0⟩ := Kd.at_bool (Kd.R_reads' HO_5.out).2.2 x9_3 p339 q339; (try rw [← Nbq57.out] at hx339_0); cases e339; replace p339 := eq_true p339; replace q339 := eq_true q339; have p59 : 0 ≤ ((ji48) : Int) := of_decide_eq_true (by first | (with_reducible assumption) | assumption); have q59 : ((ji48) : Int) < ((x8_3.length : Int) : Int) := of_decide_eq_true (by first | (with_reducible assumption) | assumption); obtain ⟨hx59_0, hf59_0⟩ := Kd.R_celln false HO_8.out ((ji48) : Int) p59 q59; replace p59 := eq_true p59; replace q59 := eq_true q59; obtain ⟨hy63_, hz63_⟩ := Kd.R_celln false HO_8.out ((ji48) : Int) (of_decide_eq_true (by first | (with_reducible assumption) | assumption)) (of_decide_eq_true (by first | (with_reducible assumption) | assumption)); have HP63 := Kd.R_putg HO_8.out ((ji48) : Int) true) | ((with_reducible refine gate_store (t := 4) (p := 98) rfl ?_); (try (rw [drewN_self w61]; generalize hq_ : World.drewN w61 _ = w61; have n0_ := Aside0.mk (Kd.R_at hq_ HO_5.out); have n1_ := Aside0.mk (Kd.R_at hq_ HO_8.out); have n2_ := Aside0.mk (below_at hq_ HB.out); clear hq_ HO_5 HO_8 HB; have HO_5 := n0_; have HO_8 := n1_; have HB := n2_; clear n0_ n1_ n2_; (try (obtain ⟨hy63_, hz63_⟩ := Kd.R_celln false HO_8.out ((ji48) : Int) (of_decide_eq_true (by first | (with_reducible assumption) | assumption)) (of_decide_eq_true (by first | (with_reducible assumption) | assumption)))); (try (have HP63 := Kd.R_putg HO_8.out ((ji48) : Int) true)))); refine store_event (t := 4) (p := 98) (v := ?vo_w64) (w1 := (w61.setCell ⟨go51, ((ji48) : Int).toNat, none⟩ (.bool true))) ?hg ?ho ?hn ?hr ?_; (case ho => rfl); (case hg => rfl); (case hn => rfl); (case hr => first | (go_simp; done) | (go_simp; rfl)); intro w64 hw; have hg : w61.grownBy w64 (some go51) := (by rw [hw]; exact HP63.2); have hp_ : Kd.R Kd.bool 4 w64 w.heap.size (fun k_ => some k_ ≠ (.slice (some ad339) x5_2.length co62 : Value).ownBlock) (.slice (some ⟨go51, 0, none⟩) x8_3.length co51) y340 := (by rw [hw, Ny340.out]; exact HP63.1); clear HP63; have n0_ := Aside0.mk (Kd.R_after (v := (.slice (some ⟨go51, 0, none⟩) x8_3.length co51)) (v1 := (.slice (some ⟨go51, 0, none⟩) x8_3.length co51)) (ok := (fun _ => True)) (by (with_reducible repeat (first | apply Kd.R_alloc | apply Kd.R_drewN | apply Kd.R_drew)); exact HO_5.out) hg (.inl rfl)); have n1_ := Aside0.mk (hp_); have n2_ := Aside0.mk ((by rw [hw]; exact below_set (HB.out) GB51.out : Below w.heap.size w w64)); clear HO_5; clear HO_8; clear HB; have HO_5 := n0_; have HO_8 := n1_; have HB := n2_; clear n0_ n1_ n2_; clear hg hw hp_))
                                                repeat (go_quiet (first | ((with_reducible refine gate_store (t := 4) (p := 77) rfl ?_); (try (rw [drewN_self wc]; generalize hq_ : World.drewN wc _ = wc; have n0_ := Aside0.mk (Kd.R_at hq_ HO_5.out); have n1_ := Aside0.mk (Kd.R_at hq_ HO_8.out); have n2_ := Aside0.mk (below_at hq_ HB.out); clear hq_ HO_5 HO_8 HB; have HO_5 := n0_; have HO_8 := n1_; have HB := n2_; clear n0_ n1_ n2_; (try (have HP60 := Kd.R_putg HO_8.out ((ji48) : Int) true)))); refine store_event (t := 4) (p := 77) (v := ?vo_w61) (w1 := (wc.setCell ⟨go51, ((ji48) : Int).toNat, none⟩ (.bool true))) ?hg ?ho ?hn ?hr ?_; (case ho => rfl); (case hg => rfl); (case hn => rfl); (case hr => first | (go_simp; done) | (go_simp; rfl)); intro w61 hw; have hg : wc.grownBy w61 (some go51) := (by rw [hw]; exact HP60.2); have hp_ : Kd.R Kd.bool 4 w61 w.heap.size (fun k_ => some k_ ≠ (u5 : Value).ownBlock) (.slice (some ⟨go51, 0, none⟩) x8_3.length co51) y338 := (by rw [hw, Ny338.out]; exact HP60.1); clear HP60; have n0_ := Aside0.mk (Kd.R_after (v := (.slice (some ⟨go51, 0, none⟩) x8_3.length co51)) (v1 := (.slice (some ⟨go51, 0, none⟩) x8_3.length co51)) (ok := (fun _ => True)) (by (with_reducible repeat (first | apply Kd.R_alloc | apply Kd.R_drewN | apply Kd.R_drew)); exact Kd.R_mono HO_5.out (fun _ hk => ⟨trivial, hk⟩)) hg (.inl rfl)); have n1_ := Aside0.mk (hp_); have n2_ := Aside0.mk ((by rw [hw]; exact below_set (HB.out) GB51.out : Below w.heap.size w w61)); clear HO_5; clear HO_8; clear HB; have HO_5 := n0_; have HO_8 := n1_; have HB := n2_; clear n0_ n1_ n2_; clear hg hw hp_; have p54 : 0 ≤ (x9_3 : Int) := of_decide_eq_true (by first | (with_reducible assumption) | assumption); have q54 : x9_3 < (a0.size : Int) := of_decide_eq_true (by first | (with_reducible assumption) | assumption); have hx54 := bt_at a0 x9_3; replace p54 := eq_true p54; replace q54 := eq_true q54; obtain ⟨Ao62, co62, eo62⟩ := Kd.R_slice HO_5.out; subst eo62; have p339 : 0 ≤ (x9_3 : Int) := of_decide_eq_true (by first | (with_reducible assumption) | assumption); have q339 : x9_3 < (x5_2.length : Int) := of_decide_eq_true (by first | (with_reducible assumption) | assumption); obtain ⟨ad339, e339, hx339_0⟩ := Kd.at_bool (Kd.R_reads' HO_5.out).2.2 x9_3 p339 q339; (try rw [← Nbq57.out] at hx339_0); cases e339; replace p339 := eq_true p339; replace q339 := eq_true q339; have p59 : 0 ≤ ((ji48) : Int) := of_decide_eq_true (by first | (with_reducible assumption) | assumption); have q59 : ((ji48) : Int) < ((x8_3.length : Int) : Int) := of_decide_eq_true (by first | (with_reducible assumption) | assumption); obtain ⟨hx59_0, hf59_0⟩ := Kd.R_celln false HO_8.out ((ji48) : Int) p59 q59; replace p59 := eq_true p59; replace q59 := eq_true q59; obtain ⟨hy63_, hz63_⟩ := Kd.R_celln false HO_8.out ((ji48) : Int) (of_decide_eq_true (by first | (with_reducible assumption) | assumption)) (of_decide_eq_true (by first | (with_reducible assumption) | assumption)); have HP63 := Kd.R_putg HO_8.out ((ji48) : Int) true) | ((with_reducible refine gate_store (t := 4) (p := 98) rfl ?_); (try (rw [drewN_self w61]; generalize hq_ : World.drewN w61 _ = w61; have n0_ := Aside0.mk (Kd.R_at hq_ HO_5.out); have n1_ := Aside0.mk (Kd.R_at hq_ HO_8.out); have n2_ := Aside0.mk (below_at hq_ HB.out); clear hq_ HO_5 HO_8 HB; have HO_5 := n0_; have HO_8 := n1_; have HB := n2_; clear n0_ n1_ n2_; (try (obtain ⟨hy63_, hz63_⟩ := Kd.R_celln false HO_8.out ((ji48) : Int) (of_decide_eq_true (by first | (with_reducible assumption) | assumption)) (of_decide_eq_true (by first | (with_reducible assumption) | assumption)))); (try (have HP63 := Kd.R_putg HO_8.out ((ji48) : Int) true)))); refine store_event (t := 4) (p := 98) (v := ?vo_w64) (w1 := (w61.setCell ⟨go51, ((ji48) : Int).toNat, none⟩ (.bool true))) ?hg ?ho ?hn ?hr ?_; (case ho => rfl); (case hg => rfl); (case hn => rfl); (case hr => first | (go_simp; done) | (go_simp; rfl)); intro w64 hw; have hg : w61.grownBy w64 (some go51) := (by rw [hw]; exact HP63.2); have hp_ : Kd.R Kd.bool 4 w64 w.heap.size (fun k_ => some k_ ≠ (.slice (some ad339) x5_2.length co62 : Value).ownBlock) (.slice (some ⟨go51, 0, none⟩) x8_3.length co51) y340 := (by rw [hw, Ny340.out]; exact HP63.1); clear HP63; have n0_ := Aside0.mk (Kd.R_after (v := (.slice (some ⟨go51, 0, none⟩) x8_3.length co51)) (v1 := (.slice (some ⟨go51, 0, none⟩) x8_3.length co51)) (ok := (fun _ => True)) (by (with_reducible repeat (first | apply Kd.R_alloc | apply Kd.R_drewN | apply Kd.R_drew)); exact HO_5.out) hg (.inl rfl)); have n1_ := Aside0.mk (hp_); have n2_ := Aside0.mk ((by rw [hw]; exact below_set (HB.out) GB51.out : Below w.heap.size w w64)); clear HO_5; clear HO_8; clear HB; have HO_5 := n0_; have HO_8 := n1_; have HB := n2_; clear n0_ n1_ n2_; clear hg hw hp_)); try go_wp2_with (first | ((with_reducible refine gate_store (t := 4) (p := 77) rfl ?_); (try (rw [drewN_self wc]; generalize hq_ : World.drewN wc _ = wc; have n0_ := Aside0.mk (Kd.R_at hq_ HO_5.out); have n1_ := Aside0.mk (Kd.R_at hq_ HO_8.out); have n2_ := Aside0.mk (below_at hq_ HB.out); clear hq_ HO_5 HO_8 HB; have HO_5 := n0_; have HO_8 := n1_; have HB := n2_; clear n0_ n1_ n2_; (try (have HP60 := Kd.R_putg HO_8.out ((ji48) : Int) true)))); refine store_event (t := 4) (p := 77) (v := ?vo_w61) (w1 := (wc.setCell ⟨go51, ((ji48) : Int).toNat, none⟩ (.bool true))) ?hg ?ho ?hn ?hr ?_; (case ho => rfl); (case hg => rfl); (case hn => rfl); (case hr => first | (go_simp; done) | (go_simp; rfl)); intro w61 hw; have hg : wc.grownBy w61 (some go51) := (by rw [hw]; exact HP60.2); have hp_ : Kd.R Kd.bool 4 w61 w.heap.size (fun k_ => some k_ ≠ (u5 : Value).ownBlock) (.slice (some ⟨go51, 0, none⟩) x8_3.length co51) y338 := (by rw [hw, Ny338.out]; exact HP60.1); clear HP60; have n0_ := Aside0.mk (Kd.R_after (v := (.slice (some ⟨go51, 0, none⟩) x8_3.length co51)) (v1 := (.slice (some ⟨go51, 0, none⟩) x8_3.length co51)) (ok := (fun _ => True)) (by (with_reducible repeat (first | apply Kd.R_alloc | apply Kd.R_drewN | apply Kd.R_drew)); exact Kd.R_mono HO_5.out (fun _ hk => ⟨trivial, hk⟩)) hg (.inl rfl)); have n1_ := Aside0.mk (hp_); have n2_ := Aside0.mk ((by rw [hw]; exact below_set (HB.out) GB51.out : Below w.heap.size w w61)); clear HO_5; clear HO_8; clear HB; have HO_5 := n0_; have HO_8 := n1_; have HB := n2_; clear n0_ n1_ n2_; clear hg hw hp_; have p54 : 0 ≤ (x9_3 : Int) := of_decide_eq_true (by first | (with_reducible assumption) | assumption); have q54 : x9_3 < (a0.size : Int) := of_decide_eq_true (by first | (with_reducible assumption) | assumption); have hx54 := bt_at a0 x9_3; replace p54 := eq_true p54; replace q54 := eq_true q54; obtain ⟨Ao62, co62, eo62⟩ := Kd.R_slice HO_5.out; subst eo62; have p339 : 0 ≤ (x9_3 : Int) := of_decide_eq_true (by first | (with_reducible assumption) | assumption); have q339 : x9_3 < (x5_2.length : Int) := of_decide_eq_true (by first | (with_reducible assumption) | assumption); obtain ⟨ad339, e339, hx339_0⟩ := Kd.at_bool (Kd.R_reads' HO_5.out).2.2 x9_3 p339 q339; (try rw [← Nbq57.out] at hx339_0); cases e339; replace p339 := eq_true p339; replace q339 := eq_true q339; have p59 : 0 ≤ ((ji48) : Int) := of_decide_eq_true (by first | (with_reducible assumption) | assumption); have q59 : ((ji48) : Int) < ((x8_3.length : Int) : Int) := of_decide_eq_true (by first | (with_reducible assumption) | assumption); obtain ⟨hx59_0, hf59_0⟩ := Kd.R_celln false HO_8.out ((ji48) : Int) p59 q59; replace p59 := eq_true p59; replace q59 := eq_true q59; obtain ⟨hy63_, hz63_⟩ := Kd.R_celln false HO_8.out ((ji48) : Int) (of_decide_eq_true (by first | (with_reducible assumption) | assumption)) (of_decide_eq_true (by first | (with_reducible assumption) | assumption)); have HP63 := Kd.R_putg HO_8.out ((ji48) : Int) true) | ((with_reducible refine gate_store (t := 4) (p := 98) rfl ?_); (try (rw [drewN_self w61]; generalize hq_ : World.drewN w61 _ = w61; have n0_ := Aside0.mk (Kd.R_at hq_ HO_5.out); have n1_ := Aside0.mk (Kd.R_at hq_ HO_8.out); have n2_ := Aside0.mk (below_at hq_ HB.out); clear hq_ HO_5 HO_8 HB; have HO_5 := n0_; have HO_8 := n1_; have HB := n2_; clear n0_ n1_ n2_; (try (obtain ⟨hy63_, hz63_⟩ := Kd.R_celln false HO_8.out ((ji48) : Int) (of_decide_eq_true (by first | (with_reducible assumption) | assumption)) (of_decide_eq_true (by first | (with_reducible assumption) | assumption)))); (try (have HP63 := Kd.R_putg HO_8.out ((ji48) : Int) true)))); refine store_event (t := 4) (p := 98) (v := ?vo_w64) (w1 := (w61.setCell ⟨go51, ((ji48) : Int).toNat, none⟩ (.bool true))) ?hg ?ho ?hn ?hr ?_; (case ho => rfl); (case hg => rfl); (case hn => rfl); (case hr => first | (go_simp; done) | (go_simp; rfl)); intro w64 hw; have hg : w61.grownBy w64 (some go51) := (by rw [hw]; exact HP63.2); have hp_ : Kd.R Kd.bool 4 w64 w.heap.size (fun k_ => some k_ ≠ (.slice (some ad339) x5_2.length co62 : Value).ownBlock) (.slice (some ⟨go51, 0, none⟩) x8_3.length co51) y340 := (by rw [hw, Ny340.out]; exact HP63.1); clear HP63; have n0_ := Aside0.mk (Kd.R_after (v := (.slice (some ⟨go51, 0, none⟩) x8_3.length co51)) (v1 := (.slice (some ⟨go51, 0, none⟩) x8_3.length co51)) (ok := (fun _ => True)) (by (with_reducible repeat (first | apply Kd.R_alloc | apply Kd.R_drewN | apply Kd.R_drew)); exact HO_5.out) hg (.inl rfl)); have n1_ := Aside0.mk (hp_); have n2_ := Aside0.mk ((by rw [hw]; exact below_set (HB.out) GB51.out : Below w.heap.size w w64)); clear HO_5; clear HO_8; clear HB; have HO_5 := n0_; have HO_8 := n1_; have HB := n2_; clear n0_ n1_ n2_; clear hg hw hp_)))
                                                go_roundg kj29
                                                case measure => have := HJ7.out; have := HK2.out; have := HK3.out; have := HJ29.out; omega
                                                case rel => exact ⟨(y340), (ji48), (by first | rfl | (simp; done) | (simp only [← hji48] <;> (first | rfl | simp)) | (simp [*]; done)), H', ⟨by have := HJ7.out; have := HK2.out; have := HK3.out; have := HJ29.out; omega⟩, ⟨by (try simp only [hl5_7]); (with_reducible repeat (first | apply Kd.R_alloc | apply Kd.R_drewN | apply Kd.R_drew)); exact Kd.R_mono HO_5.out (fun _ hk => hk.2)⟩, ⟨by (try simp only [hl5_7]); (with_reducible repeat (first | apply Kd.R_alloc | apply Kd.R_drewN | apply Kd.R_drew)); exact HO_8.out⟩, ⟨by repeat (first | (with_reducible first | exact HB.out | apply below_alloc | apply pw_below_drewN | apply below_drew1) | exact HB.out)⟩⟩
                                              · replace c58 := Bool.eq_false_iff.mpr c58
                                                subst c58
                                                have H1 : (if (ji48) < (x5_2.length : Int) then (if rdOf false x5_2 (ji48) = true then (signetref18_matches.l2 kj29 a0 a1 x5_2 x7_2 (y338.set ((ji48) : Int).toNat true) ji48) else (signetref18_matches.l2 kj29 a0 a1 x5_2 x7_2 y338 ji48)) else (none)) = some r := by rw [if_neg (show ¬ (false = true) by decide)] at H; exact H
                                                clear H
                                                have H := H1
                                                clear H1
                                                by_cases c65 : (ji48) < (x5_2.length : Int)
                                                · rw [if_pos c65] at H
                                                  have c65b0 : decide ((ji48) < (x5_2.length : Int)) = true := decide_eq_true c65
                                                  clear c65
                                                  obtain ⟨bq66, hbq66⟩ : ∃ b_ : Bool, b_ = (rdOf false x5_2 (ji48)) := ⟨_, rfl⟩
                                                  replace H : (if bq66 = true then (signetref18_matches.l2 kj29 a0 a1 x5_2 x7_2 (y338.set ((ji48) : Int).toNat true) ji48) else (signetref18_matches.l2 kj29 a0 a1 x5_2 x7_2 y338 ji48)) = some r := by rw [← hbq66] at H; exact H
                                                  have Nbq66 := Aside0.mk hbq66
                                                  clear hbq66
                                                  by_cases c67 : bq66 = true
                                                  · subst c67
                                                    have H1 : (signetref18_matches.l2 kj29 a0 a1 x5_2 x7_2 (y338.set ((ji48) : Int).toNat true) ji48) = some r := by rw [if_pos rfl] at H; exact H
                                                    clear H
                                                    have H := H1
                                                    clear H1
                                                    obtain ⟨y342, hy342⟩ : ∃ y_ : List Bool, y_ = (y338.set ((ji48) : Int).toNat true) := ⟨_, rfl⟩
                                                    replace H : (signetref18_matches.l2 kj29 a0 a1 x5_2 x7_2 y342 ji48) = some r := by first | (rw [hy342]; with_reducible exact H) | (have H2_ := (Option.bind_some _ _).symm.trans H; rw [hy342]; with_reducible exact H2_) | (have H2_ := (Option.bind_some _ _).symm.trans H; with_reducible exact H2_) | with_reducible exact H | (rw [hy342]; exact H) | exact H
                                                    have Ny342 := Aside0.mk hy342
                                                    clear hy342
                                                    have H' := Aside0.mk H
                                                    clear H
                                                    have p51 : 0 ≤ ((ji48) : Int) := of_decide_eq_true (by first | (with_reducible assumption) | assumption)
                                                    have q51 : ((ji48) : Int) < ((x8_3.length : Int) : Int) := of_decide_eq_true (by first | (with_reducible assumption) | assumption)
                                                    obtain ⟨go51, co51, eo51, gb51, gl51, cl51, HG51⟩ := Kd.R_form HO_8.out (by omega)
                                                    (first | cases eo51 | (injection eo51 with ea_ en_ ec_; (first | subst ea_ | (injection ea_ with ea_; subst ea_)); subst ec_; clear en_))
                                                    have GB51 := Aside0.mk gb51
                                                    have GG51 := Aside0.mk HG51
                                                    clear gb51 gl51 HG51
                                                    obtain ⟨hx51_0, hf51_0⟩ := Kd.R_celln false HO_8.out ((ji48) : Int) p51 q51
                                                    replace p51 := eq_true p51
                                                    replace q51 := eq_true q51
                                                    have HP69 := Kd.R_putg HO_8.out ((ji48) : Int) true
                                                    go_wp2_with (first | ((with_reducible refine gate_store (t := 4) (p := 77) rfl ?_); (try (rw [drewN_self wc]; generalize hq_ : World.drewN wc _ = wc; have n0_ := Aside0.mk (Kd.R_at hq_ HO_5.out); have n1_ := Aside0.mk (Kd.R_at hq_ HO_8.out); have n2_ := Aside0.mk (below_at hq_ HB.out); clear hq_ HO_5 HO_8 HB; have HO_5 := n0_; have HO_8 := n1_; have HB := n2_; clear n0_ n1_ n2_; (try (have HP69 := Kd.R_putg HO_8.out ((ji48) : Int) true)))); refine store_event (t := 4) (p := 77) (v := ?vo_w70) (w1 := (wc.setCell ⟨go51, ((ji48) : Int).toNat, none⟩ (.bool true))) ?hg ?ho ?hn ?hr ?_; (case ho => rfl); (case hg => rfl); (case hn => rfl); (case hr => first | (go_simp; done) | (go_simp; rfl)); intro w70 hw; have hg : wc.grownBy w70 (some go51) := (by rw [hw]; exact HP69.2); have hp_ : Kd.R Kd.bool 4 w70 w.heap.size (fun k_ => some k_ ≠ (u5 : Value).ownBlock) (.slice (some ⟨go51, 0, none⟩) x8_3.length co51) y338 := (by rw [hw, Ny338.out]; exact HP69.1); clear HP69; have n0_ := Aside0.mk (Kd.R_after (v := (.slice (some ⟨go51, 0, none⟩) x8_3.length co51)) (v1 := (.slice (some ⟨go51, 0, none⟩) x8_3.length co51)) (ok := (fun _ => True)) (by (with_reducible repeat (first | apply Kd.R_alloc | apply Kd.R_drewN | apply Kd.R_drew)); exact Kd.R_mono HO_5.out (fun _ hk => ⟨trivial, hk⟩)) hg (.inl rfl)); have n1_ := Aside0.mk (hp_); have n2_ := Aside0.mk ((by rw [hw]; exact below_set (HB.out) GB51.out : Below w.heap.size w w70)); clear HO_5; clear HO_8; clear HB; have HO_5 := n0_; have HO_8 := n1_; have HB := n2_; clear n0_ n1_ n2_; clear hg hw hp_; have p54 : 0 ≤ (x9_3 : Int) := of_decide_eq_true (by first | (with_reducible assumption) | assumption); have q54 : x9_3 < (a0.size : Int) := of_decide_eq_true (by first | (with_reducible assumption) | assumption); have hx54 := bt_at a0 x9_3; replace p54 := eq_true p54; replace q54 := eq_true q54; obtain ⟨Ao71, co71, eo71⟩ := Kd.R_slice HO_5.out; subst eo71; have p339 : 0 ≤ (x9_3 : Int) := of_decide_eq_true (by first | (with_reducible assumption) | assumption); have q339 : x9_3 < (x5_2.length : Int) := of_decide_eq_true (by first | (with_reducible assumption) | assumption); obtain ⟨ad339, e339, hx339_0⟩ := Kd.at_bool (Kd.R_reads' HO_5.out).2.2 x9_3 p339 q339; (try rw [← Nbq57.out] at hx339_0); (try rw [← Nbq66.out] at hx339_0); cases e339; replace p339 := eq_true p339; replace q339 := eq_true q339; have p341 : 0 ≤ ((ji48) : Int) := of_decide_eq_true (by first | (with_reducible assumption) | assumption); have q341 : (ji48) < (x5_2.length : Int) := of_decide_eq_true (by first | (with_reducible assumption) | assumption); obtain ⟨ad341, e341, hx341_0⟩ := Kd.at_bool (Kd.R_reads' HO_5.out).2.2 (ji48) p341 q341; (try rw [← Nbq57.out] at hx341_0); (try rw [← Nbq66.out] at hx341_0); obtain rfl : ad339 = ad341 := (by injection e341); replace p341 := eq_true p341; replace q341 := eq_true q341; have p68 : 0 ≤ ((ji48) : Int) := of_decide_eq_true (by first | (with_reducible assumption) | assumption); have q68 : ((ji48) : Int) < ((x8_3.length : Int) : Int) := of_decide_eq_true (by first | (with_reducible assumption) | assumption); obtain ⟨hx68_0, hf68_0⟩ := Kd.R_celln false HO_8.out ((ji48) : Int) p68 q68; replace p68 := eq_true p68; replace q68 := eq_true q68; obtain ⟨hy72_, hz72_⟩ := Kd.R_celln false HO_8.out ((ji48) : Int) (of_decide_eq_true (by first | (with_reducible assumption) | assumption)) (of_decide_eq_true (by first | (with_reducible assumption) | assumption)); have HP72 := Kd.R_putg HO_8.out ((ji48) : Int) true) | ((with_reducible refine gate_store (t := 4) (p := 98) rfl ?_); (try (rw [drewN_self w70]; generalize hq_ : World.drewN w70 _ = w70; have n0_ := Aside0.mk (Kd.R_at hq_ HO_5.out); have n1_ := Aside0.mk (Kd.R_at hq_ HO_8.out); have n2_ := Aside0.mk (below_at hq_ HB.out); clear hq_ HO_5 HO_8 HB; have HO_5 := n0_; have HO_8 := n1_; have HB := n2_; clear n0_ n1_ n2_; (try (obtain ⟨hy72_, hz72_⟩ := Kd.R_celln false HO_8.out ((ji48) : Int) (of_decide_eq_true (by first | (with_reducible assumption) | assumption)) (of_decide_eq_true (by first | (with_reducible assumption) | assumption)))); (try (have HP72 := Kd.R_putg HO_8.out ((ji48) : Int) true)))); refine store_event (t := 4) (p := 98) (v := ?vo_w73) (w1 := (w70.setCell ⟨go51, ((ji48) : Int).toNat, none⟩ (.bool true))) ?hg ?ho ?hn ?hr ?_; (case ho => rfl); (case hg => rfl); (case hn => rfl); (case hr => first | (go_simp; done) | (go_simp; rfl)); intro w73 hw; have hg : w70.grownBy w73 (some go51) := (by rw [hw]; exact HP72.2); have hp_ : Kd.R Kd.bool 4 w73 w.heap.size (fun k_ => some k_ ≠ (.slice (some ad339) x5_2.length co71 : Value).ownBlock) (.slice (some ⟨go51, 0, none⟩) x8_3.length co51) y342 := (by rw [hw, Ny342.out]; exact HP72.1); clear HP72; have n0_ := Aside0.mk (Kd.R_after (v := (.slice (some ⟨go51, 0, none⟩) x8_3.length co51)) (v1 := (.slice (some ⟨go51, 0, none⟩) x8_3.length co51)) (ok := (fun _ => True)) (by (with_reducible repeat (first | apply Kd.R_alloc | apply Kd.R_drewN | apply Kd.R_drew)); exact HO_5.out) hg (.inl rfl)); have n1_ := Aside0.mk (hp_); have n2_ := Aside0.mk ((by rw [hw]; exact below_set (HB.out) GB51.out : Below w.heap.size w w73)); clear HO_5; clear HO_8; clear HB; have HO_5 := n0_; have HO_8 := n1_; have HB := n2_; clear n0_ n1_ n2_; clear hg hw hp_))
                                                    repeat (go_quiet (first | ((with_reducible refine gate_store (t := 4) (p := 77) rfl ?_); (try (rw [drewN_self wc]; generalize hq_ : World.drewN wc _ = wc; have n0_ := Aside0.mk (Kd.R_at hq_ HO_5.out); have n1_ := Aside0.mk (Kd.R_at hq_ HO_8.out); have n2_ := Aside0.mk (below_at hq_ HB.out); clear hq_ HO_5 HO_8 HB; have HO_5 := n0_; have HO_8 := n1_; have HB := n2_; clear n0_ n1_ n2_; (try (have HP69 := Kd.R_putg HO_8.out ((ji48) : Int) true)))); refine store_event (t := 4) (p := 77) (v := ?vo_w70) (w1 := (wc.setCell ⟨go51, ((ji48) : Int).toNat, none⟩ (.bool true))) ?hg ?ho ?hn ?hr ?_; (case ho => rfl); (case hg => rfl); (case hn => rfl); (case hr => first | (go_simp; done) | (go_simp; rfl)); intro w70 hw; have hg : wc.grownBy w70 (some go51) := (by rw [hw]; exact HP69.2); have hp_ : Kd.R Kd.bool 4 w70 w.heap.size (fun k_ => some k_ ≠ (u5 : Value).ownBlock) (.slice (some ⟨go51, 0, none⟩) x8_3.length co51) y338 := (by rw [hw, Ny338.out]; exact HP69.1); clear HP69; have n0_ := Aside0.mk (Kd.R_after (v := (.slice (some ⟨go51, 0, none⟩) x8_3.length co51)) (v1 := (.slice (some ⟨go51, 0, none⟩) x8_3.length co51)) (ok := (fun _ => True)) (by (with_reducible repeat (first | apply Kd.R_alloc | apply Kd.R_drewN | apply Kd.R_drew)); exact Kd.R_mono HO_5.out (fun _ hk => ⟨trivial, hk⟩)) hg (.inl rfl)); have n1_ := Aside0.mk (hp_); have n2_ := Aside0.mk ((by rw [hw]; exact below_set (HB.out) GB51.out : Below w.heap.size w w70)); clear HO_5; clear HO_8; clear HB; have HO_5 := n0_; have HO_8 := n1_; have HB := n2_; clear n0_ n1_ n2_; clear hg hw hp_; have p54 : 0 ≤ (x9_3 : Int) := of_decide_eq_true (by first | (with_reducible assumption) | assumption); have q54 : x9_3 < (a0.size : Int) := of_decide_eq_true (by first | (with_reducible assumption) | assumption); have hx54 := bt_at a0 x9_3; replace p54 := eq_true p54; replace q54 := eq_true q54; obtain ⟨Ao71, co71, eo71⟩ := Kd.R_slice HO_5.out; subst eo71; have p339 : 0 ≤ (x9_3 : Int) := of_decide_eq_true (by first | (with_reducible assumption) | assumption); have q339 : x9_3 < (x5_2.length : Int) := of_decide_eq_true (by first | (with_reducible assumption) | assumption); obtain ⟨ad339, e339, hx339_0⟩ := Kd.at_bool (Kd.R_reads' HO_5.out).2.2 x9_3 p339 q339; (try rw [← Nbq57.out] at hx339_0); (try rw [← Nbq66.out] at hx339_0); cases e339; replace p339 := eq_true p339; replace q339 := eq_true q339; have p341 : 0 ≤ ((ji48) : Int) := of_decide_eq_true (by first | (with_reducible assumption) | assumption); have q341 : (ji48) < (x5_2.length : Int) := of_decide_eq_true (by first | (with_reducible assumption) | assumption); obtain ⟨ad341, e341, hx341_0⟩ := Kd.at_bool (Kd.R_reads' HO_5.out).2.2 (ji48) p341 q341; (try rw [← Nbq57.out] at hx341_0); (try rw [← Nbq66.out] at hx341_0); obtain rfl : ad339 = ad341 := (by injection e341); replace p341 := eq_true p341; replace q341 := eq_true q341; have p68 : 0 ≤ ((ji48) : Int) := of_decide_eq_true (by first | (with_reducible assumption) | assumption); have q68 : ((ji48) : Int) < ((x8_3.length : Int) : Int) := of_decide_eq_true (by first | (with_reducible assumption) | assumption); obtain ⟨hx68_0, hf68_0⟩ := Kd.R_celln false HO_8.out ((ji48) : Int) p68 q68; replace p68 := eq_true p68; replace q68 := eq_true q68; obtain ⟨hy72_, hz72_⟩ := Kd.R_celln false HO_8.out ((ji48) : Int) (of_decide_eq_true (by first | (with_reducible assumption) | assumption)) (of_decide_eq_true (by first | (with_reducible assumption) | assumption)); have HP72 := Kd.R_putg HO_8.out ((ji48) : Int) true) | ((with_reducible refine gate_store (t := 4) (p := 98) rfl ?_); (try (rw [drewN_self w70]; generalize hq_ : World.drewN w70 _ = w70; have n0_ := Aside0.mk (Kd.R_at hq_ HO_5.out); have n1_ := Aside0.mk (Kd.R_at hq_ HO_8.out); have n2_ := Aside0.mk (below_at hq_ HB.out); clear hq_ HO_5 HO_8 HB; have HO_5 := n0_; have HO_8 := n1_; have HB := n2_; clear n0_ n1_ n2_; (try (obtain ⟨hy72_, hz72_⟩ := Kd.R_celln false HO_8.out ((ji48) : Int) (of_decide_eq_true (by first | (with_reducible assumption) | assumption)) (of_decide_eq_true (by first | (with_reducible assumption) | assumption)))); (try (have HP72 := Kd.R_putg HO_8.out ((ji48) : Int) true)))); refine store_event (t := 4) (p := 98) (v := ?vo_w73) (w1 := (w70.setCell ⟨go51, ((ji48) : Int).toNat, none⟩ (.bool true))) ?hg ?ho ?hn ?hr ?_; (case ho => rfl); (case hg => rfl); (case hn => rfl); (case hr => first | (go_simp; done) | (go_simp; rfl)); intro w73 hw; have hg : w70.grownBy w73 (some go51) := (by rw [hw]; exact HP72.2); have hp_ : Kd.R Kd.bool 4 w73 w.heap.size (fun k_ => some k_ ≠ (.slice (some ad339) x5_2.length co71 : Value).ownBlock) (.slice (some ⟨go51, 0, none⟩) x8_3.length co51) y342 := (by rw [hw, Ny342.out]; exact HP72.1); clear HP72; have n0_ := Aside0.mk (Kd.R_after (v := (.slice (some ⟨go51, 0, none⟩) x8_3.length co51)) (v1 := (.slice (some ⟨go51, 0, none⟩) x8_3.length co51)) (ok := (fun _ => True)) (by (with_reducible repeat (first | apply Kd.R_alloc | apply Kd.R_drewN | apply Kd.R_drew)); exact HO_5.out) hg (.inl rfl)); have n1_ := Aside0.mk (hp_); have n2_ := Aside0.mk ((by rw [hw]; exact below_set (HB.out) GB51.out : Below w.heap.size w w73)); clear HO_5; clear HO_8; clear HB; have HO_5 := n0_; have HO_8 := n1_; have HB := n2_; clear n0_ n1_ n2_; clear hg hw hp_)); try go_wp2_with (first | ((with_reducible refine gate_store (t := 4) (p := 77) rfl ?_); (try (rw [drewN_self wc]; generalize hq_ : World.drewN wc _ = wc; have n0_ := Aside0.mk (Kd.R_at hq_ HO_5.out); have n1_ := Aside0.mk (Kd.R_at hq_ HO_8.out); have n2_ := Aside0.mk (below_at hq_ HB.out); clear hq_ HO_5 HO_8 HB; have HO_5 := n0_; have HO_8 := n1_; have HB := n2_; clear n0_ n1_ n2_; (try (have HP69 := Kd.R_putg HO_8.out ((ji48) : Int) true)))); refine store_event (t := 4) (p := 77) (v := ?vo_w70) (w1 := (wc.setCell ⟨go51, ((ji48) : Int).toNat, none⟩ (.bool true))) ?hg ?ho ?hn ?hr ?_; (case ho => rfl); (case hg => rfl); (case hn => rfl); (case hr => first | (go_simp; done) | (go_simp; rfl)); intro w70 hw; have hg : wc.grownBy w70 (some go51) := (by rw [hw]; exact HP69.2); have hp_ : Kd.R Kd.bool 4 w70 w.heap.size (fun k_ => some k_ ≠ (u5 : Value).ownBlock) (.slice (some ⟨go51, 0, none⟩) x8_3.length co51) y338 := (by rw [hw, Ny338.out]; exact HP69.1); clear HP69; have n0_ := Aside0.mk (Kd.R_after (v := (.slice (some ⟨go51, 0, none⟩) x8_3.length co51)) (v1 := (.slice (some ⟨go51, 0, none⟩) x8_3.length co51)) (ok := (fun _ => True)) (by (with_reducible repeat (first | apply Kd.R_alloc | apply Kd.R_drewN | apply Kd.R_drew)); exact Kd.R_mono HO_5.out (fun _ hk => ⟨trivial, hk⟩)) hg (.inl rfl)); have n1_ := Aside0.mk (hp_); have n2_ := Aside0.mk ((by rw [hw]; exact below_set (HB.out) GB51.out : Below w.heap.size w w70)); clear HO_5; clear HO_8; clear HB; have HO_5 := n0_; have HO_8 := n1_; have HB := n2_; clear n0_ n1_ n2_; clear hg hw hp_; have p54 : 0 ≤ (x9_3 : Int) := of_decide_eq_true (by first | (with_reducible assumption) | assumption); have q54 : x9_3 < (a0.size : Int) := of_decide_eq_true (by first | (with_reducible assumption) | assumption); have hx54 := bt_at a0 x9_3; replace p54 := eq_true p54; replace q54 := eq_true q54; obtain ⟨Ao71, co71, eo71⟩ := Kd.R_slice HO_5.out; subst eo71; have p339 : 0 ≤ (x9_3 : Int) := of_decide_eq_true (by first | (with_reducible assumption) | assumption); have q339 : x9_3 < (x5_2.length : Int) := of_decide_eq_true (by first | (with_reducible assumption) | assumption); obtain ⟨ad339, e339, hx339_0⟩ := Kd.at_bool (Kd.R_reads' HO_5.out).2.2 x9_3 p339 q339; (try rw [← Nbq57.out] at hx339_0); (try rw [← Nbq66.out] at hx339_0); cases e339; replace p339 := eq_true p339; replace q339 := eq_true q339; have p341 : 0 ≤ ((ji48) : Int) := of_decide_eq_true (by first | (with_reducible assumption) | assumption); have q341 : (ji48) < (x5_2.length : Int) := of_decide_eq_true (by first | (with_reducible assumption) | assumption); obtain ⟨ad341, e341, hx341_0⟩ := Kd.at_bool (Kd.R_reads' HO_5.out).2.2 (ji48) p341 q341; (try rw [← Nbq57.out] at hx341_0); (try rw [← Nbq66.out] at hx341_0); obtain rfl : ad339 = ad341 := (by injection e341); replace p341 := eq_true p341; replace q341 := eq_true q341; have p68 : 0 ≤ ((ji48) : Int) := of_decide_eq_true (by first | (with_reducible assumption) | assumption); have q68 : ((ji48) : Int) < ((x8_3.length : Int) : Int) := of_decide_eq_true (by first | (with_reducible assumption) | assumption); obtain ⟨hx68_0, hf68_0⟩ := Kd.R_celln false HO_8.out ((ji48) : Int) p68 q68; replace p68 := eq_true p68; replace q68 := eq_true q68; obtain ⟨hy72_, hz72_⟩ := Kd.R_celln false HO_8.out ((ji48) : Int) (of_decide_eq_true (by first | (with_reducible assumption) | assumption)) (of_decide_eq_true (by first | (with_reducible assumption) | assumption)); have HP72 := Kd.R_putg HO_8.out ((ji48) : Int) true) | ((with_reducible refine gate_store (t := 4) (p := 98) rfl ?_); (try (rw [drewN_self w70]; generalize hq_ : World.drewN w70 _ = w70; have n0_ := Aside0.mk (Kd.R_at hq_ HO_5.out); have n1_ := Aside0.mk (Kd.R_at hq_ HO_8.out); have n2_ := Aside0.mk (below_at hq_ HB.out); clear hq_ HO_5 HO_8 HB; have HO_5 := n0_; have HO_8 := n1_; have HB := n2_; clear n0_ n1_ n2_; (try (obtain ⟨hy72_, hz72_⟩ := Kd.R_celln false HO_8.out ((ji48) : Int) (of_decide_eq_true (by first | (with_reducible assumption) | assumption)) (of_decide_eq_true (by first | (with_reducible assumption) | assumption)))); (try (have HP72 := Kd.R_putg HO_8.out ((ji48) : Int) true)))); refine store_event (t := 4) (p := 98) (v := ?vo_w73) (w1 := (w70.setCell ⟨go51, ((ji48) : Int).toNat, none⟩ (.bool true))) ?hg ?ho ?hn ?hr ?_; (case ho => rfl); (case hg => rfl); (case hn => rfl); (case hr => first | (go_simp; done) | (go_simp; rfl)); intro w73 hw; have hg : w70.grownBy w73 (some go51) := (by rw [hw]; exact HP72.2); have hp_ : Kd.R Kd.bool 4 w73 w.heap.size (fun k_ => some k_ ≠ (.slice (some ad339) x5_2.length co71 : Value).ownBlock) (.slice (some ⟨go51, 0, none⟩) x8_3.length co51) y342 := (by rw [hw, Ny342.out]; exact HP72.1); clear HP72; have n0_ := Aside0.mk (Kd.R_after (v := (.slice (some ⟨go51, 0, none⟩) x8_3.length co51)) (v1 := (.slice (some ⟨go51, 0, none⟩) x8_3.length co51)) (ok := (fun _ => True)) (by (with_reducible repeat (first | apply Kd.R_alloc | apply Kd.R_drewN | apply Kd.R_drew)); exact HO_5.out) hg (.inl rfl)); have n1_ := Aside0.mk (hp_); have n2_ := Aside0.mk ((by rw [hw]; exact below_set (HB.out) GB51.out : Below w.heap.size w w73)); clear HO_5; clear HO_8; clear HB; have HO_5 := n0_; have HO_8 := n1_; have HB := n2_; clear n0_ n1_ n2_; clear hg hw hp_)))
                                                    go_roundg kj29
                                                    case measure => have := HJ7.out; have := HK2.out; have := HK3.out; have := HJ29.out; omega
                                                    case rel => exact ⟨(y342), (ji48), (by first | rfl | (simp; done) | (simp only [← hji48] <;> (first | rfl | simp)) | (simp [*]; done)), H', ⟨by have := HJ7.out; have := HK2.out; have := HK3.out; have := HJ29.out; omega⟩, ⟨by (try simp only [hl5_7]); (with_reducible repeat (first | apply Kd.R_alloc | apply Kd.R_drewN | apply Kd.R_drew)); exact Kd.R_mono HO_5.out (fun _ hk => hk.2)⟩, ⟨by (try simp only [hl5_7]); (with_reducible repeat (first | apply Kd.R_alloc | apply Kd.R_drewN | apply Kd.R_drew)); exact HO_8.out⟩, ⟨by repeat (first | (with_reducible first | exact HB.out | apply below_alloc | apply pw_below_drewN | apply below_drew1) | exact HB.out)⟩⟩
                                                  · replace c67 := Bool.eq_false_iff.mpr c67
                                                    subst c67
                                                    have H1 : (signetref18_matches.l2 kj29 a0 a1 x5_2 x7_2 y338 ji48) = some r := by rw [if_neg (show ¬ (false = true) by decide)] at H; exact H
                                                    clear H
                                                    have H := H1
                                                    clear H1
                                                    have H' := Aside0.mk H
                                                    clear H
                                                    have p51 : 0 ≤ ((ji48) : Int) := of_decide_eq_true (by first | (with_reducible assumption) | assumption)
                                                    have q51 : ((ji48) : Int) < ((x8_3.length : Int) : Int) := of_decide_eq_true (by first | (with_reducible assumption) | assumption)
                                                    obtain ⟨go51, co51, eo51, gb51, gl51, cl51, HG51⟩ := Kd.R_form HO_8.out (by omega)
                                                    (first | cases eo51 | (injection eo51 with ea_ en_ ec_; (first | subst ea_ | (injection ea_ with ea_; subst ea_)); subst ec_; clear en_))
                                                    have GB51 := Aside0.mk gb51
                                                    have GG51 := Aside0.mk HG51
                                                    clear gb51 gl51 HG51
                                                    obtain ⟨hx51_0, hf51_0⟩ := Kd.R_celln false HO_8.out ((ji48) : Int) p51 q51
                                                    replace p51 := eq_true p51
                                                    replace q51 := eq_true q51
                                                    have HP74 := Kd.R_putg HO_8.out ((ji48) : Int) true
                                                    go_wp2_with (first | ((with_reducible refine gate_store (t := 4) (p := 77) rfl ?_); (try (rw [drewN_self wc]; generalize hq_ : World.drewN wc _ = wc; have n0_ := Aside0.mk (Kd.R_at hq_ HO_5.out); have n1_ := Aside0.mk (Kd.R_at hq_ HO_8.out); have n2_ := Aside0.mk (below_at hq_ HB.out); clear hq_ HO_5 HO_8 HB; have HO_5 := n0_; have HO_8 := n1_; have HB := n2_; clear n0_ n1_ n2_; (try (have HP74 := Kd.R_putg HO_8.out ((ji48) : Int) true)))); refine store_event (t := 4) (p := 77) (v := ?vo_w75) (w1 := (wc.setCell ⟨go51, ((ji48) : Int).toNat, none⟩ (.bool true))) ?hg ?ho ?hn ?hr ?_; (case ho => rfl); (case hg => rfl); (case hn => rfl); (case hr => first | (go_simp; done) | (go_simp; rfl)); intro w75 hw; have hg : wc.grownBy w75 (some go51) := (by rw [hw]; exact HP74.2); have hp_ : Kd.R Kd.bool 4 w75 w.heap.size (fun k_ => some k_ ≠ (u5 : Value).ownBlock) (.slice (some ⟨go51, 0, none⟩) x8_3.length co51) y338 := (by rw [hw, Ny338.out]; exact HP74.1); clear HP74; have n0_ := Aside0.mk (Kd.R_after (v := (.slice (some ⟨go51, 0, none⟩) x8_3.length co51)) (v1 := (.slice (some ⟨go51, 0, none⟩) x8_3.length co51)) (ok := (fun _ => True)) (by (with_reducible repeat (first | apply Kd.R_alloc | apply Kd.R_drewN | apply Kd.R_drew)); exact Kd.R_mono HO_5.out (fun _ hk => ⟨trivial, hk⟩)) hg (.inl rfl)); have n1_ := Aside0.mk (hp_); have n2_ := Aside0.mk ((by rw [hw]; exact below_set (HB.out) GB51.out : Below w.heap.size w w75)); clear HO_5; clear HO_8; clear HB; have HO_5 := n0_; have HO_8 := n1_; have HB := n2_; clear n0_ n1_ n2_; clear hg hw hp_; have p54 : 0 ≤ (x9_3 : Int) := of_decide_eq_true (by first | (with_reducible assumption) | assumption); have q54 : x9_3 < (a0.size : Int) := of_decide_eq_true (by first | (with_reducible assumption) | assumption); have hx54 := bt_at a0 x9_3; replace p54 := eq_true p54; replace q54 := eq_true q54; obtain ⟨Ao76, co76, eo76⟩ := Kd.R_slice HO_5.out; subst eo76; have p339 : 0 ≤ (x9_3 : Int) := of_decide_eq_true (by first | (with_reducible assumption) | assumption); have q339 : x9_3 < (x5_2.length : Int) := of_decide_eq_true (by first | (with_reducible assumption) | assumption); obtain ⟨ad339, e339, hx339_0⟩ := Kd.at_bool (Kd.R_reads' HO_5.out).2.2 x9_3 p339 q339; (try rw [← Nbq57.out] at hx339_0); (try rw [← Nbq66.out] at hx339_0); cases e339; replace p339 := eq_true p339; replace q339 := eq_true q339; have p341 : 0 ≤ ((ji48) : Int) := of_decide_eq_true (by first | (with_reducible assumption) | assumption); have q341 : (ji48) < (x5_2.length : Int) := of_decide_eq_true (by first | (with_reducible assumption) | assumption); obtain ⟨ad341, e341, hx341_0⟩ := Kd.at_bool (Kd.R_reads' HO_5.out).2.2 (ji48) p341 q341; (try rw [← Nbq57.out] at hx341_0); (try rw [← Nbq66.out] at hx341_0); obtain rfl : ad339 = ad341 := (by injection e341); replace p341 := eq_true p341; replace q341 := eq_true q341))
                                                    repeat (go_quiet (first | ((with_reducible refine gate_store (t := 4) (p := 77) rfl ?_); (try (rw [drewN_self wc]; generalize hq_ : World.drewN wc _ = wc; have n0_ := Aside0.mk (Kd.R_at hq_ HO_5.out); have n1_ := Aside0.mk (Kd.R_at hq_ HO_8.out); have n2_ := Aside0.mk (below_at hq_ HB.out); clear hq_ HO_5 HO_8 HB; have HO_5 := n0_; have HO_8 := n1_; have HB := n2_; clear n0_ n1_ n2_; (try (have HP74 := Kd.R_putg HO_8.out ((ji48) : Int) true)))); refine store_event (t := 4) (p := 77) (v := ?vo_w75) (w1 := (wc.setCell ⟨go51, ((ji48) : Int).toNat, none⟩ (.bool true))) ?hg ?ho ?hn ?hr ?_; (case ho => rfl); (case hg => rfl); (case hn => rfl); (case hr => first | (go_simp; done) | (go_simp; rfl)); intro w75 hw; have hg : wc.grownBy w75 (some go51) := (by rw [hw]; exact HP74.2); have hp_ : Kd.R Kd.bool 4 w75 w.heap.size (fun k_ => some k_ ≠ (u5 : Value).ownBlock) (.slice (some ⟨go51, 0, none⟩) x8_3.length co51) y338 := (by rw [hw, Ny338.out]; exact HP74.1); clear HP74; have n0_ := Aside0.mk (Kd.R_after (v := (.slice (some ⟨go51, 0, none⟩) x8_3.length co51)) (v1 := (.slice (some ⟨go51, 0, none⟩) x8_3.length co51)) (ok := (fun _ => True)) (by (with_reducible repeat (first | apply Kd.R_alloc | apply Kd.R_drewN | apply Kd.R_drew)); exact Kd.R_mono HO_5.out (fun _ hk => ⟨trivial, hk⟩)) hg (.inl rfl)); have n1_ := Aside0.mk (hp_); have n2_ := Aside0.mk ((by rw [hw]; exact below_set (HB.out) GB51.out : Below w.heap.size w w75)); clear HO_5; clear HO_8; clear HB; have HO_5 := n0_; have HO_8 := n1_; have HB := n2_; clear n0_ n1_ n2_; clear hg hw hp_; have p54 : 0 ≤ (x9_3 : Int) := of_decide_eq_true (by first | (with_reducible assumption) | assumption); have q54 : x9_3 < (a0.size : Int) := of_decide_eq_true (by first | (with_reducible assumption) | assumption); have hx54 := bt_at a0 x9_3; replace p54 := eq_true p54; replace q54 := eq_true q54; obtain ⟨Ao76, co76, eo76⟩ := Kd.R_slice HO_5.out; subst eo76; have p339 : 0 ≤ (x9_3 : Int) := of_decide_eq_true (by first | (with_reducible assumption) | assumption); have q339 : x9_3 < (x5_2.length : Int) := of_decide_eq_true (by first | (with_reducible assumption) | assumption); obtain ⟨ad339, e339, hx339_0⟩ := Kd.at_bool (Kd.R_reads' HO_5.out).2.2 x9_3 p339 q339; (try rw [← Nbq57.out] at hx339_0); (try rw [← Nbq66.out] at hx339_0); cases e339; replace p339 := eq_true p339; replace q339 := eq_true q339; have p341 : 0 ≤ ((ji48) : Int) := of_decide_eq_true (by first | (with_reducible assumption) | assumption); have q341 : (ji48) < (x5_2.length : Int) := of_decide_eq_true (by first | (with_reducible assumption) | assumption); obtain ⟨ad341, e341, hx341_0⟩ := Kd.at_bool (Kd.R_reads' HO_5.out).2.2 (ji48) p341 q341; (try rw [← Nbq57.out] at hx341_0); (try rw [← Nbq66.out] at hx341_0); obtain rfl : ad339 = ad341 := (by injection e341); replace p341 := eq_true p341; replace q341 := eq_true q341)); try go_wp2_with (first | ((with_reducible refine gate_store (t := 4) (p := 77) rfl ?_); (try (rw [drewN_self wc]; generalize hq_ : World.drewN wc _ = wc; have n0_ := Aside0.mk (Kd.R_at hq_ HO_5.out); have n1_ := Aside0.mk (Kd.R_at hq_ HO_8.out); have n2_ := Aside0.mk (below_at hq_ HB.out); clear hq_ HO_5 HO_8 HB; have HO_5 := n0_; have HO_8 := n1_; have HB := n2_; clear n0_ n1_ n2_; (try (have HP74 := Kd.R_putg HO_8.out ((ji48) : Int) true)))); refine store_event (t := 4) (p := 77) (v := ?vo_w75) (w1 := (wc.setCell ⟨go51, ((ji48) : Int).toNat, none⟩ (.bool true))) ?hg ?ho ?hn ?hr ?_; (case ho => rfl); (case hg => rfl); (case hn => rfl); (case hr => first | (go_simp; done) | (go_simp; rfl)); intro w75 hw; have hg : wc.grownBy w75 (some go51) := (by rw [hw]; exact HP74.2); have hp_ : Kd.R Kd.bool 4 w75 w.heap.size (fun k_ => some k_ ≠ (u5 : Value).ownBlock) (.slice (some ⟨go51, 0, none⟩) x8_3.length co51) y338 := (by rw [hw, Ny338.out]; exact HP74.1); clear HP74; have n0_ := Aside0.mk (Kd.R_after (v := (.slice (some ⟨go51, 0, none⟩) x8_3.length co51)) (v1 := (.slice (some ⟨go51, 0, none⟩) x8_3.length co51)) (ok := (fun _ => True)) (by (with_reducible repeat (first | apply Kd.R_alloc | apply Kd.R_drewN | apply Kd.R_drew)); exact Kd.R_mono HO_5.out (fun _ hk => ⟨trivial, hk⟩)) hg (.inl rfl)); have n1_ := Aside0.mk (hp_); have n2_ := Aside0.mk ((by rw [hw]; exact below_set (HB.out) GB51.out : Below w.heap.size w w75)); clear HO_5; clear HO_8; clear HB; have HO_5 := n0_; have HO_8 := n1_; have HB := n2_; clear n0_ n1_ n2_; clear hg hw hp_; have p54 : 0 ≤ (x9_3 : Int) := of_decide_eq_true (by first | (with_reducible assumption) | assumption); have q54 : x9_3 < (a0.size : Int) := of_decide_eq_true (by first | (with_reducible assumption) | assumption); have hx54 := bt_at a0 x9_3; replace p54 := eq_true p54; replace q54 := eq_true q54; obtain ⟨Ao76, co76, eo76⟩ := Kd.R_slice HO_5.out; subst eo76; have p339 : 0 ≤ (x9_3 : Int) := of_decide_eq_true (by first | (with_reducible assumption) | assumption); have q339 : x9_3 < (x5_2.length : Int) := of_decide_eq_true (by first | (with_reducible assumption) | assumption); obtain ⟨ad339, e339, hx339_0⟩ := Kd.at_bool (Kd.R_reads' HO_5.out).2.2 x9_3 p339 q339; (try rw [← Nbq57.out] at hx339_0); (try rw [← Nbq66.out] at hx339_0); cases e339; replace p339 := eq_true p339; replace q339 := eq_true q339; have p341 : 0 ≤ ((ji48) : Int) := of_decide_eq_true (by first | (with_reducible assumption) | assumption); have q341 : (ji48) < (x5_2.length : Int) := of_decide_eq_true (by first | (with_reducible assumption) | assumption); obtain ⟨ad341, e341, hx341_0⟩ := Kd.at_bool (Kd.R_reads' HO_5.out).2.2 (ji48) p341 q341; (try rw [← Nbq57.out] at hx341_0); (try rw [← Nbq66.out] at hx341_0); obtain rfl : ad339 = ad341 := (by injection e341); replace p341 := eq_true p341; replace q341 := eq_true q341)))
                                                    go_roundg kj29
                                                    case measure => have := HJ7.out; have := HK2.out; have := HK3.out; have := HJ29.out; omega
                                                    case rel => exact ⟨(y338), (ji48), (by first | rfl | (simp; done) | (simp only [← hji48] <;> (first | rfl | simp)) | (simp [*]; done)), H', ⟨by have := HJ7.out; have := HK2.out; have := HK3.out; have := HJ29.out; omega⟩, ⟨by (try simp only [hl5_7]); (with_reducible repeat (first | apply Kd.R_alloc | apply Kd.R_drewN | apply Kd.R_drew)); exact Kd.R_mono HO_5.out (fun _ hk => hk.2)⟩, ⟨by (try simp only [hl5_7]); (with_reducible repeat (first | apply Kd.R_alloc | apply Kd.R_drewN | apply Kd.R_drew)); exact HO_8.out⟩, ⟨by repeat (first | (with_reducible first | exact HB.out | apply below_alloc | apply pw_below_drewN | apply below_drew1) | exact HB.out)⟩⟩
                                                · rw [if_neg c65] at H
                                                  exact absurd H (by simp)
                                            · rw [if_neg c56] at H
                                              exact absurd H (by simp)
                                          · rw [if_neg c55] at H
                                            have c55b0 : ((bt a0 x9_3) == 42) = false := beq_eq_false_iff_ne.mpr c55
                                            have c55b1 : ((bt a0 x9_3) != 42) = true := bne_iff_ne.mpr c55
                                            have H' := Aside0.mk H
                                            clear H
                                            have p51 : 0 ≤ ((ji48) : Int) := of_decide_eq_true (by first | (with_reducible assumption) | assumption)
                                            have q51 : ((ji48) : Int) < ((x8_3.length : Int) : Int) := of_decide_eq_true (by first | (with_reducible assumption) | assumption)
                                            obtain ⟨go51, co51, eo51, gb51, gl51, cl51, HG51⟩ := Kd.R_form HO_8.out (by omega)
                                            (first | cases eo51 | (injection eo51 with ea_ en_ ec_; (first | subst ea_ | (injection ea_ with ea_; subst ea_)); subst ec_; clear en_))
                                            have GB51 := Aside0.mk gb51
                                            have GG51 := Aside0.mk HG51
                                            clear gb51 gl51 HG51
                                            obtain ⟨hx51_0, hf51_0⟩ := Kd.R_celln false HO_8.out ((ji48) : Int) p51 q51
                                            replace p51 := eq_true p51
                                            replace q51 := eq_true q51
                                            have HP77 := Kd.R_putg HO_8.out ((ji48) : Int) true
                                            go_wp2_with (first | ((with_reducible refine gate_store (t := 4) (p := 77) rfl ?_); (try (rw [drewN_self wc]; generalize hq_ : World.drewN wc _ = wc; have n0_ := Aside0.mk (Kd.R_at hq_ HO_5.out); have n1_ := Aside0.mk (Kd.R_at hq_ HO_8.out); have n2_ := Aside0.mk (below_at hq_ HB.out); clear hq_ HO_5 HO_8 HB; have HO_5 := n0_; have HO_8 := n1_; have HB := n2_; clear n0_ n1_ n2_; (try (have HP77 := Kd.R_putg HO_8.out ((ji48) : Int) true)))); refine store_event (t := 4) (p := 77) (v := ?vo_w78) (w1 := (wc.setCell ⟨go51, ((ji48) : Int).toNat, none⟩ (.bool true))) ?hg ?ho ?hn ?hr ?_; (case ho => rfl); (case hg => rfl); (case hn => rfl); (case hr => first | (go_simp; done) | (go_simp; rfl)); intro w78 hw; have hg : wc.grownBy w78 (some go51) := (by rw [hw]; exact HP77.2); have hp_ : Kd.R Kd.bool 4 w78 w.heap.size (fun k_ => some k_ ≠ (u5 : Value).ownBlock) (.slice (some ⟨go51, 0, none⟩) x8_3.length co51) y338 := (by rw [hw, Ny338.out]; exact HP77.1); clear HP77; have n0_ := Aside0.mk (Kd.R_after (v := (.slice (some ⟨go51, 0, none⟩) x8_3.length co51)) (v1 := (.slice (some ⟨go51, 0, none⟩) x8_3.length co51)) (ok := (fun _ => True)) (by (with_reducible repeat (first | apply Kd.R_alloc | apply Kd.R_drewN | apply Kd.R_drew)); exact Kd.R_mono HO_5.out (fun _ hk => ⟨trivial, hk⟩)) hg (.inl rfl)); have n1_ := Aside0.mk (hp_); have n2_ := Aside0.mk ((by rw [hw]; exact below_set (HB.out) GB51.out : Below w.heap.size w w78)); clear HO_5; clear HO_8; clear HB; have HO_5 := n0_; have HO_8 := n1_; have HB := n2_; clear n0_ n1_ n2_; clear hg hw hp_; have p54 : 0 ≤ (x9_3 : Int) := of_decide_eq_true (by first | (with_reducible assumption) | assumption); have q54 : x9_3 < (a0.size : Int) := of_decide_eq_true (by first | (with_reducible assumption) | assumption); have hx54 := bt_at a0 x9_3; replace p54 := eq_true p54; replace q54 := eq_true q54))
                                            repeat (go_quiet (first | ((with_reducible refine gate_store (t := 4) (p := 77) rfl ?_); (try (rw [drewN_self wc]; generalize hq_ : World.drewN wc _ = wc; have n0_ := Aside0.mk (Kd.R_at hq_ HO_5.out); have n1_ := Aside0.mk (Kd.R_at hq_ HO_8.out); have n2_ := Aside0.mk (below_at hq_ HB.out); clear hq_ HO_5 HO_8 HB; have HO_5 := n0_; have HO_8 := n1_; have HB := n2_; clear n0_ n1_ n2_; (try (have HP77 := Kd.R_putg HO_8.out ((ji48) : Int) true)))); refine store_event (t := 4) (p := 77) (v := ?vo_w78) (w1 := (wc.setCell ⟨go51, ((ji48) : Int).toNat, none⟩ (.bool true))) ?hg ?ho ?hn ?hr ?_; (case ho => rfl); (case hg => rfl); (case hn => rfl); (case hr => first | (go_simp; done) | (go_simp; rfl)); intro w78 hw; have hg : wc.grownBy w78 (some go51) := (by rw [hw]; exact HP77.2); have hp_ : Kd.R Kd.bool 4 w78 w.heap.size (fun k_ => some k_ ≠ (u5 : Value).ownBlock) (.slice (some ⟨go51, 0, none⟩) x8_3.length co51) y338 := (by rw [hw, Ny338.out]; exact HP77.1); clear HP77; have n0_ := Aside0.mk (Kd.R_after (v := (.slice (some ⟨go51, 0, none⟩) x8_3.length co51)) (v1 := (.slice (some ⟨go51, 0, none⟩) x8_3.length co51)) (ok := (fun _ => True)) (by (with_reducible repeat (first | apply Kd.R_alloc | apply Kd.R_drewN | apply Kd.R_drew)); exact Kd.R_mono HO_5.out (fun _ hk => ⟨trivial, hk⟩)) hg (.inl rfl)); have n1_ := Aside0.mk (hp_); have n2_ := Aside0.mk ((by rw [hw]; exact below_set (HB.out) GB51.out : Below w.heap.size w w78)); clear HO_5; clear HO_8; clear HB; have HO_5 := n0_; have HO_8 := n1_; have HB := n2_; clear n0_ n1_ n2_; clear hg hw hp_; have p54 : 0 ≤ (x9_3 : Int) := of_decide_eq_true (by first | (with_reducible assumption) | assumption); have q54 : x9_3 < (a0.size : Int) := of_decide_eq_true (by first | (with_reducible assumption) | assumption); have hx54 := bt_at a0 x9_3; replace p54 := eq_true p54; replace q54 := eq_true q54)); try go_wp2_with (first | ((with_reducible refine gate_store (t := 4) (p := 77) rfl ?_); (try (rw [drewN_self wc]; generalize hq_ : World.drewN wc _ = wc; have n0_ := Aside0.mk (Kd.R_at hq_ HO_5.out); have n1_ := Aside0.mk (Kd.R_at hq_ HO_8.out); have n2_ := Aside0.mk (below_at hq_ HB.out); clear hq_ HO_5 HO_8 HB; have HO_5 := n0_; have HO_8 := n1_; have HB := n2_; clear n0_ n1_ n2_; (try (have HP77 := Kd.R_putg HO_8.out ((ji48) : Int) true)))); refine store_event (t := 4) (p := 77) (v := ?vo_w78) (w1 := (wc.setCell ⟨go51, ((ji48) : Int).toNat, none⟩ (.bool true))) ?hg ?ho ?hn ?hr ?_; (case ho => rfl); (case hg => rfl); (case hn => rfl); (case hr => first | (go_simp; done) | (go_simp; rfl)); intro w78 hw; have hg : wc.grownBy w78 (some go51) := (by rw [hw]; exact HP77.2); have hp_ : Kd.R Kd.bool 4 w78 w.heap.size (fun k_ => some k_ ≠ (u5 : Value).ownBlock) (.slice (some ⟨go51, 0, none⟩) x8_3.length co51) y338 := (by rw [hw, Ny338.out]; exact HP77.1); clear HP77; have n0_ := Aside0.mk (Kd.R_after (v := (.slice (some ⟨go51, 0, none⟩) x8_3.length co51)) (v1 := (.slice (some ⟨go51, 0, none⟩) x8_3.length co51)) (ok := (fun _ => True)) (by (with_reducible repeat (first | apply Kd.R_alloc | apply Kd.R_drewN | apply Kd.R_drew)); exact Kd.R_mono HO_5.out (fun _ hk => ⟨trivial, hk⟩)) hg (.inl rfl)); have n1_ := Aside0.mk (hp_); have n2_ := Aside0.mk ((by rw [hw]; exact below_set (HB.out) GB51.out : Below w.heap.size w w78)); clear HO_5; clear HO_8; clear HB; have HO_5 := n0_; have HO_8 := n1_; have HB := n2_; clear n0_ n1_ n2_; clear hg hw hp_; have p54 : 0 ≤ (x9_3 : Int) := of_decide_eq_true (by first | (with_reducible assumption) | assumption); have q54 : x9_3 < (a0.size : Int) := of_decide_eq_true (by first | (with_reducible assumption) | assumption); have hx54 := bt_at a0 x9_3; replace p54 := eq_true p54; replace q54 := eq_true q54)))
                                            go_roundg kj29
                                            case measure => have := HJ7.out; have := HK2.out; have := HK3.out; have := HJ29.out; omega
                                            case rel => exact ⟨(y338), (ji48), (by first | rfl | (simp; done) | (simp only [← hji48] <;> (first | rfl | simp)) | (simp [*]; done)), H', ⟨by have := HJ7.out; have := HK2.out; have := HK3.out; have := HJ29.out; omega⟩, ⟨by (try simp only [hl5_7]); (with_reducible repeat (first | apply Kd.R_alloc | apply Kd.R_drewN | apply Kd.R_drew)); exact Kd.R_mono HO_5.out (fun _ hk => hk.2)⟩, ⟨by (try simp only [hl5_7]); (with_reducible repeat (first | apply Kd.R_alloc | apply Kd.R_drewN | apply Kd.R_drew)); exact HO_8.out⟩, ⟨by repeat (first | (with_reducible first | exact HB.out | apply below_alloc | apply pw_below_drewN | apply below_drew1) | exact HB.out)⟩⟩
                                        · rw [if_neg c53] at H
                                          exact absurd H (by simp)
                                      · rw [if_neg c52] at H
                                        exact absurd H (by simp)
                                    · rw [if_neg c50] at H
                                      exact absurd H (by simp)
                                  · rw [if_neg c49] at H
                                    exact absurd H (by simp)
                                · replace c47 := Bool.eq_false_iff.mpr c47
                                  subst c47
                                  have H1 : (if 0 ≤ x9_3 then (if x9_3 < (a0.size : Int) then (if (bt a0 x9_3) = 42 then (if x9_3 < (x5_2.length : Int) then (if rdOf false x5_2 x9_3 = true then (if 0 ≤ (wrap64 (x9_3 + 1)) then (if (wrap64 (x9_3 + 1)) < (x8_3.length : Int) then (signetref18_matches.l2 kj29 a0 a1 x5_2 x7_2 (x8_3.set ((wrap64 (x9_3 + 1)) : Int).toNat true) (wrap64 (x9_3 + 1))) else (none)) else (none)) else (if 0 ≤ (wrap64 (x9_3 + 1)) then (if (wrap64 (x9_3 + 1)) < (x5_2.length : Int) then (if rdOf false x5_2 (wrap64 (x9_3 + 1)) = true then (if (wrap64 (x9_3 + 1)) < (x8_3.length : Int) then (signetref18_matches.l2 kj29 a0 a1 x5_2 x7_2 (x8_3.set ((wrap64 (x9_3 + 1)) : Int).toNat true) (wrap64 (x9_3 + 1))) else (none)) else (signetref18_matches.l2 kj29 a0 a1 x5_2 x7_2 x8_3 (wrap64 (x9_3 + 1)))) else (none)) else (none))) else (none)) else (signetref18_matches.l2 kj29 a0 a1 x5_2 x7_2 x8_3 (wrap64 (x9_3 + 1)))) else (none)) else (none)) = some r := by rw [if_neg (show ¬ (false = true) by decide)] at H; exact H
                                  clear H
                                  have H := H1
                                  clear H1
                                  by_cases c79 : 0 ≤ x9_3
                                  · rw [if_pos c79] at H
                                    have c79b0 : decide (0 ≤ x9_3) = true := decide_eq_true c79
                                    clear c79
                                    by_cases c80 : x9_3 < (a0.size : Int)
                                    · rw [if_pos c80] at H
                                      have c80b0 : decide (x9_3 < (a0.size : Int)) = true := decide_eq_true c80
                                      clear c80
                                      by_cases c82 : (bt a0 x9_3) = 42
                                      · rw [if_pos c82] at H
                                        have c82b0 : ((bt a0 x9_3) == 42) = true := beq_iff_eq.mpr c82
                                        have c82b1 : ((bt a0 x9_3) != 42) = false := bne_eq_false_iff_eq.mpr c82
                                        clear c82
                                        by_cases c83 : x9_3 < (x5_2.length : Int)
                                        · rw [if_pos c83] at H
                                          have c83b0 : decide (x9_3 < (x5_2.length : Int)) = true := decide_eq_true c83
                                          clear c83
                                          obtain ⟨bq84, hbq84⟩ : ∃ b_ : Bool, b_ = (rdOf false x5_2 x9_3) := ⟨_, rfl⟩
                                          replace H : (if bq84 = true then (if 0 ≤ (wrap64 (x9_3 + 1)) then (if (wrap64 (x9_3 + 1)) < (x8_3.length : Int) then (signetref18_matches.l2 kj29 a0 a1 x5_2 x7_2 (x8_3.set ((wrap64 (x9_3 + 1)) : Int).toNat true) (wrap64 (x9_3 + 1))) else (none)) else (none)) else (if 0 ≤ (wrap64 (x9_3 + 1)) then (if (wrap64 (x9_3 + 1)) < (x5_2.length : Int) then (if rdOf false x5_2 (wrap64 (x9_3 + 1)) = true then (if (wrap64 (x9_3 + 1)) < (x8_3.length : Int) then (signetref18_matches.l2 kj29 a0 a1 x5_2 x7_2 (x8_3.set ((wrap64 (x9_3 + 1)) : Int).toNat true) (wrap64 (x9_3 + 1))) else (none)) else (signetref18_matches.l2 kj29 a0 a1 x5_2 x7_2 x8_3 (wrap64 (x9_3 + 1)))) else (none)) else (none))) = some r := by rw [← hbq84] at H; exact H
                                          have Nbq84 := Aside0.mk hbq84
                                          clear hbq84
                                          by_cases c85 : bq84 = true
                                          · subst c85
                                            have H1 : (if 0 ≤ (wrap64 (x9_3 + 1)) then (if (wrap64 (x9_3 + 1)) < (x8_3.length : Int) then (signetref18_matches.l2 kj29 a0 a1 x5_2 x7_2 (x8_3.set ((wrap64 (x9_3 + 1)) : Int).toNat true) (wrap64 (x9_3 + 1))) else (none)) else (none)) = some r := by rw [if_pos rfl] at H; exact H
                                            clear H
                                            have H := H1
                                            clear H1
                                            obtain ⟨ji86, hji86⟩ : ∃ j_ : Int, (wrap64 (x9_3 + 1)) = j_ := ⟨_, rfl⟩
                                            replace H : (if 0 ≤ (ji86) then (if (ji86) < (x8_3.length : Int) then (signetref18_matches.l2 kj29 a0 a1 x5_2 x7_2 (x8_3.set ((ji86) : Int).toNat true) ji86) else (none)) else (none)) = some r := by first | (rw [hji86] at H; exact H) | (simp only [hji86] at H ⊢; exact H)
                                            have hji86w : (IntKind.i64.wrap (x9_3 + 1)) = ji86 := (i64_w _).trans hji86
                                            by_cases c87 : 0 ≤ (ji86)
                                            · rw [if_pos c87] at H
                                              have c87b0 : decide (0 ≤ (ji86)) = true := decide_eq_true c87
                                              clear c87
                                              by_cases c88 : (ji86) < (x8_3.length : Int)
                                              · rw [if_pos c88] at H
                                                have c88b0 : decide ((ji86) < (x8_3.length : Int)) = true := decide_eq_true c88
                                                clear c88
                                                obtain ⟨y344, hy344⟩ : ∃ y_ : List Bool, y_ = (x8_3.set ((ji86) : Int).toNat true) := ⟨_, rfl⟩
                                                replace H : (signetref18_matches.l2 kj29 a0 a1 x5_2 x7_2 y344 ji86) = some r := by first | (rw [hy344]; with_reducible exact H) | (have H2_ := (Option.bind_some _ _).symm.trans H; rw [hy344]; with_reducible exact H2_) | (have H2_ := (Option.bind_some _ _).symm.trans H; with_reducible exact H2_) | with_reducible exact H | (rw [hy344]; exact H) | exact H
                                                have Ny344 := Aside0.mk hy344
                                                clear hy344
                                                have H' := Aside0.mk H
                                                clear H
                                                have p81 : 0 ≤ (x9_3 : Int) := of_decide_eq_true (by first | (with_reducible assumption) | assumption)
                                                have q81 : x9_3 < (a0.size : Int) := of_decide_eq_true (by first | (with_reducible assumption) | assumption)
                                                have hx81 := bt_at a0 x9_3
                                                replace p81 := eq_true p81
                                                replace q81 := eq_true q81
                                                obtain ⟨Ao90, co90, eo90⟩ := Kd.R_slice HO_5.out
                                                subst eo90
                                                have p343 : 0 ≤ (x9_3 : Int) := of_decide_eq_true (by first | (with_reducible assumption) | assumption)
                                                have q343 : x9_3 < (x5_2.length : Int) := of_decide_eq_true (by first | (with_reducible assumption) | assumption)
                                                obtain ⟨ad343, e343, hx343_0⟩ := Kd.at_bool (Kd.R_reads' HO_5.out).2.2 x9_3 p343 q343
                                                (try rw [← Nbq84.out] at hx343_0)
                                                cases e343
                                                replace p343 := eq_true p343
                                                replace q343 := eq_true q343
                                                have p89 : 0 ≤ ((ji86) : Int) := of_decide_eq_true (by first | (with_reducible assumption) | assumption)
                                                have q89 : ((ji86) : Int) < ((x8_3.length : Int) : Int) := of_decide_eq_true (by first | (with_reducible assumption) | assumption)
                                                obtain ⟨go89, co89, eo89, gb89, gl89, cl89, HG89⟩ := Kd.R_form HO_8.out (by omega)
                                                (first | cases eo89 | (injection eo89 with ea_ en_ ec_; (first | subst ea_ | (injection ea_ with ea_; subst ea_)); subst ec_; clear en_))
                                                have GB89 := Aside0.mk gb89
                                                have GG89 := Aside0.mk HG89
                                                clear gb89 gl89 HG89
                                                obtain ⟨hx89_0, hf89_0⟩ := Kd.R_celln false HO_8.out ((ji86) : Int) p89 q89
                                                replace p89 := eq_true p89
                                                replace q89 := eq_true q89
                                                have HP91 := Kd.R_putg HO_8.out ((ji86) : Int) true
                                                go_wp2_with (first | ((with_reducible refine gate_store (t := 4) (p := 98) rfl ?_); (try (rw [drewN_self wc]; generalize hq_ : World.drewN wc _ = wc; have n0_ := Aside0.mk (Kd.R_at hq_ HO_5.out); have n1_ := Aside0.mk (Kd.R_at hq_ HO_8.out); have n2_ := Aside0.mk (below_at hq_ HB.out); clear hq_ HO_5 HO_8 HB; have HO_5 := n0_; have HO_8 := n1_; have HB := n2_; clear n0_ n1_ n2_; (try (have HP91 := Kd.R_putg HO_8.out ((ji86) : Int) true)))); refine store_event (t := 4) (p := 98) (v := ?vo_w92) (w1 := (wc.setCell ⟨go89, ((ji86) : Int).toNat, none⟩ (.bool true))) ?hg ?ho ?hn ?hr ?_; (case ho => rfl); (case hg => rfl); (case hn => rfl); (case hr => first | (go_simp; done) | (go_simp; rfl)); intro w92 hw; have hg : wc.grownBy w92 (some go89) := (by rw [hw]; exact HP91.2); have hp_ : Kd.R Kd.bool 4 w92 w.heap.size (fun k_ => some k_ ≠ (.slice (some ad343) x5_2.length co90 : Value).ownBlock) (.slice (some ⟨go89, 0, none⟩) x8_3.length co89) y344 := (by rw [hw, Ny344.out]; exact HP91.1); clear HP91; have n0_ := Aside0.mk (Kd.R_after (v := (.slice (some ⟨go89, 0, none⟩) x8_3.length co89)) (v1 := (.slice (some ⟨go89, 0, none⟩) x8_3.length co89)) (ok := (fun _ => True)) (by (with_reducible repeat (first | apply Kd.R_alloc | apply Kd.R_drewN | apply Kd.R_drew)); exact Kd.R_mono HO_5.out (fun _ hk => ⟨trivial, hk⟩)) hg (.inl rfl)); have n1_ := Aside0.mk (hp_); have n2_ := Aside0.mk ((by rw [hw]; exact below_set (HB.out) GB89.out : Below w.heap.size w w92)); clear HO_5; clear HO_8; clear HB; have HO_5 := n0_; have HO_8 := n1_; have HB := n2_; clear n0_ n1_ n2_; clear hg hw hp_))
                                                repeat (go_quiet (first | ((with_reducible refine gate_store (t := 4) (p := 98) rfl ?_); (try (rw [drewN_self wc]; generalize hq_ : World.drewN wc _ = wc; have n0_ := Aside0.mk (Kd.R_at hq_ HO_5.out); have n1_ := Aside0.mk (Kd.R_at hq_ HO_8.out); have n2_ := Aside0.mk (below_at hq_ HB.out); clear hq_ HO_5 HO_8 HB; have HO_5 := n0_; have HO_8 := n1_; have HB := n2_; clear n0_ n1_ n2_; (try (have HP91 := Kd.R_putg HO_8.out ((ji86) : Int) true)))); refine store_event (t := 4) (p := 98) (v := ?vo_w92) (w1 := (wc.setCell ⟨go89, ((ji86) : Int).toNat, none⟩ (.bool true))) ?hg ?ho ?hn ?hr ?_; (case ho => rfl); (case hg => rfl); (case hn => rfl); (case hr => first | (go_simp; done) | (go_simp; rfl)); intro w92 hw; have hg : wc.grownBy w92 (some go89) := (by rw [hw]; exact HP91.2); have hp_ : Kd.R Kd.bool 4 w92 w.heap.size (fun k_ => some k_ ≠ (.slice (some ad343) x5_2.length co90 : Value).ownBlock) (.slice (some ⟨go89, 0, none⟩) x8_3.length co89) y344 := (by rw [hw, Ny344.out]; exact HP91.1); clear HP91; have n0_ := Aside0.mk (Kd.R_after (v := (.slice (some ⟨go89, 0, none⟩) x8_3.length co89)) (v1 := (.slice (some ⟨go89, 0, none⟩) x8_3.length co89)) (ok := (fun _ => True)) (by (with_reducible repeat (first | apply Kd.R_alloc | apply Kd.R_drewN | apply Kd.R_drew)); exact Kd.R_mono HO_5.out (fun _ hk => ⟨trivial, hk⟩)) hg (.inl rfl)); have n1_ := Aside0.mk (hp_); have n2_ := Aside0.mk ((by rw [hw]; exact below_set (HB.out) GB89.out : Below w.heap.size w w92)); clear HO_5; clear HO_8; clear HB; have HO_5 := n0_; have HO_8 := n1_; have HB := n2_; clear n0_ n1_ n2_; clear hg hw hp_)); try go_wp2_with (first | ((with_reducible refine gate_store (t := 4) (p := 98) rfl ?_); (try (rw [drewN_self wc]; generalize hq_ : World.drewN wc _ = wc; have n0_ := Aside0.mk (Kd.R_at hq_ HO_5.out); have n1_ := Aside0.mk (Kd.R_at hq_ HO_8.out); have n2_ := Aside0.mk (below_at hq_ HB.out); clear hq_ HO_5 HO_8 HB; have HO_5 := n0_; have HO_8 := n1_; have HB := n2_; clear n0_ n1_ n2_; (try (have HP91 := Kd.R_putg HO_8.out ((ji86) : Int) true)))); refine store_event (t := 4) (p := 98) (v := ?vo_w92) (w1 := (wc.setCell ⟨go89, ((ji86) : Int).toNat, none⟩ (.bool true))) ?hg ?ho ?hn ?hr ?_; (case ho => rfl); (case hg => rfl); (case hn => rfl); (case hr => first | (go_simp; done) | (go_simp; rfl)); intro w92 hw; have hg : wc.grownBy w92 (some go89) := (by rw [hw]; exact HP91.2); have hp_ : Kd.R Kd.bool 4 w92 w.heap.size (fun k_ => some k_ ≠ (.slice (some ad343) x5_2.length co90 : Value).ownBlock) (.slice (some ⟨go89, 0, none⟩) x8_3.length co89) y344 := (by rw [hw, Ny344.out]; exact HP91.1); clear HP91; have n0_ := Aside0.mk (Kd.R_after (v := (.slice (some ⟨go89, 0, none⟩) x8_3.length co89)) (v1 := (.slice (some ⟨go89, 0, none⟩) x8_3.length co89)) (ok := (fun _ => True)) (by (with_reducible repeat (first | apply Kd.R_alloc | apply Kd.R_drewN | apply Kd.R_drew)); exact Kd.R_mono HO_5.out (fun _ hk => ⟨trivial, hk⟩)) hg (.inl rfl)); have n1_ := Aside0.mk (hp_); have n2_ := Aside0.mk ((by rw [hw]; exact below_set (HB.out) GB89.out : Below w.heap.size w w92)); clear HO_5; clear HO_8; clear HB; have HO_5 := n0_; have HO_8 := n1_; have HB := n2_; clear n0_ n1_ n2_; clear hg hw hp_)))
                                                go_roundg kj29
                                                case measure => have := HJ7.out; have := HK2.out; have := HK3.out; have := HJ29.out; omega
                                                case rel => exact ⟨(y344), (ji86), (by first | rfl | (simp; done) | (simp only [← hji86] <;> (first | rfl | simp)) | (simp [*]; done)), H', ⟨by have := HJ7.out; have := HK2.out; have := HK3.out; have := HJ29.out; omega⟩, ⟨by (try simp only [hl5_7]); (with_reducible repeat (first | apply Kd.R_alloc | apply Kd.R_drewN | apply Kd.R_drew)); exact Kd.R_mono HO_5.out (fun _ hk => hk.2)⟩, ⟨by (try simp only [hl5_7]); (with_reducible repeat (first | apply Kd.R_alloc | apply Kd.R_drewN | apply Kd.R_drew)); exact HO_8.out⟩, ⟨by repeat (first | (with_reducible first | exact HB.out | apply below_alloc | apply pw_below_drewN | apply below_drew1) | exact HB.out)⟩⟩
                                              · rw [if_neg c88] at H
                                                exact absurd H (by simp)
                                            · rw [if_neg c87] at H
                                              exact absurd H (by simp)
                                          · replace c85 := Bool.eq_false_iff.mpr c85
                                            subst c85
                                            have H1 : (if 0 ≤ (wrap64 (x9_3 + 1)) then (if (wrap64 (x9_3 + 1)) < (x5_2.length : Int) then (if rdOf false x5_2 (wrap64 (x9_3 + 1)) = true then (if (wrap64 (x9_3 + 1)) < (x8_3.length : Int) then (signetref18_matches.l2 kj29 a0 a1 x5_2 x7_2 (x8_3.set ((wrap64 (x9_3 + 1)) : Int).toNat true) (wrap64 (x9_3 + 1))) else (none)) else (signetref18_matches.l2 kj29 a0 a1 x5_2 x7_2 x8_3 (wrap64 (x9_3 + 1)))) else (none)) else (none)) = some r := by rw [if_neg (show ¬ (false = true) by decide)] at H; exact H
                                            clear H
                                            have H := H1
                                            clear H1
                                            obtain ⟨ji93, hji93⟩ : ∃ j_ : Int, (wrap64 (x9_3 + 1)) = j_ := ⟨_, rfl⟩
                                            replace H : (if 0 ≤ (ji93) then (if (ji93) < (x5_2.length : Int) then (if rdOf false x5_2 (ji93) = true then (if (ji93) < (x8_3.length : Int) then (signetref18_matches.l2 kj29 a0 a1 x5_2 x7_2 (x8_3.set ((ji93) : Int).toNat true) ji93) else (none)) else (signetref18_matches.l2 kj29 a0 a1 x5_2 x7_2 x8_3 ji93)) else (none)) else (none)) = some r := by first | (rw [hji93] at H; exact H) | (simp only [hji93] at H ⊢; exact H)
                                            have hji93w : (IntKind.i64.wrap (x9_3 + 1)) = ji93 := (i64_w _).trans hji93
                                            by_cases c94 : 0 ≤ (ji93)
                                            · rw [if_pos c94] at H
                                              have c94b0 : decide (0 ≤ (ji93)) = true := decide_eq_true c94
                                              clear c94
                                              by_cases c95 : (ji93) < (x5_2.length : Int)
                                              · rw [if_pos c95] at H
                                                have c95b0 : decide ((ji93) < (x5_2.length : Int)) = true := decide_eq_true c95
                                                clear c95
                                                obtain ⟨bq96, hbq96⟩ : ∃ b_ : Bool, b_ = (rdOf false x5_2 (ji93)) := ⟨_, rfl⟩
                                                replace H : (if bq96 = true then (if (ji93) < (x8_3.length : Int) then (signetref18_matches.l2 kj29 a0 a1 x5_2 x7_2 (x8_3.set ((ji93) : Int).toNat true) ji93) else (none)) else (signetref18_matches.l2 kj29 a0 a1 x5_2 x7_2 x8_3 ji93)) = some r := by rw [← hbq96] at H; exact H
                                                have Nbq96 := Aside0.mk hbq96
                                                clear hbq96
                                                by_cases c97 : bq96 = true
                                                · subst c97
                                                  have H1 : (if (ji93) < (x8_3.length : Int) then (signetref18_matches.l2 kj29 a0 a1 x5_2 x7_2 (x8_3.set ((ji93) : Int).toNat true) ji93) else (none)) = some r := by rw [if_pos rfl] at H; exact H
                                                  clear H
                                                  have H := H1
                                                  clear H1
                                                  by_cases c98 : (ji93) < (x8_3.length : Int)
                                                  · rw [if_pos c98] at H
                                                    have c98b0 : decide ((ji93) < (x8_3.length : Int)) = true := decide_eq_true c98
                                                    clear c98
                                                    obtain ⟨y346, hy346⟩ : ∃ y_ : List Bool, y_ = (x8_3.set ((ji93) : Int).toNat true) := ⟨_, rfl⟩
                                                    replace H : (signetref18_matches.l2 kj29 a0 a1 x5_2 x7_2 y346 ji93) = some r := by first | (rw [hy346]; with_reducible exact H) | (have H2_ := (Option.bind_some _ _).symm.trans H; rw [hy346]; with_reducible exact H2_) | (have H2_ := (Option.bind_some _ _).symm.trans H; with_reducible exact H2_) | with_reducible exact H | (rw [hy346]; exact H) | exact H
                                                    have Ny346 := Aside0.mk hy346
                                                    clear hy346
                                                    have H' := Aside0.mk H
                                                    clear H
                                                    have p81 : 0 ≤ (x9_3 : Int) := of_decide_eq_true (by first | (with_reducible assumption) | assumption)
                                                    have q81 : x9_3 < (a0.size : Int) := of_decide_eq_true (by first | (with_reducible assumption) | assumption)
                                                    have hx81 := bt_at a0 x9_3
                                                    replace p81 := eq_true p81
                                                    replace q81 := eq_true q81
                                                    obtain ⟨Ao100, co100, eo100⟩ := Kd.R_slice HO_5.out
                                                    subst eo100
                                                    have p343 : 0 ≤ (x9_3 : Int) := of_decide_eq_true (by first | (with_reducible assumption) | assumption)
                                                    have q343 : x9_3 < (x5_2.length : Int) := of_decide_eq_true (by first | (with_reducible assumption) | assumption)
                                                    obtain ⟨ad343, e343, hx343_0⟩ := Kd.at_bool (Kd.R_reads' HO_5.out).2.2 x9_3 p343 q343
                                                    (try rw [← Nbq84.out] at hx343_0)
                                                    (try rw [← Nbq96.out] at hx343_0)
                                                    cases e343
                                                    replace p343 := eq_true p343
                                                    replace q343 := eq_true q343
                                                    have p345 : 0 ≤ ((ji93) : Int) := of_decide_eq_true (by first | (with_reducible assumption) | assumption)
                                                    have q345 : (ji93) < (x5_2.length : Int) := of_decide_eq_true (by first | (with_reducible assumption) | assumption)
                                                    obtain ⟨ad345, e345, hx345_0⟩ := Kd.at_bool (Kd.R_reads' HO_5.out).2.2 (ji93) p345 q345
                                                    (try rw [← Nbq84.out] at hx345_0)
                                                    (try rw [← Nbq96.out] at hx345_0)
                                                    obtain rfl : ad343 = ad345 := (by injection e345)
                                                    replace p345 := eq_true p345
                                                    replace q345 := eq_true q345
                                                    have p99 : 0 ≤ ((ji93) : Int) := of_decide_eq_true (by first | (with_reducible assumption) | assumption)
                                                    have q99 : ((ji93) : Int) < ((x8_3.length : Int) : Int) := of_decide_eq_true (by first | (with_reducible assumption) | assumption)
                                                    obtain ⟨go99, co99, eo99, gb99, gl99, cl99, HG99⟩ := Kd.R_form HO_8.out (by omega)
                                                    (first | cases eo99 | (injection eo99 with ea_ en_ ec_; (first | subst ea_ | (injection ea_ with ea_; subst ea_)); subst ec_; clear en_))
                                                    have GB99 := Aside0.mk gb99
                                                    have GG99 := Aside0.mk HG99
                                                    clear gb99 gl99 HG99
                                                    obtain ⟨hx99_0, hf99_0⟩ := Kd.R_celln false HO_8.out ((ji93) : Int) p99 q99
                                                    replace p99 := eq_true p99
                                                    replace q99 := eq_true q99
                                                    have HP101 := Kd.R_putg HO_8.out ((ji93) : Int) true
                                                    go_wp2_with (first | ((with_reducible refine gate_store (t := 4) (p := 98) rfl ?_); (try (rw [drewN_self wc]; generalize hq_ : World.drewN wc _ = wc; have n0_ := Aside0.mk (Kd.R_at hq_ HO_5.out); have n1_ := Aside0.mk (Kd.R_at hq_ HO_8.out); have n2_ := Aside0.mk (below_at hq_ HB.out); clear hq_ HO_5 HO_8 HB; have HO_5 := n0_; have HO_8 := n1_; have HB := n2_; clear n0_ n1_ n2_; (try (have HP101 := Kd.R_putg HO_8.out ((ji93) : Int) true)))); refine store_event (t := 4) (p := 98) (v := ?vo_w102) (w1 := (wc.setCell ⟨go99, ((ji93) : Int).toNat, none⟩ (.bool true))) ?hg ?ho ?hn ?hr ?_; (case ho => rfl); (case hg => rfl); (case hn => rfl); (case hr => first | (go_simp; done) | (go_simp; rfl)); intro w102 hw; have hg : wc.grownBy w102 (some go99) := (by rw [hw]; exact HP101.2); have hp_ : Kd.R Kd.bool 4 w102 w.heap.size (fun k_ => some k_ ≠ (.slice (some ad343) x5_2.length co100 : Value).ownBlock) (.slice (some ⟨go99, 0, none⟩) x8_3.length co99) y346 := (by rw [hw, Ny346.out]; exact HP101.1); clear HP101; have n0_ := Aside0.mk (Kd.R_after (v := (.slice (some ⟨go99, 0, none⟩) x8_3.length co99)) (v1 := (.slice (some ⟨go99, 0, none⟩) x8_3.length co99)) (ok := (fun _ => True)) (by (with_reducible repeat (first | apply Kd.R_alloc | apply Kd.R_drewN | apply Kd.R_drew)); exact Kd.R_mono HO_5.out (fun _ hk => ⟨trivial, hk⟩)) hg (.inl rfl)); have n1_ := Aside0.mk (hp_); have n2_ := Aside0.mk ((by rw [hw]; exact below_set (HB.out) GB99.out : Below w.heap.size w w102)); clear HO_5; clear HO_8; clear HB; have HO_5 := n0_; have HO_8 := n1_; have HB := n2_; clear n0_ n1_ n2_; clear hg hw hp_))
                                                    repeat (go_quiet (first | ((with_reducible refine gate_store (t := 4) (p := 98) rfl ?_); (try (rw [drewN_self wc]; generalize hq_ : World.drewN wc _ = wc; have n0_ := Aside0.mk (Kd.R_at hq_ HO_5.out); have n1_ := Aside0.mk (Kd.R_at hq_ HO_8.out); have n2_ := Aside0.mk (below_at hq_ HB.out); clear hq_ HO_5 HO_8 HB; have HO_5 := n0_; have HO_8 := n1_; have HB := n2_; clear n0_ n1_ n2_; (try (have HP101 := Kd.R_putg HO_8.out ((ji93) : Int) true)))); refine store_event (t := 4) (p := 98) (v := ?vo_w102) (w1 := (wc.setCell ⟨go99, ((ji93) : Int).toNat, none⟩ (.bool true))) ?hg ?ho ?hn ?hr ?_; (case ho => rfl); (case hg => rfl); (case hn => rfl); (case hr => first | (go_simp; done) | (go_simp; rfl)); intro w102 hw; have hg : wc.grownBy w102 (some go99) := (by rw [hw]; exact HP101.2); have hp_ : Kd.R Kd.bool 4 w102 w.heap.size (fun k_ => some k_ ≠ (.slice (some ad343) x5_2.length co100 : Value).ownBlock) (.slice (some ⟨go99, 0, none⟩) x8_3.length co99) y346 := (by rw [hw, Ny346.out]; exact HP101.1); clear HP101; have n0_ := Aside0.mk (Kd.R_after (v := (.slice (some ⟨go99, 0, none⟩) x8_3.length co99)) (v1 := (.slice (some ⟨go99, 0, none⟩) x8_3.length co99)) (ok := (fun _ => True)) (by (with_reducible repeat (first | apply Kd.R_alloc | apply Kd.R_drewN | apply Kd.R_drew)); exact Kd.R_mono HO_5.out (fun _ hk => ⟨trivial, hk⟩)) hg (.inl rfl)); have n1_ := Aside0.mk (hp_); have n2_ := Aside0.mk ((by rw [hw]; exact below_set (HB.out) GB99.out : Below w.heap.size w w102)); clear HO_5; clear HO_8; clear HB; have HO_5 := n0_; have HO_8 := n1_; have HB := n2_; clear n0_ n1_ n2_; clear hg hw hp_)); try go_wp2_with (first | ((with_reducible refine gate_store (t := 4) (p := 98) rfl ?_); (try (rw [drewN_self wc]; generalize hq_ : World.drewN wc _ = wc; have n0_ := Aside0.mk (Kd.R_at hq_ HO_5.out); have n1_ := Aside0.mk (Kd.R_at hq_ HO_8.out); have n2_ := Aside0.mk (below_at hq_ HB.out); clear hq_ HO_5 HO_8 HB; have HO_5 := n0_; have HO_8 := n1_; have HB := n2_; clear n0_ n1_ n2_; (try (have HP101 := Kd.R_putg HO_8.out ((ji93) : Int) true)))); refine store_event (t := 4) (p := 98) (v := ?vo_w102) (w1 := (wc.setCell ⟨go99, ((ji93) : Int).toNat, none⟩ (.bool true))) ?hg ?ho ?hn ?hr ?_; (case ho => rfl); (case hg => rfl); (case hn => rfl); (case hr => first | (go_simp; done) | (go_simp; rfl)); intro w102 hw; have hg : wc.grownBy w102 (some go99) := (by rw [hw]; exact HP101.2); have hp_ : Kd.R Kd.bool 4 w102 w.heap.size (fun k_ => some k_ ≠ (.slice (some ad343) x5_2.length co100 : Value).ownBlock) (.slice (some ⟨go99, 0, none⟩) x8_3.length co99) y346 := (by rw [hw, Ny346.out]; exact HP101.1); clear HP101; have n0_ := Aside0.mk (Kd.R_after (v := (.slice (some ⟨go99, 0, none⟩) x8_3.length co99)) (v1 := (.slice (some ⟨go99, 0, none⟩) x8_3.length co99)) (ok := (fun _ => True)) (by (with_reducible repeat (first | apply Kd.R_alloc | apply Kd.R_drewN | apply Kd.R_drew)); exact Kd.R_mono HO_5.out (fun _ hk => ⟨trivial, hk⟩)) hg (.inl rfl)); have n1_ := Aside0.mk (hp_); have n2_ := Aside0.mk ((by rw [hw]; exact below_set (HB.out) GB99.out : Below w.heap.size w w102)); clear HO_5; clear HO_8; clear HB; have HO_5 := n0_; have HO_8 := n1_; have HB := n2_; clear n0_ n1_ n2_; clear hg hw hp_)))
                                                    go_roundg kj29
                                                    case measure => have := HJ7.out; have := HK2.out; have := HK3.out; have := HJ29.out; omega
                                                    case rel => exact ⟨(y346), (ji93), (by first | rfl | (simp; done) | (simp only [← hji93] <;> (first | rfl | simp)) | (simp [*]; done)), H', ⟨by have := HJ7.out; have := HK2.out; have := HK3.out; have := HJ29.out; omega⟩, ⟨by (try simp only [hl5_7]); (with_reducible repeat (first | apply Kd.R_alloc | apply Kd.R_drewN | apply Kd.R_drew)); exact Kd.R_mono HO_5.out (fun _ hk => hk.2)⟩, ⟨by (try simp only [hl5_7]); (with_reducible repeat (first | apply Kd.R_alloc | apply Kd.R_drewN | apply Kd.R_drew)); exact HO_8.out⟩, ⟨by repeat (first | (with_reducible first | exact HB.out | apply below_alloc | apply pw_below_drewN | apply below_drew1) | exact HB.out)⟩⟩
                                                  · rw [if_neg c98] at H
                                                    exact absurd H (by simp)
                                                · replace c97 := Bool.eq_false_iff.mpr c97
                                                  subst c97
                                                  have H1 : (signetref18_matches.l2 kj29 a0 a1 x5_2 x7_2 x8_3 ji93) = some r := by rw [if_neg (show ¬ (false = true) by decide)] at H; exact H
                                                  clear H
                                                  have H := H1
                                                  clear H1
                                                  have H' := Aside0.mk H
                                                  clear H
                                                  have p81 : 0 ≤ (x9_3 : Int) := of_decide_eq_true (by first | (with_reducible assumption) | assumption)
                                                  have q81 : x9_3 < (a0.size : Int) := of_decide_eq_true (by first | (with_reducible assumption) | assumption)
                                                  have hx81 := bt_at a0 x9_3
                                                  replace p81 := eq_true p81
                                                  replace q81 := eq_true q81
                                                  obtain ⟨Ao103, co103, eo103⟩ := Kd.R_slice HO_5.out
                                                  subst eo103
                                                  have p343 : 0 ≤ (x9_3 : Int) := of_decide_eq_true (by first | (with_reducible assumption) | assumption)
                                                  have q343 : x9_3 < (x5_2.length : Int) := of_decide_eq_true (by first | (with_reducible assumption) | assumption)
                                                  obtain ⟨ad343, e343, hx343_0⟩ := Kd.at_bool (Kd.R_reads' HO_5.out).2.2 x9_3 p343 q343
                                                  (try rw [← Nbq84.out] at hx343_0)
                                                  (try rw [← Nbq96.out] at hx343_0)
                                                  cases e343
                                                  replace p343 := eq_true p343
                                                  replace q343 := eq_true q343
                                                  have p345 : 0 ≤ ((ji93) : Int) := of_decide_eq_true (by first | (with_reducible assumption) | assumption)
                                                  have q345 : (ji93) < (x5_2.length : Int) := of_decide_eq_true (by first | (with_reducible assumption) | assumption)
                                                  obtain ⟨ad345, e345, hx345_0⟩ := Kd.at_bool (Kd.R_reads' HO_5.out).2.2 (ji93) p345 q345
                                                  (try rw [← Nbq84.out] at hx345_0)
                                                  (try rw [← Nbq96.out] at hx345_0)
                                                  obtain rfl : ad343 = ad345 := (by injection e345)
                                                  replace p345 := eq_true p345
                                                  replace q345 := eq_true q345
                                                  go_wp2
                                                  repeat (go_quiet (fail); try go_wp2)
                                                  go_roundg kj29
                                                  case measure => have := HJ7.out; have := HK2.out; have := HK3.out; have := HJ29.out; omega
                                                  case rel => exact ⟨(x8_3), (ji93), (by first | rfl | (simp; done) | (simp only [← hji93] <;> (first | rfl | simp)) | (simp [*]; done)), H', ⟨by have := HJ7.out; have := HK2.out; have := HK3.out; have := HJ29.out; omega⟩, ⟨by (try simp only [hl5_7]); (with_reducible repeat (first | apply Kd.R_alloc | apply Kd.R_drewN | apply Kd.R_drew)); exact HO_5.out⟩, ⟨by (try simp only [hl5_7]); (with_reducible repeat (first | apply Kd.R_alloc | apply Kd.R_drewN | apply Kd.R_drew)); exact HO_8.out⟩, ⟨by repeat (first | (with_reducible first | exact HB.out | apply below_alloc | apply pw_below_drewN | apply below_drew1) | exact HB.out)⟩⟩
                                              · rw [if_neg c95] at H
                                                exact absurd H (by simp)
                                            · rw [if_neg c94] at H
                                              exact absurd H (by simp)
                                        · rw [if_neg c83] at H
                                          exact absurd H (by simp)
                                      · rw [if_neg c82] at H
                                        have c82b0 : ((bt a0 x9_3) == 42) = false := beq_eq_false_iff_ne.mpr c82
                                        have c82b1 : ((bt a0 x9_3) != 42) = true := bne_iff_ne.mpr c82
                                        have H' := Aside0.mk H
                                        clear H
                                        have p81 : 0 ≤ (x9_3 : Int) := of_decide_eq_true (by first | (with_reducible assumption) | assumption)
                                        have q81 : x9_3 < (a0.size : Int) := of_decide_eq_true (by first | (with_reducible assumption) | assumption)
                                        have hx81 := bt_at a0 x9_3
                                        replace p81 := eq_true p81
                                        replace q81 := eq_true q81
                                        go_wp2
                                        repeat (go_quiet (fail); try go_wp2)
                                        go_roundg kj29
                                        case measure => have := HJ7.out; have := HK2.out; have := HK3.out; have := HJ29.out; omega
                                        case rel => exact ⟨(x8_3), (wrap64 (x9_3 + 1)), (by first | rfl | (simp; done) | (simp [*]; done)), H', ⟨by have := HJ7.out; have := HK2.out; have := HK3.out; have := HJ29.out; omega⟩, ⟨by (try simp only [hl5_7]); (with_reducible repeat (first | apply Kd.R_alloc | apply Kd.R_drewN | apply Kd.R_drew)); exact HO_5.out⟩, ⟨by (try simp only [hl5_7]); (with_reducible repeat (first | apply Kd.R_alloc | apply Kd.R_drewN | apply Kd.R_drew)); exact HO_8.out⟩, ⟨by repeat (first | (with_reducible first | exact HB.out | apply below_alloc | apply pw_below_drewN | apply below_drew1) | exact HB.out)⟩⟩
                                    · rw [if_neg c80] at H
                                      exact absurd H (by simp)
                                  · rw [if_neg c79] at H
                                    exact absurd H (by simp)
                          · rw [if_neg c29] at H
                            have c29b0 : decide (x9_3 < (a0.size : Int)) = false := decide_eq_false c29
                            clear c29
                            have H' := Aside0.mk H
                            clear H
                            go_wp2
                            repeat (go_quiet (fail); try go_wp2)
                            go_loopg [10] k3 (fun kq v10 w' => ∃ (x8_4 : List Bool) (x10_4 : Int), v10 = .int .i64 x10_4 ∧ Aside0 (signetref18_matches.l3 kq a0 a1 x7_2 x8_4 x10_4 = some r) ∧ Aside0 (kq ≤ k3) ∧ Aside0 (Kd.R Kd.bool 4 w' w.heap.size (fun _ => True) v335 x8_4) ∧ Aside0 (Below w.heap.size w w'))
                            case atStart => exact ⟨(x8_3), (0), (by first | rfl | (simp; done) | (simp [*]; done)), H', ⟨Nat.le_refl _⟩, ⟨by (try simp only [hl5_7]); (with_reducible repeat (first | apply Kd.R_alloc | apply Kd.R_drewN | apply Kd.R_drew)); exact Kd.R_mono HO_8.out (fun _ hk => trivial)⟩, ⟨by repeat (first | (with_reducible first | exact HB.out | apply below_alloc | apply pw_below_drewN | apply below_drew1) | exact HB.out)⟩⟩
                            case round =>
                              clear H'
                              try clear c1
                              try clear p1
                              try clear q1
                              try clear hx1
                              try clear c2
                              try clear p2
                              try clear q2
                              try clear hx2
                              try clear hf2
                              try clear c3
                              try clear p3
                              try clear q3
                              try clear hx3
                              try clear c4
                              try clear c4b0
                              try clear c4b1
                              try clear p4
                              try clear q4
                              try clear hx4
                              try clear c5
                              try clear c5b0
                              try clear c5b1
                              try clear p5
                              try clear q5
                              try clear hx5
                              try clear hf5
                              try clear c6
                              try clear c6b0
                              try clear c6b1
                              try clear p6
                              try clear q6
                              try clear hx6
                              try clear hf6
                              try clear c7
                              try clear p7
                              try clear q7
                              try clear hx7
                              try clear qi7
                              try clear hf7
                              try clear c8
                              try clear p8
                              try clear q8
                              try clear hx8
                              try clear hf8
                              try clear c9
                              try clear p9
                              try clear q9
                              try clear hx9
                              try clear hf9
                              try clear c13
                              try clear c13b0
                              try clear c14
                              try clear c14b0
                              try clear p15
                              try clear q15
                              try clear hx15
                              try clear c16
                              try clear c16b0
                              try clear c16b1
                              try clear c18
                              try clear c18b0
                              try clear c19
                              try clear c19b0
                              try clear p20
                              try clear q20
                              try clear hx20
                              try clear hf20
                              try clear c23
                              try clear c23b0
                              try clear c25
                              try clear c25b0
                              try clear c25b1
                              try clear c26
                              try clear c26b0
                              try clear c26b1
                              try clear c29
                              try clear c29b0
                              try clear c31
                              try clear c31b0
                              try clear c32
                              try clear c32b0
                              try clear p33
                              try clear q33
                              try clear hx33
                              try clear c34
                              try clear p34
                              try clear q34
                              try clear hx34
                              try clear p35
                              try clear q35
                              try clear hx35
                              try clear c36
                              try clear c36b0
                              try clear c36b1
                              try clear p38
                              try clear q38
                              try clear hx38
                              try clear c39
                              try clear c39b0
                              try clear c40
                              try clear c40b0
                              try clear p41
                              try clear q41
                              try clear hx41
                              try clear c42
                              try clear c42b0
                              try clear c42b1
                              try clear p43
                              try clear q43
                              try clear hx43
                              try clear c47
                              try clear c49
                              try clear c49b0
                              try clear c50
                              try clear c50b0
                              try clear p51
                              try clear q51
                              try clear hx51
                              try clear hf51
                              try clear c52
                              try clear c52b0
                              try clear c53
                              try clear c53b0
                              try clear p54
                              try clear q54
                              try clear hx54
                              try clear c55
                              try clear c55b0
                              try clear c55b1
                              try clear c56
                              try clear c56b0
                              try clear q57
                              try clear c58
                              try clear p59
                              try clear q59
                              try clear hx59
                              try clear hf59
                              try clear p64
                              try clear c65
                              try clear c65b0
                              try clear q66
                              try clear c67
                              try clear p68
                              try clear q68
                              try clear hx68
                              try clear hf68
                              try clear c79
                              try clear c79b0
                              try clear c80
                              try clear c80b0
                              try clear p81
                              try clear q81
                              try clear hx81
                              try clear c82
                              try clear c82b0
                              try clear c82b1
                              try clear c83
                              try clear c83b0
                              try clear q84
                              try clear c85
                              try clear c87
                              try clear c87b0
                              try clear c88
                              try clear c88b0
                              try clear p89
                              try clear q89
                              try clear hx89
                              try clear hf89
                              try clear c94
                              try clear c94b0
                              try clear c95
                              try clear c95b0
                              try clear q96
                              try clear c97
                              try clear c98
                              try clear c98b0
                              try clear p99
                              try clear q99
                              try clear hx99
                              try clear hf99
                              try clear hx20_0
                              try clear hx337_0
                              try clear hx339_0
                              try clear hx341_0
                              try clear hx343_0
                              try clear hx345_0
                              try clear hx51_0
                              try clear hx59_0
                              try clear hx68_0
                              try clear hx7_0
                              try clear hx89_0
                              try clear hx99_0
                              try clear p1
                              try clear p15
                              try clear p2
                              try clear p20
                              try clear p3
                              try clear p33
                              try clear p337
                              try clear p339
                              try clear p341
                              try clear p343
                              try clear p345
                              try clear p35
                              try clear p38
                              try clear p4
                              try clear p41
                              try clear p43
                              try clear p51
                              try clear p54
                              try clear p59
                              try clear p6
                              try clear p68
                              try clear p7
                              try clear p81
                              try clear p89
                              try clear p99
                              try clear q1
                              try clear q15
                              try clear q2
                              try clear q20
                              try clear q3
                              try clear q33
                              try clear q337
                              try clear q339
                              try clear q341
                              try clear q343
                              try clear q345
                              try clear q35
                              try clear q38
                              try clear q4
                              try clear q41
                              try clear q43
                              try clear q51
                              try clear q54
                              try clear q59
                              try clear q68
                              try clear q7
                              try clear q81
                              try clear q89
                              try clear q99
                              obtain ⟨x8_4, x10_4, rfl, HA, HK4, HO_8, HB⟩ := hrel
                              cases gk with
                              | zero => exact absurd HA.out (by simp [signetref18_matches.l3])
                              | succ k4 =>
                                have H := HA.out
                                clear HA
                                simp only [signetref18_matches.l3] at H
                                by_cases c104 : x10_4 < (a0.size : Int)
                                · rw [if_pos c104] at H
                                  have c104b0 : decide (x10_4 < (a0.size : Int)) = true := decide_eq_true c104
                                  clear c104
                                  by_cases c105 : 0 ≤ x10_4
                                  · rw [if_pos c105] at H
                                    have c105b0 : decide (0 ≤ x10_4) = true := decide_eq_true c105
                                    clear c105
                                    by_cases c106 : x10_4 < (x8_4.length : Int)
                                    · rw [if_pos c106] at H
                                      have c106b0 : decide (x10_4 < (x8_4.length : Int)) = true := decide_eq_true c106
                                      clear c106
                                      obtain ⟨bq107, hbq107⟩ : ∃ b_ : Bool, b_ = (rdOf false x8_4 x10_4) := ⟨_, rfl⟩
                                      replace H : (if bq107 = true then (if (bt a0 x10_4) = 42 then (if 0 ≤ (wrap64 (x10_4 + 1)) then (if (wrap64 (x10_4 + 1)) < (x8_4.length : Int) then (signetref18_matches.l3 k4 a0 a1 x7_2 (x8_4.set ((wrap64 (x10_4 + 1)) : Int).toNat true) (wrap64 (x10_4 + 1))) else (none)) else (none)) else (signetref18_matches.l3 k4 a0 a1 x7_2 x8_4 (wrap64 (x10_4 + 1)))) else (signetref18_matches.l3 k4 a0 a1 x7_2 x8_4 (wrap64 (x10_4 + 1)))) = some r := by rw [← hbq107] at H; exact H
                                      have Nbq107 := Aside0.mk hbq107
                                      clear hbq107
                                      by_cases c108 : bq107 = true
                                      · subst c108
                                        have H1 : (if (bt a0 x10_4) = 42 then (if 0 ≤ (wrap64 (x10_4 + 1)) then (if (wrap64 (x10_4 + 1)) < (x8_4.length : Int) then (signetref18_matches.l3 k4 a0 a1 x7_2 (x8_4.set ((wrap64 (x10_4 + 1)) : Int).toNat true) (wrap64 (x10_4 + 1))) else (none)) else (none)) else (signetref18_matches.l3 k4 a0 a1 x7_2 x8_4 (wrap64 (x10_4 + 1)))) = some r := by rw [if_pos rfl] at H; exact H
                                        clear H
                                        have H := H1
                                        clear H1
                                        by_cases c110 : (bt a0 x10_4) = 42
                                        · rw [if_pos c110] at H
                                          have c110b0 : ((bt a0 x10_4) == 42) = true := beq_iff_eq.mpr c110
                                          have c110b1 : ((bt a0 x10_4) != 42) = false := bne_eq_false_iff_eq.mpr c110
                                          clear c110
                                          obtain ⟨ji111, hji111⟩ : ∃ j_ : Int, (wrap64 (x10_4 + 1)) = j_ := ⟨_, rfl⟩
                                          replace H : (if 0 ≤ (ji111) then (if (ji111) < (x8_4.length : Int) then (signetref18_matches.l3 k4 a0 a1 x7_2 (x8_4.set ((ji111) : Int).toNat true) ji111) else (none)) else (none)) = some r := by first | (rw [hji111] at H; exact H) | (simp only [hji111] at H ⊢; exact H)
                                          have hji111w : (IntKind.i64.wrap (x10_4 + 1)) = ji111 := (i64_w _).trans hji111
                                          by_cases c112 : 0 ≤ (ji111)
                                          · rw [if_pos c112] at H
                                            have c112b0 : decide (0 ≤ (ji111)) = true := decide_eq_true c112
                                            clear c112
                                            by_cases c113 : (ji111) < (x8_4.length : Int)
                                            · rw [if_pos c113] at H
                                              have c113b0 : decide ((ji111) < (x8_4.length : Int)) = true := decide_eq_true c113
                                              clear c113
                                              obtain ⟨y348, hy348⟩ : ∃ y_ : List Bool, y_ = (x8_4.set ((ji111) : Int).toNat true) := ⟨_, rfl⟩
                                              replace H : (signetref18_matches.l3 k4 a0 a1 x7_2 y348 ji111) = some r := by first | (rw [hy348]; with_reducible exact H) | (have H2_ := (Option.bind_some _ _).symm.trans H; rw [hy348]; with_reducible exact H2_) | (have H2_ := (Option.bind_some _ _).symm.trans H; with_reducible exact H2_) | with_reducible exact H | (rw [hy348]; exact H) | exact H
                                              have Ny348 := Aside0.mk hy348
                                              clear hy348
                                              have H' := Aside0.mk H
                                              clear H
                                              obtain ⟨Ao115, co115, eo115⟩ := Kd.R_slice HO_8.out
                                              subst eo115
                                              have p347 : 0 ≤ (x10_4 : Int) := of_decide_eq_true (by first | (with_reducible assumption) | assumption)
                                              have q347 : x10_4 < (x8_4.length : Int) := of_decide_eq_true (by first | (with_reducible assumption) | assumption)
                                              obtain ⟨ad347, e347, hx347_0⟩ := Kd.at_bool (Kd.R_reads' HO_8.out).2.2 x10_4 p347 q347
                                              (try rw [← Nbq107.out] at hx347_0)
                                              cases e347
                                              replace p347 := eq_true p347
                                              replace q347 := eq_true q347
                                              have p109 : 0 ≤ (x10_4 : Int) := of_decide_eq_true (by first | (with_reducible assumption) | assumption)
                                              have q109 : x10_4 < (a0.size : Int) := of_decide_eq_true (by first | (with_reducible assumption) | assumption)
                                              have hx109 := bt_at a0 x10_4
                                              replace p109 := eq_true p109
                                              replace q109 := eq_true q109
                                              have p114 : 0 ≤ ((ji111) : Int) := of_decide_eq_true (by first | (with_reducible assumption) | assumption)
                                              have q114 : ((ji111) : Int) < ((x8_4.length : Int) : Int) := of_decide_eq_true (by first | (with_reducible assumption) | assumption)
                                              obtain ⟨go114, co114, eo114, gb114, gl114, cl114, HG114⟩ := Kd.R_form HO_8.out (by omega)
                                              (first | cases eo114 | (injection eo114 with ea_ en_ ec_; (first | subst ea_ | (injection ea_ with ea_; subst ea_)); subst ec_; clear en_))
                                              have GB114 := Aside0.mk gb114
                                              have GG114 := Aside0.mk HG114
                                              clear gb114 gl114 HG114
                                              (first | simp only [add_plain] at hx347_0 | skip)
                                              obtain ⟨hx114_0, hf114_0⟩ := Kd.R_celln false HO_8.out ((ji111) : Int) p114 q114
                                              replace p114 := eq_true p114
                                              replace q114 := eq_true q114
                                              have HP116 := Kd.R_putg HO_8.out ((ji111) : Int) true
                                              go_wp2_with (first | ((with_reducible refine gate_store (t := 4) (p := 118) rfl ?_); (try (rw [drewN_self wr]; generalize hq_ : World.drewN wr _ = wr; have n0_ := Aside0.mk (Kd.R_at hq_ HO_8.out); have n1_ := Aside0.mk (below_at hq_ HB.out); clear hq_ HO_8 HB; have HO_8 := n0_; have HB := n1_; clear n0_ n1_; (try (have HP116 := Kd.R_putg HO_8.out ((ji111) : Int) true)))); refine store_event (t := 4) (p := 118) (v := ?vo_w117) (w1 := (wr.setCell ⟨go114, ((ji111) : Int).toNat, none⟩ (.bool true))) ?hg ?ho ?hn ?hr ?_; (case ho => rfl); (case hg => rfl); (case hn => rfl); (case hr => first | (go_simp; done) | (go_simp; rfl)); intro w117 hw; have hg : wr.grownBy w117 (some go114) := (by rw [hw]; exact HP116.2); have hp_ : Kd.R Kd.bool 4 w117 w.heap.size (fun _ => True) (.slice (some ⟨go114, 0, none⟩) x8_4.length co115) y348 := (by rw [hw, Ny348.out]; exact HP116.1); clear HP116; have n0_ := Aside0.mk (hp_); have n1_ := Aside0.mk ((by rw [hw]; exact below_set (HB.out) GB114.out : Below w.heap.size w w117)); clear HO_8; clear HB; have HO_8 := n0_; have HB := n1_; clear n0_ n1_; clear hg hw hp_))
                                              repeat (go_quiet (first | ((with_reducible refine gate_store (t := 4) (p := 118) rfl ?_); (try (rw [drewN_self wr]; generalize hq_ : World.drewN wr _ = wr; have n0_ := Aside0.mk (Kd.R_at hq_ HO_8.out); have n1_ := Aside0.mk (below_at hq_ HB.out); clear hq_ HO_8 HB; have HO_8 := n0_; have HB := n1_; clear n0_ n1_; (try (have HP116 := Kd.R_putg HO_8.out ((ji111) : Int) true)))); refine store_event (t := 4) (p := 118) (v := ?vo_w117) (w1 := (wr.setCell ⟨go114, ((ji111) : Int).toNat, none⟩ (.bool true))) ?hg ?ho ?hn ?hr ?_; (case ho => rfl); (case hg => rfl); (case hn => rfl); (case hr => first | (go_simp; done) | (go_simp; rfl)); intro w117 hw; have hg : wr.grownBy w117 (some go114) := (by rw [hw]; exact HP116.2); have hp_ : Kd.R Kd.bool 4 w117 w.heap.size (fun _ => True) (.slice (some ⟨go114, 0, none⟩) x8_4.length co115) y348 := (by rw [hw, Ny348.out]; exact HP116.1); clear HP116; have n0_ := Aside0.mk (hp_); have n1_ := Aside0.mk ((by rw [hw]; exact below_set (HB.out) GB114.out : Below w.heap.size w w117)); clear HO_8; clear HB; have HO_8 := n0_; have HB := n1_; clear n0_ n1_; clear hg hw hp_)); try go_wp2_with (first | ((with_reducible refine gate_store (t := 4) (p := 118) rfl ?_); (try (rw [drewN_self wr]; generalize hq_ : World.drewN wr _ = wr; have n0_ := Aside0.mk (Kd.R_at hq_ HO_8.out); have n1_ := Aside0.mk (below_at hq_ HB.out); clear hq_ HO_8 HB; have HO_8 := n0_; have HB := n1_; clear n0_ n1_; (try (have HP116 := Kd.R_putg HO_8.out ((ji111) : Int) true)))); refine store_event (t := 4) (p := 118) (v := ?vo_w117) (w1 := (wr.setCell ⟨go114, ((ji111) : Int).toNat, none⟩ (.bool true))) ?hg ?ho ?hn ?hr ?_; (case ho => rfl); (case hg => rfl); (case hn => rfl); (case hr => first | (go_simp; done) | (go_simp; rfl)); intro w117 hw; have hg : wr.grownBy w117 (some go114) := (by rw [hw]; exact HP116.2); have hp_ : Kd.R Kd.bool 4 w117 w.heap.size (fun _ => True) (.slice (some ⟨go114, 0, none⟩) x8_4.length co115) y348 := (by rw [hw, Ny348.out]; exact HP116.1); clear HP116; have n0_ := Aside0.mk (hp_); have n1_ := Aside0.mk ((by rw [hw]; exact below_set (HB.out) GB114.out : Below w.heap.size w w117)); clear HO_8; clear HB; have HO_8 := n0_; have HB := n1_; clear n0_ n1_; clear hg hw hp_)))
                                              go_roundg k4
                                              case measure => have := HJ7.out; have := HK2.out; have := HK3.out; have := HK4.out; omega
                                              case rel => exact ⟨(y348), (ji111), (by first | rfl | (simp; done) | (simp only [← hji111] <;> (first | rfl | simp)) | (simp [*]; done)), H', ⟨by have := HJ7.out; have := HK2.out; have := HK3.out; have := HK4.out; omega⟩, ⟨by (try simp only [hl5_7]); (with_reducible repeat (first | apply Kd.R_alloc | apply Kd.R_drewN | apply Kd.R_drew)); exact HO_8.out⟩, ⟨by repeat (first | (with_reducible first | exact HB.out | apply below_alloc | apply pw_below_drewN | apply below_drew1) | exact HB.out)⟩⟩
                                            · rw [if_neg c113] at H
                                              exact absurd H (by simp)
                                          · rw [if_neg c112] at H
                                            exact absurd H (by simp)
                                        · rw [if_neg c110] at H
                                          have c110b0 : ((bt a0 x10_4) == 42) = false := beq_eq_false_iff_ne.mpr c110
                                          have c110b1 : ((bt a0 x10_4) != 42) = true := bne_iff_ne.mpr c110
                                          have H' := Aside0.mk H
                                          clear H
                                          obtain ⟨Ao118, co118, eo118⟩ := Kd.R_slice HO_8.out
                                          subst eo118
                                          have p347 : 0 ≤ (x10_4 : Int) := of_decide_eq_true (by first | (with_reducible assumption) | assumption)
                                          have q347 : x10_4 < (x8_4.length : Int) := of_decide_eq_true (by first | (with_reducible assumption) | assumption)
                                          obtain ⟨ad347, e347, hx347_0⟩ := Kd.at_bool (Kd.R_reads' HO_8.out).2.2 x10_4 p347 q347
                                          (try rw [← Nbq107.out] at hx347_0)
                                          cases e347
                                          replace p347 := eq_true p347
                                          replace q347 := eq_true q347
                                          have p109 : 0 ≤ (x10_4 : Int) := of_decide_eq_true (by first | (with_reducible assumption) | assumption)
                                          have q109 : x10_4 < (a0.size : Int) := of_decide_eq_true (by first | (with_reducible assumption) | assumption)
                                          have hx109 := bt_at a0 x10_4
                                          replace p109 := eq_true p109
                                          replace q109 := eq_true q109
                                          go_wp2
                                          repeat (go_quiet (fail); try go_wp2)
                                          go_roundg k4
                                          case measure => have := HJ7.out; have := HK2.out; have := HK3.out; have := HK4.out; omega
                                          case rel => exact ⟨(x8_4), (wrap64 (x10_4 + 1)), (by first | rfl | (simp; done) | (simp [*]; done)), H', ⟨by have := HJ7.out; have := HK2.out; have := HK3.out; have := HK4.out; omega⟩, ⟨by (try simp only [hl5_7]); (with_reducible repeat (first | apply Kd.R_alloc | apply Kd.R_drewN | apply Kd.R_drew)); exact HO_8.out⟩, ⟨by repeat (first | (with_reducible first | exact HB.out | apply below_alloc | apply pw_below_drewN | apply below_drew1) | exact HB.out)⟩⟩
                                      · replace c108 := Bool.eq_false_iff.mpr c108
                                        subst c108
                                        have H1 : (signetref18_matches.l3 k4 a0 a1 x7_2 x8_4 (wrap64 (x10_4 + 1))) = some r := by rw [if_neg (show ¬ (false = true) by decide)] at H; exact H
                                        clear H
                                        have H := H1
                                        clear H1
                                        have H' := Aside0.mk H
                                        clear H
                                        obtain ⟨Ao119, co119, eo119⟩ := Kd.R_slice HO_8.out
                                        subst eo119
                                        have p347 : 0 ≤ (x10_4 : Int) := of_decide_eq_true (by first | (with_reducible assumption) | assumption)
                                        have q347 : x10_4 < (x8_4.length : Int) := of_decide_eq_true (by first | (with_reducible assumption) | assumption)
                                        obtain ⟨ad347, e347, hx347_0⟩ := Kd.at_bool (Kd.R_reads' HO_8.out).2.2 x10_4 p347 q347
                                        (try rw [← Nbq107.out] at hx347_0)
                                        cases e347
                                        replace p347 := eq_true p347
                                        replace q347 := eq_true q347
                                        go_wp2
                                        repeat (go_quiet (fail); try go_wp2)
                                        go_roundg k4
                                        case measure => have := HJ7.out; have := HK2.out; have := HK3.out; have := HK4.out; omega
                                        case rel => exact ⟨(x8_4), (wrap64 (x10_4 + 1)), (by first | rfl | (simp; done) | (simp [*]; done)), H', ⟨by have := HJ7.out; have := HK2.out; have := HK3.out; have := HK4.out; omega⟩, ⟨by (try simp only [hl5_7]); (with_reducible repeat (first | apply Kd.R_alloc | apply Kd.R_drewN | apply Kd.R_drew)); exact HO_8.out⟩, ⟨by repeat (first | (with_reducible first | exact HB.out | apply below_alloc | apply pw_below_drewN | apply below_drew1) | exact HB.out)⟩⟩
                                    · rw [if_neg c106] at H
                                      exact absurd H (by simp)
                                  · rw [if_neg c105] at H
                                    exact absurd H (by simp)
                                · rw [if_neg c104] at H
                                  have c104b0 : decide (x10_4 < (a0.size : Int)) = false := decide_eq_false c104
                                  clear c104
                                  have H' := Aside0.mk H
                                  clear H
                                  go_wp2
                                  repeat (go_quiet (fail); try go_wp2)
                                  go_roundg k4
                                  case measure => have := HJ7.out; have := HK2.out; have := HK3.out; have := HK4.out; omega
                                  case rel => exact ⟨(x8_4), (wrap64 (x7_2 + 1)), (by first | rfl | (simp; done) | (simp [*]; done)), H', ⟨by have := HJ7.out; have := HK2.out; have := HK3.out; have := HK4.out; omega⟩, ⟨by (try simp only [hl5_7]); (with_reducible repeat (first | apply Kd.R_alloc | apply Kd.R_drewN | apply Kd.R_drew)); exact HO_8.out⟩, ⟨by repeat (first | (with_reducible first | exact HB.out | apply below_alloc | apply pw_below_drewN | apply below_drew1) | exact HB.out)⟩⟩
                    · rw [if_neg c26] at H
                      exact absurd H (by simp)
                  · rw [if_neg c25] at H
                    exact absurd H (by simp)
                · rw [if_neg c23] at H
                  have c23b0 : decide (x7_2 < (a1.size : Int)) = false := decide_eq_false c23
                  clear c23
                  by_cases c120 : 0 ≤ (a0.size : Int)
                  · rw [if_pos c120] at H
                    have c120b0 : decide (0 ≤ (a0.size : Int)) = true := decide_eq_true c120
                    have c120b1 : decide (0 ≤ a0.size) = true := decide_eq_true (by omega)
                    clear c120
                    by_cases c121 : (a0.size : Int) < (x5_2.length : Int)
                    · rw [if_pos c121] at H
                      have c121b0 : decide ((a0.size : Int) < (x5_2.length : Int)) = true := decide_eq_true c121
                      have c121b1 : decide (a0.size < x5_2.length) = true := decide_eq_true (Int.ofNat_lt.mp c121)
                      clear c121
                      obtain rfl := Option.some.inj H
                      obtain ⟨Ao122, co122, eo122⟩ := Kd.R_slice HO_5.out
                      subst eo122
                      have p333 : 0 ≤ ((a0.size : Int) : Int) := of_decide_eq_true (by first | (with_reducible assumption) | assumption)
                      have q333 : (a0.size : Int) < (x5_2.length : Int) := of_decide_eq_true (by first | (with_reducible assumption) | assumption)
                      obtain ⟨ad333, e333, hx333_0⟩ := Kd.at_bool (Kd.R_reads' HO_5.out).2.2 (a0.size : Int) p333 q333
                      cases e333
                      have hx333_9 := hx333_0
                      simp only [Int.toNat_natCast] at hx333_9
                      replace p333 := eq_true p333
                      replace q333 := eq_true q333
                      go_wp2
                      repeat (go_quiet (fail); try go_wp2)
                      go_ret
                      exact ⟨by first | rfl | (simp [errW_none, errW_some] <;> rfl) | (simp only [← hji3]; first | rfl | (simp [errW_none, errW_some] <;> rfl)) | (simp [*, errW_none, errW_some] <;> rfl), by repeat (first | (with_reducible first | exact HB.out | apply below_alloc | apply pw_below_drewN | apply below_drew1) | exact HB.out)⟩
                    · rw [if_neg c121] at H
                      exact absurd H (by simp)
                  · rw [if_neg c120] at H
                    exact absurd H (by simp)
      · rw [if_neg c6] at H
        exact absurd H (by simp)
    · rw [if_neg c5] at H
      exact absurd H (by simp)
  · rw [if_neg c4] at H
    exact absurd H (by simp)

end Go.Proofs.YtckpnmghbjimiaaDoor.P
