-- Printed by wip/tools/myprint.py (the kit's print over given contracts).
import Derived.Test.YtckpnmghbjimiaaDoorPx0
import Derived.Test.YtckpnmghbjimiaaDoorPxPathPrint
import Derived.Test.YtckpnmghbjimiaaDoorPxPathBoth
namespace Go.Proofs.YtckpnmghbjimiaaDoor.P
open Go.RowKit Go.Proofs.YtckpnmghbjimiaaDoorW.PrintWords Go.Proofs.YtckpnmghbjimiaaDoorW.PrintLast Go.Proofs.YtckpnmghbjimiaaDoorW.PrintMore
attribute [local go_sem] max2_int min2_int max_two min_two max_three min_three max_four min_four Go.Proofs.YtckpnmghbjimiaaDoor.bytesLess_flip Go.Proofs.YtckpnmghbjimiaaDoor.bytesLess_flip2
set_option linter.unusedVariables false
set_option linter.unusedSimpArgs false

/-! ### path_Common: function 31 -/
def path_Common.f (k : Nat) (a0 : ByteArray) (a1 : ByteArray) : Option (ByteArray × Int) := (path_both.f k a0 a1).bind fun bt221 => (if bt221.2.2.2 = 0 then (if 0 ≤ bt221.2.2.1 then (if bt221.2.2.1 ≤ (bt221.1.length : Int) then ((path_Print.f k (bt221.1.take (bt221.2.2.1 : Int).toNat)).bind fun bt233 => (some (bt233.1, bt233.2.2))) else (none)) else (none)) else (some ((⟨#[]⟩ : ByteArray), bt221.2.2.2)))
theorem path_Common.mono : ∀ a0 a1 k, LeO (path_Common.f k a0 a1) (path_Common.f (k + 1) a0 a1) := by
  intro a0 a1 k
  unfold path_Common.f
  repeat' first
      | (with_reducible exact path_Print.mono _ _)
      | (with_reducible exact path_both.mono _ _ _)
      | (with_reducible exact LeO.refl _)
      | (with_reducible exact LeO.none _)
      | (with_reducible refine LeO.ite ?_ ?_)
      | (with_reducible refine LeO.bind ?_ (fun _ => ?_))
      | exact path_Print.mono _ _
      | exact path_both.mono _ _ _
      | exact LeO.none _
      | refine LeO.ite ?_ ?_
      | refine LeO.bind ?_ (fun _ => ?_)
set_option maxHeartbeats 8000000 in
set_option maxRecDepth 100000 in
theorem path_Common.calls (k : Nat) (a0 : ByteArray) (a1 : ByteArray) (r1 : ByteArray) (r2 : Int) (w : World) (h : path_Common.f k a0 a1 = some (r1, r2)) :
    Calls Tryd.prog 31 #[.string a0, .string a1] w fun e w' => e = .returned (.tuple #[.string r1, .int .i64 r2]) ∧ Below w.heap.size w w' := by
  have HB := Aside0.mk (Below.refl w.heap.size w)
  have H : ((path_both.f k a0 a1).bind fun bt221 => (if bt221.2.2.2 = 0 then (if 0 ≤ bt221.2.2.1 then (if bt221.2.2.1 ≤ (bt221.1.length : Int) then ((path_Print.f k (bt221.1.take (bt221.2.2.1 : Int).toNat)).bind fun bt233 => (some (bt233.1, bt233.2.2))) else (none)) else (none)) else (some ((⟨#[]⟩ : ByteArray), bt221.2.2.2)))) = some (r1, r2) := h
  clear h
  replace H := Option.bind_eq_some_iff.mp H
  obtain ⟨⟨t221, t222, t223, t224⟩, A30, H⟩ := H
  replace H : (if t224 = 0 then (if 0 ≤ t223 then (if t223 ≤ (t221.length : Int) then ((path_Print.f k (t221.take (t223 : Int).toNat)).bind fun bt233 => (some (bt233.1, bt233.2.2))) else (none)) else (none)) else (some ((⟨#[]⟩ : ByteArray), t224))) = some (r1, r2) := H
  have A3 := Aside0.mk A30
  clear A30
  by_cases c4 : t224 = 0
  · rw [if_pos c4] at H
    have c4b0 : (t224 == 0) = true := beq_iff_eq.mpr c4
    have c4b1 : (t224 != 0) = false := bne_eq_false_iff_eq.mpr c4
    clear c4
    by_cases c5 : 0 ≤ t223
    · rw [if_pos c5] at H
      have c5b0 := eq_true c5
      have c5b1 : decide (0 ≤ t223) = true := decide_eq_true c5
      clear c5
      by_cases c6 : t223 ≤ (t221.length : Int)
      · rw [if_pos c6] at H
        have c6b0 := eq_true c6
        have c6b1 : decide (t223 ≤ (t221.length : Int)) = true := decide_eq_true c6
        clear c6
        obtain ⟨y229, hy229⟩ : ∃ y_ : List ByteArray, y_ = (t221.take (t223 : Int).toNat) := ⟨_, rfl⟩
        replace H : ((path_Print.f k y229).bind fun bt233 => (some (bt233.1, bt233.2.2))) = some (r1, r2) := by first | (rw [hy229]; with_reducible exact H) | (have H2_ := (Option.bind_some _ _).symm.trans H; rw [hy229]; with_reducible exact H2_) | (have H2_ := (Option.bind_some _ _).symm.trans H; with_reducible exact H2_) | with_reducible exact H | (rw [hy229]; exact H) | exact H
        have Ny229 := Aside0.mk hy229
        clear hy229
        replace H := Option.bind_eq_some_iff.mp H
        obtain ⟨⟨t233, t234, t235⟩, A70, H⟩ := H
        replace H : (some (t233, t235)) = some (r1, r2) := H
        have A7 := Aside0.mk A70
        clear A70
        simp only [Option.some.injEq, Prod.mk.injEq] at H
        obtain ⟨rfl, rfl⟩ := H
        go_enter Tryd.func31, Tryd.ntmps31
        go_wp2_with (first | ((with_reducible refine gate_callee (f := 44) rfl ?_); refine goesL_ (some 15) rfl rfl Tryd.func44 (by kernel_rfl) rfl #[.string a0, .string a1] rfl (by (try simp only [List.map_toArray, List.map_cons, List.map_nil]); first | done | rfl | (simp only [List.length_drop, List.length_take]; rfl)) ?_; (with_reducible refine (path_both.calls k a0 a1 t221 t222 t223 t224 _ A3.out).mono ?_); rintro e w8 ⟨v225, v227, rfl, ho0, ho1, hb⟩; refine ⟨_, rfl, ?_⟩; have n0_ := Aside0.mk (Kd.R_lower ho0 (below_size (by repeat (first | (with_reducible first | exact HB.out | apply below_alloc | apply pw_below_drewN | apply below_drew1) | exact HB.out)))); have n1_ := Aside0.mk (Kd.R_lower ho1 (below_size (by repeat (first | (with_reducible first | exact HB.out | apply below_alloc | apply pw_below_drewN | apply below_drew1) | exact HB.out)))); have n2_ := Aside0.mk (below_step (by repeat (first | (with_reducible first | exact HB.out | apply below_alloc | apply pw_below_drewN | apply below_drew1) | exact HB.out)) hb); clear HB; have HO226 := n0_; have HO228 := n1_; have HB := n2_; clear n0_ n1_ n2_; (try clear hb); (try clear hb2); (try clear hk); (try clear hi); (try clear ho0); (try clear ho1); obtain ⟨Ao10, co10, eo10⟩ := Kd.R_slice HO226.out; subst eo10; have q9 : (t223 : Int) ≤ ((t221.length : Int) : Int) := of_decide_eq_true (by first | (with_reducible assumption) | assumption); obtain ⟨i09, hi09, _, hsz9, _⟩ := info_parts info9; have hroom9 : t221.length ≤ co10 := (Kd.R_reads' HO226.out).2.1; have hC9 : Kd.C Kd.string _ Ao10 t221.length t221 := (Kd.R_reads' HO226.out).2.2; have hcut9 := cut_to (P := Tryd.prog) 22 9 .i64 Tryd.underlying22 hi09 Ao10 t221.length co10 t223 (of_decide_eq_true (by first | (with_reducible assumption) | assumption)) q9 hroom9; have hr9 := Kd.C_take (m := (t223 : Int).toNat) hC9 (by omega); have hy9 : y229.length = (t223 : Int).toNat := (by rw [Ny229.out, List.length_take]; omega); rw [← Ny229.out] at hr9; rw [← hy9] at hcut9; have HR232 := Aside0.mk hr9; have HC232 := Aside0.mk (show y229.length ≤ co10 from by omega); clear hr9 hC9 hroom9 hi09 hsz9; have KY9 := Aside0.mk hy9; clear hy9; have KL9 := Aside0.mk (show (t223 : Int).toNat ≤ t221.length from by omega); replace q9 := eq_true q9) | ((with_reducible refine gate_callee (f := 22) rfl ?_); refine goesL_ (some 27) rfl rfl Tryd.func22 (by kernel_rfl) rfl #[.slice Ao10 y229.length co10] rfl (by (try simp only [List.map_toArray, List.map_cons, List.map_nil]); first | done | rfl | (simp only [List.length_drop, List.length_take]; rfl)) ?_; (with_reducible refine (path_Print.calls k _ _ y229 t233 t234 t235 _ ?side1 ?side2 A7.out).mono ?_); (case side1 => repeat (first | exact (by repeat (first | (with_reducible exact HR232.out) | (with_reducible refine Kd.C_alloc ?_ _) | (with_reducible refine Kd.C_drewN ?_ _) | (with_reducible refine Kd.C_drew ?_) | exact HR232.out)) | (with_reducible refine Kd.C_alloc ?_ _) | (with_reducible refine Kd.C_drewN ?_ _) | (with_reducible refine Kd.C_drew ?_))); (case side2 => exact HC232.out); rintro e w11 ⟨rfl, hb⟩; refine ⟨_, rfl, ?_⟩; have n0_ := Aside0.mk (Kd.R_below (by (with_reducible repeat (first | apply Kd.R_alloc | apply Kd.R_drewN | apply Kd.R_drew)); exact HO226.out) hb); have n1_ := Aside0.mk (Kd.R_below (by (with_reducible repeat (first | apply Kd.R_alloc | apply Kd.R_drewN | apply Kd.R_drew)); exact HO228.out) hb); have n2_ := Aside0.mk (Kd.C_below (by repeat (first | (with_reducible exact HR232.out) | (with_reducible refine Kd.C_alloc ?_ _) | (with_reducible refine Kd.C_drewN ?_ _) | (with_reducible refine Kd.C_drew ?_) | exact HR232.out)) hb); have n3_ := Aside0.mk (below_step (by repeat (first | (with_reducible first | exact HB.out | apply below_alloc | apply pw_below_drewN | apply below_drew1) | exact HB.out)) hb); clear HO226; clear HO228; clear HR232; clear HB; have HO226 := n0_; have HO228 := n1_; have HR232 := n2_; have HB := n3_; clear n0_ n1_ n2_ n3_; (try clear hb); (try clear hb2); (try clear hk); (try clear hi)))
        go_ret2
        exact ⟨by first | rfl | (simp [errW_none, errW_some] <;> rfl) | (simp [*, errW_none, errW_some] <;> rfl), by repeat (first | (with_reducible first | exact HB.out | apply below_alloc | apply pw_below_drewN | apply below_drew1) | exact HB.out)⟩
      · rw [if_neg c6] at H
        exact absurd H (by simp)
    · rw [if_neg c5] at H
      exact absurd H (by simp)
  · rw [if_neg c4] at H
    have c4b0 : (t224 == 0) = false := beq_eq_false_iff_ne.mpr c4
    have c4b1 : (t224 != 0) = true := bne_iff_ne.mpr c4
    simp only [Option.some.injEq, Prod.mk.injEq] at H
    obtain ⟨rfl, rfl⟩ := H
    go_enter Tryd.func31, Tryd.ntmps31
    go_wp2_with (first | ((with_reducible refine gate_callee (f := 44) rfl ?_); refine goesL_ (some 15) rfl rfl Tryd.func44 (by kernel_rfl) rfl #[.string a0, .string a1] rfl (by (try simp only [List.map_toArray, List.map_cons, List.map_nil]); first | done | rfl | (simp only [List.length_drop, List.length_take]; rfl)) ?_; (with_reducible refine (path_both.calls k a0 a1 t221 t222 t223 t224 _ A3.out).mono ?_); rintro e w12 ⟨v225, v227, rfl, ho0, ho1, hb⟩; refine ⟨_, rfl, ?_⟩; have n0_ := Aside0.mk (Kd.R_lower ho0 (below_size (by repeat (first | (with_reducible first | exact HB.out | apply below_alloc | apply pw_below_drewN | apply below_drew1) | exact HB.out)))); have n1_ := Aside0.mk (Kd.R_lower ho1 (below_size (by repeat (first | (with_reducible first | exact HB.out | apply below_alloc | apply pw_below_drewN | apply below_drew1) | exact HB.out)))); have n2_ := Aside0.mk (below_step (by repeat (first | (with_reducible first | exact HB.out | apply below_alloc | apply pw_below_drewN | apply below_drew1) | exact HB.out)) hb); clear HB; have HO226 := n0_; have HO228 := n1_; have HB := n2_; clear n0_ n1_ n2_; (try clear hb); (try clear hb2); (try clear hk); (try clear hi); (try clear ho0); (try clear ho1)))
    go_ret2
    exact ⟨by first | rfl | (simp [errW_none, errW_some] <;> rfl) | (simp [*, errW_none, errW_some] <;> rfl), by repeat (first | (with_reducible first | exact HB.out | apply below_alloc | apply pw_below_drewN | apply below_drew1) | exact HB.out)⟩

end Go.Proofs.YtckpnmghbjimiaaDoor.P
