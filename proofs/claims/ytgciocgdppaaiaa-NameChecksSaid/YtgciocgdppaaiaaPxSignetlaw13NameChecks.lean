-- Printed by wip/tools/myprint.py (the kit's print over given contracts).
import Derived.Test.YtgciocgdppaaiaaPx0
import Derived.Test.YtgciocgdppaaiaaPxSignetref13Is
import Derived.Test.YtgciocgdppaaiaaPxNameCheck
import Derived.Test.YtgciocgdppaaiaaPxSignetlaw13Awake
import Derived.Test.YtgciocgdppaaiaaPxNameCompare
import Derived.Test.YtgciocgdppaaiaaPxSignetref13Compare
namespace Go.Proofs.Ytgciocgdppaaiaa.P
open Go.RowKit Go.Proofs.YtgciocgdppaaiaaW.PrintWords Go.Proofs.YtgciocgdppaaiaaW.PrintLast Go.Proofs.YtgciocgdppaaiaaW.PrintMore
attribute [local go_sem] max2_int min2_int max_two min_two max_three min_three max_four min_four Go.Proofs.Ytgciocgdppaaiaa.bytesLess_flip Go.Proofs.Ytgciocgdppaaiaa.bytesLess_flip2
set_option linter.unusedVariables false
set_option linter.unusedSimpArgs false

/-! ### signetlaw13_NameChecks: function 3 -/
def signetlaw13_NameChecks.j0 : Nat → ByteArray → ByteArray → Int → Option (Bool)
  | 0, _, _, _ => none
  | k + 1, x0, x1, x5 => (signetlaw13_awake.f).bind fun t112 => (if t112 = true then ((name_Check.f x0).bind fun t113 => (if t113 = x5 then ((name_Compare.f x0 x1).bind fun t114 => ((signetref13_Compare.f k x0 x1).bind fun t115 => (if t114 = t115 then ((name_Compare.f x1 x0).bind fun t116 => ((signetref13_Compare.f k x0 x1).bind fun t117 => (some (t116 == (wrap64 (-t117)))))) else (some false)))) else (some false))) else (some false))
def signetlaw13_NameChecks.f (k : Nat) (a0 : ByteArray) (a1 : ByteArray) : Option (Bool) := (signetref13_Is.f k a0).bind fun t111 => (if t111 = true then (signetlaw13_NameChecks.j0 k a0 a1 0) else (signetlaw13_NameChecks.j0 k a0 a1 130))
theorem signetlaw13_NameChecks.mono_l : ∀ k, (∀ y0 y1 y2, LeO (signetlaw13_NameChecks.j0 k y0 y1 y2) (signetlaw13_NameChecks.j0 (k + 1) y0 y1 y2))
  | 0 => fun _ _ _ r h => by simp [signetlaw13_NameChecks.j0] at h
  | k + 1 => by
    have ih0 := signetlaw13_NameChecks.mono_l k
    · intro y0 y1 y2
      unfold signetlaw13_NameChecks.j0
      repeat' first
      | (with_reducible exact ih0 _ _ _)
      | (with_reducible exact signetref13_Compare.mono _ _ _)
      | (with_reducible exact signetref13_Is.mono _ _)
      | (with_reducible exact LeO.refl _)
      | (with_reducible exact LeO.none _)
      | (with_reducible refine LeO.ite ?_ ?_)
      | (with_reducible refine LeO.bind ?_ (fun _ => ?_))
      | exact ih0 _ _ _
      | exact signetref13_Compare.mono _ _ _
      | exact signetref13_Is.mono _ _
      | exact LeO.none _
      | refine LeO.ite ?_ ?_
      | refine LeO.bind ?_ (fun _ => ?_)
theorem signetlaw13_NameChecks.mono : ∀ a0 a1 k, LeO (signetlaw13_NameChecks.f k a0 a1) (signetlaw13_NameChecks.f (k + 1) a0 a1) := by
  intro a0 a1 k
  have ih0 := signetlaw13_NameChecks.mono_l k
  unfold signetlaw13_NameChecks.f
  repeat' first
      | (with_reducible exact ih0 _ _ _)
      | (with_reducible exact signetref13_Compare.mono _ _ _)
      | (with_reducible exact signetref13_Is.mono _ _)
      | (with_reducible exact LeO.refl _)
      | (with_reducible exact LeO.none _)
      | (with_reducible refine LeO.ite ?_ ?_)
      | (with_reducible refine LeO.bind ?_ (fun _ => ?_))
      | exact ih0 _ _ _
      | exact signetref13_Compare.mono _ _ _
      | exact signetref13_Is.mono _ _
      | exact LeO.none _
      | refine LeO.ite ?_ ?_
      | refine LeO.bind ?_ (fun _ => ?_)
set_option maxHeartbeats 8000000 in
set_option maxRecDepth 100000 in
theorem signetlaw13_NameChecks.calls (k : Nat) (a0 : ByteArray) (a1 : ByteArray) (r : Bool) (w : World) (h : signetlaw13_NameChecks.f k a0 a1 = some r) :
    Calls Try.prog 3 #[.string a0, .string a1] w fun e w' => e = .returned (.bool r) ∧ Below w.heap.size w w' := by
  have HB := Aside0.mk (Below.refl w.heap.size w)
  have H : ((signetref13_Is.f k a0).bind fun t111 => (if t111 = true then (signetlaw13_NameChecks.j0 k a0 a1 0) else (signetlaw13_NameChecks.j0 k a0 a1 130))) = some r := h
  clear h
  replace H := Option.bind_eq_some_iff.mp H
  obtain ⟨t111, A30, H⟩ := H
  replace H : (if t111 = true then (signetlaw13_NameChecks.j0 k a0 a1 0) else (signetlaw13_NameChecks.j0 k a0 a1 130)) = some r := H
  have A3 := Aside0.mk A30
  clear A30
  have HC4 := Aside0.mk H
  clear H
  go_enter Try.func3, Try.ntmps3
  go_upto_if 7 with (first | ((with_reducible refine gate_callee (f := 5) rfl ?_); refine goesL_ (some 7) rfl rfl Try.func5 (by kernel_rfl) rfl #[.string a0] rfl (by (try simp only [List.map_toArray, List.map_cons, List.map_nil]); first | done | rfl | (simp only [List.length_drop, List.length_take]; rfl)) ?_; (with_reducible refine (signetref13_Is.calls k a0 t111 _ A3.out).mono ?_); rintro e w' ⟨rfl, ⟨nd, rfl⟩⟩; refine ⟨_, rfl, ?_⟩))
  (try simp only [Act.put, List.setIfInBounds_toArray, List.set_cons_zero, List.set_cons_succ])
  go_cut [5] (fun v5 wc => ∃ (kq : Nat) (x5_3 : Int), v5 = .int .i64 x5_3 ∧ Aside0 (signetlaw13_NameChecks.j0 kq a0 a1 x5_3 = some r) ∧ Aside0 (kq ≤ k) ∧ Aside0 (Below w.heap.size w wc))
  case first =>
    have H := HC4.out
    clear HC4
    by_cases c5 : t111 = true
    · subst c5
      have H1 : (signetlaw13_NameChecks.j0 k a0 a1 0) = some r := by rw [if_pos rfl] at H; exact H
      clear H
      have H := H1
      clear H1
      have H' := Aside0.mk H
      clear H
      go_wp2
      go_meet
      case rel => exact ⟨_, (0), (by first | rfl | (simp; done) | (simp [*]; done)), H', ⟨by first | omega | exact Nat.le_refl _⟩, ⟨by repeat (first | (with_reducible first | exact HB.out | apply below_alloc | apply pw_below_drewN | apply below_drew1) | exact HB.out)⟩⟩
    · replace c5 := Bool.eq_false_iff.mpr c5
      subst c5
      have H1 : (signetlaw13_NameChecks.j0 k a0 a1 130) = some r := by rw [if_neg (show ¬ (false = true) by decide)] at H; exact H
      clear H
      have H := H1
      clear H1
      have H' := Aside0.mk H
      clear H
      go_wp2
      go_meet
      case rel => exact ⟨_, (130), (by first | rfl | (simp; done) | (simp [*]; done)), H', ⟨by first | omega | exact Nat.le_refl _⟩, ⟨by repeat (first | (with_reducible first | exact HB.out | apply below_alloc | apply pw_below_drewN | apply below_drew1) | exact HB.out)⟩⟩
  case rest =>
    clear HC4
    try clear p2
    try clear c3
    try clear c5
    obtain ⟨kq, x5_3, rfl, HA, HJ3, HB⟩ := hcut
    cases kq with
    | zero => exact absurd HA.out (by simp [signetlaw13_NameChecks.j0])
    | succ kj3 =>
      have H := HA.out
      clear HA
      simp only [signetlaw13_NameChecks.j0] at H
      replace H := Option.bind_eq_some_iff.mp H
      obtain ⟨t112, A60, H⟩ := H
      replace H : (if t112 = true then ((name_Check.f a0).bind fun t113 => (if t113 = x5_3 then ((name_Compare.f a0 a1).bind fun t114 => ((signetref13_Compare.f kj3 a0 a1).bind fun t115 => (if t114 = t115 then ((name_Compare.f a1 a0).bind fun t116 => ((signetref13_Compare.f kj3 a0 a1).bind fun t117 => (some (t116 == (wrap64 (-t117)))))) else (some false)))) else (some false))) else (some false)) = some r := H
      have A6 := Aside0.mk A60
      clear A60
      by_cases c7 : t112 = true
      · subst c7
        have H1 : ((name_Check.f a0).bind fun t113 => (if t113 = x5_3 then ((name_Compare.f a0 a1).bind fun t114 => ((signetref13_Compare.f kj3 a0 a1).bind fun t115 => (if t114 = t115 then ((name_Compare.f a1 a0).bind fun t116 => ((signetref13_Compare.f kj3 a0 a1).bind fun t117 => (some (t116 == (wrap64 (-t117)))))) else (some false)))) else (some false))) = some r := by rw [if_pos rfl] at H; exact H
        clear H
        have H := H1
        clear H1
        replace H := Option.bind_eq_some_iff.mp H
        obtain ⟨t113, A80, H⟩ := H
        replace H : (if t113 = x5_3 then ((name_Compare.f a0 a1).bind fun t114 => ((signetref13_Compare.f kj3 a0 a1).bind fun t115 => (if t114 = t115 then ((name_Compare.f a1 a0).bind fun t116 => ((signetref13_Compare.f kj3 a0 a1).bind fun t117 => (some (t116 == (wrap64 (-t117)))))) else (some false)))) else (some false)) = some r := H
        have A8 := Aside0.mk A80
        clear A80
        by_cases c9 : t113 = x5_3
        · rw [if_pos c9] at H
          have c9b0 : (t113 == x5_3) = true := beq_iff_eq.mpr c9
          have c9b1 : (t113 != x5_3) = false := bne_eq_false_iff_eq.mpr c9
          clear c9
          replace H := Option.bind_eq_some_iff.mp H
          obtain ⟨t114, A100, H⟩ := H
          replace H : ((signetref13_Compare.f kj3 a0 a1).bind fun t115 => (if t114 = t115 then ((name_Compare.f a1 a0).bind fun t116 => ((signetref13_Compare.f kj3 a0 a1).bind fun t117 => (some (t116 == (wrap64 (-t117)))))) else (some false))) = some r := H
          have A10 := Aside0.mk A100
          clear A100
          replace H := Option.bind_eq_some_iff.mp H
          obtain ⟨t115, A110, H⟩ := H
          replace H : (if t114 = t115 then ((name_Compare.f a1 a0).bind fun t116 => ((signetref13_Compare.f kj3 a0 a1).bind fun t117 => (some (t116 == (wrap64 (-t117)))))) else (some false)) = some r := H
          have A11 := Aside0.mk A110
          clear A110
          by_cases c12 : t114 = t115
          · rw [if_pos c12] at H
            have c12b0 : (t114 == t115) = true := beq_iff_eq.mpr c12
            have c12b1 : (t114 != t115) = false := bne_eq_false_iff_eq.mpr c12
            clear c12
            replace H := Option.bind_eq_some_iff.mp H
            obtain ⟨t116, A130, H⟩ := H
            replace H : ((signetref13_Compare.f kj3 a0 a1).bind fun t117 => (some (t116 == (wrap64 (-t117))))) = some r := H
            have A13 := Aside0.mk A130
            clear A130
            replace H := Option.bind_eq_some_iff.mp H
            obtain ⟨t117, A140, H⟩ := H
            replace H : (some (t116 == (wrap64 (-t117)))) = some r := H
            have A14 := Aside0.mk A140
            clear A140
            obtain rfl := Option.some.inj H
            have h117_ : t117 = t115 := Option.some.inj (A14.out.symm.trans A11.out)
            go_wp2_with (first | ((with_reducible refine gate_callee (f := 6) rfl ?_); refine goesL_ (some 8) rfl rfl Try.func6 (by kernel_rfl) rfl #[] rfl (by (try simp only [List.map_toArray, List.map_cons, List.map_nil]); first | done | rfl | (simp only [List.length_drop, List.length_take]; rfl)) ?_; (with_reducible refine (signetlaw13_awake.calls  true _ A6.out).mono ?_); rintro e w15 ⟨rfl, hb⟩; refine ⟨_, rfl, ?_⟩; have n0_ := Aside0.mk (below_step (by repeat (first | (with_reducible first | exact HB.out | apply below_alloc | apply pw_below_drewN | apply below_drew1) | exact HB.out)) hb); clear HB; have HB := n0_; clear n0_; (try clear hb); (try clear hb2); (try clear hk); (try clear hi)) | (go_at_call 7; (with_reducible refine (name_Check.calls a0 t113 _ A8.out).mono ?_); rintro e w16 ⟨rfl, hb⟩; have n0_ := Aside0.mk (below_step (by repeat (first | (with_reducible first | exact HB.out | apply below_alloc | apply pw_below_drewN | apply below_drew1) | exact HB.out)) hb); clear HB; have HB := n0_; clear n0_; (try clear hb); (try clear hb2); (try clear hk); (try clear hi)) | (go_at_call 8; (with_reducible refine (name_Compare.calls a0 a1 t114 _ A10.out).mono ?_); rintro e w' ⟨rfl, ⟨nd, rfl⟩⟩) | (go_at_call 9; (with_reducible refine (signetref13_Compare.calls kj3 a0 a1 t115 _ A11.out).mono ?_); rintro e w' ⟨rfl, ⟨nd, rfl⟩⟩) | (go_at_call 8; (with_reducible refine (name_Compare.calls a1 a0 t116 _ A13.out).mono ?_); rintro e w' ⟨rfl, ⟨nd, rfl⟩⟩) | (go_at_call 9; (with_reducible refine (signetref13_Compare.calls kj3 a0 a1 t117 _ A14.out).mono ?_); rintro e w' ⟨rfl, ⟨nd, rfl⟩⟩))
            go_ret
            exact ⟨by first | rfl | (rw [h117_]; rfl) | (simp [errW_none, errW_some] <;> rfl) | (simp [*, errW_none, errW_some] <;> rfl), by repeat (first | (with_reducible first | exact HB.out | apply below_alloc | apply pw_below_drewN | apply below_drew1) | exact HB.out)⟩
          · rw [if_neg c12] at H
            have c12b0 : (t114 == t115) = false := beq_eq_false_iff_ne.mpr c12
            have c12b1 : (t114 != t115) = true := bne_iff_ne.mpr c12
            obtain rfl := Option.some.inj H
            go_wp2_with (first | ((with_reducible refine gate_callee (f := 6) rfl ?_); refine goesL_ (some 8) rfl rfl Try.func6 (by kernel_rfl) rfl #[] rfl (by (try simp only [List.map_toArray, List.map_cons, List.map_nil]); first | done | rfl | (simp only [List.length_drop, List.length_take]; rfl)) ?_; (with_reducible refine (signetlaw13_awake.calls  true _ A6.out).mono ?_); rintro e w17 ⟨rfl, hb⟩; refine ⟨_, rfl, ?_⟩; have n0_ := Aside0.mk (below_step (by repeat (first | (with_reducible first | exact HB.out | apply below_alloc | apply pw_below_drewN | apply below_drew1) | exact HB.out)) hb); clear HB; have HB := n0_; clear n0_; (try clear hb); (try clear hb2); (try clear hk); (try clear hi)) | (go_at_call 7; (with_reducible refine (name_Check.calls a0 t113 _ A8.out).mono ?_); rintro e w18 ⟨rfl, hb⟩; have n0_ := Aside0.mk (below_step (by repeat (first | (with_reducible first | exact HB.out | apply below_alloc | apply pw_below_drewN | apply below_drew1) | exact HB.out)) hb); clear HB; have HB := n0_; clear n0_; (try clear hb); (try clear hb2); (try clear hk); (try clear hi)) | (go_at_call 8; (with_reducible refine (name_Compare.calls a0 a1 t114 _ A10.out).mono ?_); rintro e w' ⟨rfl, ⟨nd, rfl⟩⟩) | (go_at_call 9; (with_reducible refine (signetref13_Compare.calls kj3 a0 a1 t115 _ A11.out).mono ?_); rintro e w' ⟨rfl, ⟨nd, rfl⟩⟩))
            go_ret
            exact ⟨by first | rfl | (simp [errW_none, errW_some] <;> rfl) | (simp [*, errW_none, errW_some] <;> rfl), by repeat (first | (with_reducible first | exact HB.out | apply below_alloc | apply pw_below_drewN | apply below_drew1) | exact HB.out)⟩
        · rw [if_neg c9] at H
          have c9b0 : (t113 == x5_3) = false := beq_eq_false_iff_ne.mpr c9
          have c9b1 : (t113 != x5_3) = true := bne_iff_ne.mpr c9
          obtain rfl := Option.some.inj H
          go_wp2_with (first | ((with_reducible refine gate_callee (f := 6) rfl ?_); refine goesL_ (some 8) rfl rfl Try.func6 (by kernel_rfl) rfl #[] rfl (by (try simp only [List.map_toArray, List.map_cons, List.map_nil]); first | done | rfl | (simp only [List.length_drop, List.length_take]; rfl)) ?_; (with_reducible refine (signetlaw13_awake.calls  true _ A6.out).mono ?_); rintro e w19 ⟨rfl, hb⟩; refine ⟨_, rfl, ?_⟩; have n0_ := Aside0.mk (below_step (by repeat (first | (with_reducible first | exact HB.out | apply below_alloc | apply pw_below_drewN | apply below_drew1) | exact HB.out)) hb); clear HB; have HB := n0_; clear n0_; (try clear hb); (try clear hb2); (try clear hk); (try clear hi)) | (go_at_call 7; (with_reducible refine (name_Check.calls a0 t113 _ A8.out).mono ?_); rintro e w20 ⟨rfl, hb⟩; have n0_ := Aside0.mk (below_step (by repeat (first | (with_reducible first | exact HB.out | apply below_alloc | apply pw_below_drewN | apply below_drew1) | exact HB.out)) hb); clear HB; have HB := n0_; clear n0_; (try clear hb); (try clear hb2); (try clear hk); (try clear hi)))
          go_ret
          exact ⟨by first | rfl | (simp [errW_none, errW_some] <;> rfl) | (simp [*, errW_none, errW_some] <;> rfl), by repeat (first | (with_reducible first | exact HB.out | apply below_alloc | apply pw_below_drewN | apply below_drew1) | exact HB.out)⟩
      · replace c7 := Bool.eq_false_iff.mpr c7
        subst c7
        have H1 : (some false) = some r := by rw [if_neg (show ¬ (false = true) by decide)] at H; exact H
        clear H
        have H := H1
        clear H1
        obtain rfl := Option.some.inj H
        go_wp2_with (first | ((with_reducible refine gate_callee (f := 6) rfl ?_); refine goesL_ (some 8) rfl rfl Try.func6 (by kernel_rfl) rfl #[] rfl (by (try simp only [List.map_toArray, List.map_cons, List.map_nil]); first | done | rfl | (simp only [List.length_drop, List.length_take]; rfl)) ?_; (with_reducible refine (signetlaw13_awake.calls  false _ A6.out).mono ?_); rintro e w21 ⟨rfl, hb⟩; refine ⟨_, rfl, ?_⟩; have n0_ := Aside0.mk (below_step (by repeat (first | (with_reducible first | exact HB.out | apply below_alloc | apply pw_below_drewN | apply below_drew1) | exact HB.out)) hb); clear HB; have HB := n0_; clear n0_; (try clear hb); (try clear hb2); (try clear hk); (try clear hi)))
        go_ret
        exact ⟨by first | rfl | (simp [errW_none, errW_some] <;> rfl) | (simp [*, errW_none, errW_some] <;> rfl), by repeat (first | (with_reducible first | exact HB.out | apply below_alloc | apply pw_below_drewN | apply below_drew1) | exact HB.out)⟩

/-- THE ONE PURE STATEMENT of signetlaw13_NameChecks: yours. -/
def signetlaw13_NameChecks.Pure : Prop := ∀ (a0 : ByteArray) (a1 : ByteArray), a0.size ≤ 140737488351232 → a1.size ≤ 140737488351232 → ∃ k, signetlaw13_NameChecks.f k a0 a1 = some true
theorem signetlaw13_NameChecks.walk (P : signetlaw13_NameChecks.Pure) (a0 : ByteArray) (a1 : ByteArray) (w : World) (w0 : a0.size ≤ 140737488351232) (w1 : a1.size ≤ 140737488351232) :
    Calls Try.prog 3 #[.string a0, .string a1] w fun e w' => e = .returned (.bool true) ∧ Below w.heap.size w w' := by
  obtain ⟨k, h⟩ := P a0 a1 w0 w1
  refine (signetlaw13_NameChecks.calls k a0 a1 true w h).mono ?_
  rintro e w' ⟨rfl, hd⟩
  exact ⟨rfl, hd⟩

end Go.Proofs.Ytgciocgdppaaiaa.P
