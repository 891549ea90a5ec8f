/- The row of the law InodesNil: for every input it answers true, and each argument reads as it did. -/
import Derived.Test.YtoehfadjpficiaaGreatEvLaw
import Derived.Test.YtoehfadjpficiaaGreatEvFacts
import Derived.WalkKit
import Derived.ProofKit
import Derived.OpenShut
import Derived.ShutString
import Derived.ChangeOld
import Derived.Below
import Derived.SizedLaws
namespace Go.Proofs.YtoehfadjpficiaaGreat.inodesNil
open Go.ChangeShapes Go.WideShapes Go.ChangeAt Go.RowKit Go.Proofs.YtoehfadjpficiaaGreat.Ev
set_option linter.unusedVariables false
set_option maxRecDepth 100000
theorem ev (ρ : Nat → Value) : isTrue (evCall (ctx noFact ρ) funT.get 100000 1000 7 [.a (.agg ((List.range' 0 5).map SV.var))] .nil 0) = true := by kernel_rfl
theorem walk (v0 : Value) (W : World) (base : Nat) (h0 : Value.okWide Tryz.prog W .any base 101 v0) : Calls Tryz.prog 7 #[v0] W fun e W' => e = .returned (.bool true) ∧ Below W.heap.size W W' := by
  obtain ⟨c0, rfl, s0, r0⟩ : ∃ cs, v0 = .agg cs ∧ cs.size = 5 ∧ Row.okWide Tryz.prog W .any base 101 cs := by
    unfold Value.okWide at h0
    rw [Tryz.underlying101] at h0
    obtain ⟨cs, e1, e2, e3⟩ := h0
    exact ⟨cs, e1, e2.trans (by kernel_rfl), e3⟩
  let ρ : Nat → Value := fun i => (c0.toList).getD i undef
  have a0 : (EV.a (.agg ((List.range' 0 5).map SV.var))).rel ⟨fun _ => none, ρ⟩ (.agg c0) := agg_rel 0 5 s0 (row_one r0) fun i hi => by
    show (c0.toList).getD (0 + i) undef = _
    simp [List.getD_eq_getElem?_getD, List.getElem?_append, s0]
  exact law_any noFact_ok (ev ρ) (vs := [.agg c0]) ⟨a0, trivial⟩ W
theorem lifted (os : Os) (started : os.Started) (H : Type) (enc : TypeId × Value → H) :
    ReturnsInHanded {} Tryz.checked os 7 .any (Rows.inodesNilSpec.pre6 enc Tryz.prog Tryz.f7 Rows.inodesNilRow.domain false) (Rows.inodesNilSpec.post enc Tryz.prog Tryz.f7 false true false false) := by
  refine returnsInHanded_of_change_sized (C := Tryz.checked) own started (by kernel_rfl) Tryz.func7
    (ChangeSpec.witness6 (enc := enc) (C := Tryz.checked) false ⟨#[], #[.agg #[.int .i64 0, .int .i64 0, .int .i64 0, .int .u8 0, .int .u64 0]], []⟩ 8 (by kernel_rfl) (by kernel_rfl) (by kernel_rfl) (by kernel_rfl)) ?_
  intro W base args ds gs before hval0 hW hcnd hsz0 _
  have hval : ∀ (j : Nat) t v, Tryz.f7.params[j]? = some t → args[j]? = some v → Value.okWide Tryz.prog W .any base t v := hval0
  have hW' := hW
  obtain ⟨p, q, hA0, hV, rfl, hfz, hnd⟩ := hW
  have hA : DataW.TrodAll enc Tryz.prog W 0 (fun _ => true) true Tryz.f7.params.toList args.toList ds p := hA0
  rw [Tryz.params7] at hA hval
  obtain ⟨v0, vs0, d0, ds0, p0, q0, hargs, rfl, rfl, k0, r0⟩ := trodAll_cons hA
  obtain ⟨rfl, rfl, rfl⟩ := trodAll_nil r0
  obtain rfl : args = #[v0] := by cases args; simp_all
  obtain ⟨rfl, rfl⟩ := trodVars_none hV
  have kk0 := k0
  have lt0 : ∀ x ∈ p0, x.block < W.heap.size := by obtain ⟨m, hm⟩ := kk0; exact DataW.trod_lt m _ _ _ hm
  refine (walk v0 W base (hval 0 101 v0 rfl rfl)).mono fun e W' ⟨he, bel⟩ => ?_
  subst he
  exact ⟨_, rfl, _, _, _, [], _, [], hW', trodAll_mk1 (shut_bool Tryz.underlying4 _), (trodAll_cons_mk (Below.trod laidOut (by kernel_rfl) (of_decide_eq_true (by kernel_rfl)) kk0 bel lt0) trodAll_mk0), rfl, bel.frame _, fun h => by cases h⟩
theorem j0 : (Rows.inodesNilRow.wf (OpenSpec.ofChange Rows.inodesNilSpec)) = true := by kernel_rfl
theorem j3 : (Tryz.f7.params.all (Tryz.prog.readableRec ·)) = true := by kernel_rfl
theorem j4 : (namedTie Tryz.prog Rows.inodesNilRow.named Rows.inodesNilSpec.vars) = true := by kernel_rfl
theorem j5 : ((Rows.inodesNilRow.stops == [])) = true := by kernel_rfl
theorem j7 : ((Rows.inodesNilRow.knobs == [])) = true := by kernel_rfl
theorem j9 : ((Rows.inodesNilRow.inPlace == Tryz.prog.inPlace 7)) = true := by kernel_rfl
theorem j10 : ((Rows.inodesNilRow.unfollowed == Tryz.prog.unfollowed 7)) = true := by kernel_rfl
theorem j11 : ((Rows.inodesNilRow.recurses == Tryz.prog.recurses 7)) = true := by kernel_rfl
theorem j12 : ((Rows.inodesNilRow.named == Tryz.prog.varsNamed 7)) = true := by kernel_rfl
theorem j13 : ((Rows.inodesNilRow.maps == (Tryz.f7.params.toList ++ Rows.inodesNilSpec.plain.varTypes Tryz.prog).any (Tryz.prog.mapsRec ·))) = true := by kernel_rfl
theorem j14 : ((Rows.inodesNilRow.ifaces == (Tryz.f7.params.toList ++ Rows.inodesNilSpec.plain.varTypes Tryz.prog).any (Tryz.prog.ifacesRec ·))) = true := by kernel_rfl
theorem j15 : ((Rows.inodesNilRow.mapsOut == Tryz.prog.mapsAmong Tryz.f7.resultTypes.toList)) = true := by kernel_rfl
theorem j16 : ((Rows.inodesNilRow.loops == (Tryz.f7.params.toList ++ Rows.inodesNilSpec.plain.varTypes Tryz.prog).any (Tryz.prog.loopsFrom ·))) = true := by kernel_rfl
theorem j17 : ((Rows.inodesNilRow.wideKeys == (Tryz.f7.params.toList ++ Rows.inodesNilSpec.plain.varTypes Tryz.prog ++ Tryz.f7.resultTypes.toList).any (Tryz.prog.wideKeysFrom ·))) = true := by kernel_rfl
theorem j18 : (Rows.inodesNilSpec.vars.all (Tryz.prog.varReadable ·)) = true := by kernel_rfl
theorem j19 : (Tryz.f7.resultTypes.all (fun t => Tryz.prog.readableRec t && decide (t < Tryz.prog.types.size))) = true := by kernel_rfl
theorem j20 : ((Rows.inodesNilRow.ifacesOut == Tryz.f7.resultTypes.toList.any (Tryz.prog.ifacesRec ·))) = true := by kernel_rfl
theorem j21 : ((Rows.inodesNilRow.loopsOut == Tryz.f7.resultTypes.toList.any (Tryz.prog.loopsFrom ·))) = true := by kernel_rfl
theorem j23 : (Rows.inodesNilRow.shortTexts.isNone) = true := by kernel_rfl
theorem j28 : ((Rows.inodesNilRow.kinds == (if Rows.inodesNilRow.domain.isEmpty then [] else Tryz.f7.params.toList.map fun t => match Tryz.prog.underlying t with | some (.int k) => some k | _ => none))) = true := by kernel_rfl
theorem j29 : ((Rows.inodesNilRow.pinned == Rows.inodesNilRow.pinnedBy)) = true := by kernel_rfl
theorem j30 : ((Rows.inodesNilRow.veiled == (Tryz.f7.params.toList ++ Rows.inodesNilSpec.plain.varTypes Tryz.prog ++ Tryz.f7.resultTypes.toList).any (Tryz.prog.veiledRec ·))) = true := by kernel_rfl
theorem j31 : (Rows.inodesNilRow.veiledFits Tryz.prog Tryz.f7.params.toList (Tryz.f7.params.toList ++ Rows.inodesNilSpec.plain.varTypes Tryz.prog ++ Tryz.f7.resultTypes.toList)) = true := by kernel_rfl
theorem closed : joinedFacts Tryz.prog 7 Tryz.f7 Rows.inodesNilSpec Rows.inodesNilRow = true := Ev.andt (Ev.andt (Ev.andt (Ev.andt (Ev.andt (Ev.andt (Ev.andt (Ev.andt (Ev.andt (Ev.andt (Ev.andt (Ev.andt (Ev.andt (Ev.andt (Ev.andt (Ev.andt (Ev.andt (Ev.andt (Ev.andt (Ev.andt (Ev.andt (Ev.andt (Ev.andt (Ev.andt (Ev.andt (Ev.andt (Ev.andt (Ev.andt (Ev.andt (Ev.andt (Ev.andt j0 Ev.laidOut) Ev.p_maps) j3) j4) j5) Ev.p_stops) j7) Ev.p_knobs) j9) j10) j11) j12) j13) j14) j15) j16) j17) j18) j19) j20) j21) Ev.p_plain) j23) Ev.p_heard) Ev.p_enter) Ev.p_lifts) Ev.p_make) j28) j29) j30) j31
theorem named : Tryz.prog.funcNamed "signet/signetlaw15.InodesNil" = some 7 := by kernel_rfl
theorem over : Rows.inodesNilRow.holds Tryz.pinned (OpenSpec.ofChange Rows.inodesNilSpec) :=
  OpenClaim.holds_of_wide 7 Tryz.f7 rfl rfl rfl rfl rfl rfl rfl ⟨rfl, rfl, rfl, rfl, rfl⟩ rfl rfl rfl rfl rfl named Tryz.func7 closed
    (of_decide_eq_true (by kernel_rfl)) (by unfold Func.isWrapper; first | (rw [if_pos (by decide +kernel)]; kernel_rfl) | (rw [if_neg (by decide +kernel)]; exact ⟨rfl, rfl⟩))
    (fun os started H enc _ => lifted os started H enc)
end Go.Proofs.YtoehfadjpficiaaGreat.inodesNil
namespace Go.Proofs.YtoehfadjpficiaaGreat
/-- The row, under a short name, for the claim. -/
theorem inodesNil_holds : Rows.InodesNilSaid := inodesNil.over
end Go.Proofs.YtoehfadjpficiaaGreat
