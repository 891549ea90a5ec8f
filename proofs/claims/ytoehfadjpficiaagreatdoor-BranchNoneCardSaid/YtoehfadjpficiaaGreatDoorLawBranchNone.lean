/- The row and the tied card of the law BranchNone: for every input it answers true, and each argument reads as it did. -/
import Derived.Test.YtoehfadjpficiaaGreatDoorEvLaw
import Derived.Test.YtoehfadjpficiaaGreatDoorEvFacts
import Derived.Test.YtoehfadjpficiaaGreatDoorEvCard
import Derived.Test.YtoehfadjpficiaaGreatDoorVBranch
import Derived.WalkKit
import Derived.ProofKit
import Derived.OpenShut
import Derived.ShutString
import Derived.ChangeOld
import Derived.Below
import Derived.SizedLaws
namespace Go.Proofs.YtoehfadjpficiaaGreatDoor.branchNone
open Go.ChangeShapes Go.WideShapes Go.ChangeAt Go.RowKit Go.Proofs.YtoehfadjpficiaaGreatDoor Go.Proofs.YtoehfadjpficiaaGreatDoor.Ev
set_option linter.unusedVariables false
set_option maxRecDepth 100000
theorem ev (ρ : Nat → Value) : isTrue (evCall (ctx noFact ρ) funT.get sum22 100000 1000 5 [.a (.agg ((List.range' 0 5).map SV.var))] .nil 0) = true := by kernel_rfl
theorem walk (v0 : Value) (W : World) (base : Nat) (h0 : Value.okWide Tryz.prog W .any base 46 v0) : Calls Tryz.prog 5 #[v0] W fun e W' => e = .returned (.bool true) ∧ Below W.heap.size W W' := by
  obtain ⟨c0, rfl, s0, r0⟩ : ∃ cs, v0 = .agg cs ∧ cs.size = 5 ∧ Row.okWide Tryz.prog W .any base 46 cs := by
    unfold Value.okWide at h0
    rw [Tryz.underlying46] at h0
    obtain ⟨cs, e1, e2, e3⟩ := h0
    exact ⟨cs, e1, e2.trans (by kernel_rfl), e3⟩
  let ρ : Nat → Value := fun i => c0.getD i undef
  have a0 : (EV.a (.agg ((List.range' 0 5).map SV.var))).rel ⟨fun _ => none, ρ⟩ (.agg c0) := agg_rel 0 5 s0 (row_one r0) fun i hi => by
    rw [Nat.zero_add]
  exact law_any noFact_ok (sum22_ok rfl) (ev ρ) (vs := [.agg c0]) ⟨a0, trivial⟩ W
theorem contract (H : Type) (enc : TypeId × Value → H) (W : World) (base : Nat) (args : Array Value) (ds gs : List (DataW H)) (before : List MemPlace)
    (hval : ∀ (j : Nat) t v, Tryz.f5.params[j]? = some t → args[j]? = some v → Value.okWide Tryz.prog W .any base t v)
    (hW : DataW.Whole enc Tryz.prog Tryz.f5.params.toList Rows.branchNoneSpec.vars false W args.toList ds gs before) :
    Calls Tryz.prog 5 args W fun e W' => ∃ v, e = .returned v ∧ Rows.branchNoneSpec.post enc Tryz.prog Tryz.f5 false true false false W args v W' := by
  have hW' := hW
  obtain ⟨p, q, hA0, hV, rfl, hfz, hnd⟩ := hW
  have hA : DataW.TrodAll enc Tryz.prog W 0 (fun _ => true) true Tryz.f5.params.toList args.toList ds p := hA0
  rw [Tryz.params5] at hA hval
  obtain ⟨v0, vs0, d0, ds0, p0, q0, hargs, rfl, rfl, h0, r0⟩ := trodAll_cons hA
  obtain ⟨rfl, rfl, rfl⟩ := trodAll_nil r0
  obtain rfl : args = #[v0] := by cases args; simp_all
  obtain ⟨rfl, rfl⟩ := trodVars_none hV
  have kk0 := h0
  have lt0 : ∀ x ∈ p0, x.block < W.heap.size := by obtain ⟨m, hm⟩ := kk0; exact DataW.trod_lt m _ _ _ hm
  refine (walk v0 W base (hval 0 46 v0 rfl rfl)).mono fun e W' ⟨he, bel⟩ => ?_
  subst he
  exact ⟨_, rfl, _, _, _, [], _, [], hW', trodAll_mk1 (shut_bool Tryz.underlying4 _), (trodAll_cons_mk (Below.trod laidOut (by kernel_rfl) (of_decide_eq_true (by kernel_rfl)) kk0 bel lt0) trodAll_mk0), rfl, bel.frame _, fun h => by cases h⟩
theorem laid_met (os : Os) : laidMet Tryz.prog Rows.branchNoneRow.laid ((laidWorld os).forCall (fun _ _ => 0) ⟨#[], #[.agg #[.int .i64 0, .string ByteArray.empty, .string ByteArray.empty, .int .u64 0, .slice none 0 0]], []⟩).memory :=
  laidMet_of_run' 8 (by kernel_rfl) (by kernel_rfl)
theorem reads (os : Os) {H : Type} (enc : TypeId × Value → H) : ∃ places, DataW.whole enc Tryz.prog ((laidWorld os).forCall (fun _ _ => 0) ⟨#[], #[.agg #[.int .i64 0, .string ByteArray.empty, .string ByteArray.empty, .int .u64 0, .slice none 0 0]], []⟩).memory Tryz.f5.params.toList Rows.branchNoneSpec.vars false (#[.agg #[.int .i64 0, .string ByteArray.empty, .string ByteArray.empty, .int .u64 0, .slice none 0 0]] : Array Value).toList 8 = some ([.agg [.lit (.int .i64 0), .lit (.string []), .lit (.string []), .lit (.int .u64 0), .nil]], [], places) :=
  ⟨[], by kernel_rfl⟩
theorem lifted (os : Os) (started : os.Started) (H : Type) (enc : TypeId × Value → H) (F : Stop.Interp) :
    ReturnsInHanded {} Tryz.checked os 5 .any ((OpenSpec.ofChange Rows.branchNoneSpec).preRow enc Tryz.prog Tryz.f5 Rows.branchNoneRow.domain false Rows.branchNoneRow.laid) (((OpenSpec.ofChange Rows.branchNoneSpec).at F).post enc Tryz.prog Tryz.f5 false true false false) := by
  obtain ⟨places, hx⟩ := reads os enc
  refine returnsInHanded_of_row (C := Tryz.checked) (s := OpenSpec.ofChange Rows.branchNoneSpec) own started (by kernel_rfl) Tryz.func5
    (witness_row_at (enc := enc) (C := Tryz.checked) false (laidWorld os) #[.agg #[.int .i64 0, .string ByteArray.empty, .string ByteArray.empty, .int .u64 0, .slice none 0 0]] rfl (by kernel_rfl) (by kernel_rfl) (by kernel_rfl)
      (OpenSpec.preRow_of_cond 8 hx (by kernel_rfl) (fun k hk => by cases hk) (by kernel_rfl) (laid_met os))) ?_
  intro W base args ds gs before hval hW _ _ hsz _ _ _
  exact contract H enc W base args ds gs before hval hW
theorem j0 : (Rows.branchNoneRow.wf (OpenSpec.ofChange Rows.branchNoneSpec)) = true := by kernel_rfl
theorem j3 : (Tryz.f5.params.all (Tryz.prog.readableRec ·)) = true := by kernel_rfl
theorem j4 : (namedTie Tryz.prog Rows.branchNoneRow.named Rows.branchNoneSpec.vars) = true := by kernel_rfl
theorem j5 : ((Rows.branchNoneRow.stops == [])) = true := by kernel_rfl
theorem j7 : ((Rows.branchNoneRow.knobs == [])) = true := by kernel_rfl
theorem j9 : ((Rows.branchNoneRow.inPlace == Tryz.prog.inPlace 5)) = true := by kernel_rfl
theorem j10 : ((Rows.branchNoneRow.unfollowed == Tryz.prog.unfollowed 5)) = true := by kernel_rfl
theorem j11 : ((Rows.branchNoneRow.recurses == Tryz.prog.recurses 5)) = true := by kernel_rfl
theorem j12 : ((Rows.branchNoneRow.named == Tryz.prog.varsNamed 5)) = true := by kernel_rfl
theorem j13 : ((Rows.branchNoneRow.maps == (Tryz.f5.params.toList ++ Rows.branchNoneSpec.plain.varTypes Tryz.prog).any (Tryz.prog.mapsRec ·))) = true := by kernel_rfl
theorem j14 : ((Rows.branchNoneRow.ifaces == (Tryz.f5.params.toList ++ Rows.branchNoneSpec.plain.varTypes Tryz.prog).any (Tryz.prog.ifacesRec ·))) = true := by kernel_rfl
theorem j15 : ((Rows.branchNoneRow.mapsOut == Tryz.prog.mapsAmong Tryz.f5.resultTypes.toList)) = true := by kernel_rfl
theorem j16 : ((Rows.branchNoneRow.loops == (Tryz.f5.params.toList ++ Rows.branchNoneSpec.plain.varTypes Tryz.prog).any (Tryz.prog.loopsFrom ·))) = true := by kernel_rfl
theorem j17 : ((Rows.branchNoneRow.wideKeys == (Tryz.f5.params.toList ++ Rows.branchNoneSpec.plain.varTypes Tryz.prog ++ Tryz.f5.resultTypes.toList).any (Tryz.prog.wideKeysFrom ·))) = true := by kernel_rfl
theorem j18 : (Rows.branchNoneSpec.vars.all (Tryz.prog.varReadable ·)) = true := by kernel_rfl
theorem j19 : (Tryz.f5.resultTypes.all (fun t => Tryz.prog.readableRec t && decide (t < Tryz.prog.types.size))) = true := by kernel_rfl
theorem j20 : ((Rows.branchNoneRow.ifacesOut == Tryz.f5.resultTypes.toList.any (Tryz.prog.ifacesRec ·))) = true := by kernel_rfl
theorem j21 : ((Rows.branchNoneRow.loopsOut == Tryz.f5.resultTypes.toList.any (Tryz.prog.loopsFrom ·))) = true := by kernel_rfl
theorem j23 : (Rows.branchNoneRow.shortTexts.isNone) = true := by kernel_rfl
theorem j28 : ((Rows.branchNoneRow.kinds == (if Rows.branchNoneRow.domain.isEmpty then [] else Tryz.f5.params.toList.map fun t => match Tryz.prog.underlying t with | some (.int k) => some k | _ => none))) = true := by kernel_rfl
theorem j29 : ((Rows.branchNoneRow.pinned == Rows.branchNoneRow.pinnedBy)) = true := by kernel_rfl
theorem j30 : ((Rows.branchNoneRow.veiled == (Tryz.f5.params.toList ++ Rows.branchNoneSpec.plain.varTypes Tryz.prog ++ Tryz.f5.resultTypes.toList).any (Tryz.prog.veiledRec ·))) = true := by kernel_rfl
theorem j31 : (Rows.branchNoneRow.veiledFits Tryz.prog Tryz.f5.params.toList (Tryz.f5.params.toList ++ Rows.branchNoneSpec.plain.varTypes Tryz.prog ++ Tryz.f5.resultTypes.toList)) = true := by kernel_rfl
theorem closed : joinedFacts Tryz.prog 5 Tryz.f5 Rows.branchNoneSpec Rows.branchNoneRow = true := Ev.andt (Ev.andt (Ev.andt (Ev.andt (Ev.andt (Ev.andt (Ev.andt (Ev.andt (Ev.andt (Ev.andt (Ev.andt (Ev.andt (Ev.andt (Ev.andt (Ev.andt (Ev.andt (Ev.andt (Ev.andt (Ev.andt (Ev.andt (Ev.andt (Ev.andt (Ev.andt (Ev.andt (Ev.andt (Ev.andt (Ev.andt (Ev.andt (Ev.andt (Ev.andt (Ev.andt j0 Ev.laidOut) Ev.p_maps) j3) j4) j5) Ev.p_stops) j7) Ev.p_knobs) j9) j10) j11) j12) j13) j14) j15) j16) j17) j18) j19) j20) j21) Ev.p_plain) j23) Ev.p_heard) Ev.p_enter) Ev.p_lifts) Ev.p_make) j28) j29) j30) j31
theorem named : Tryz.prog.funcNamed "signet/signetlaw22.BranchNone" = some 5 := by kernel_rfl
theorem said : Rows.BranchNoneSaid :=
  OpenClaim.holds_of_cond 5 Tryz.f5 rfl rfl rfl rfl rfl rfl rfl ⟨rfl, rfl, rfl, rfl, rfl⟩ rfl rfl rfl rfl rfl named Tryz.func5 closed
    (of_decide_eq_true (by kernel_rfl)) (by unfold Func.isWrapper; first | (rw [if_pos (by decide +kernel)]; kernel_rfl) | (rw [if_neg (by decide +kernel)]; exact ⟨rfl, rfl⟩))
    (fun os started H enc _ F => by rw [OpenClaim.pre_eq_preRow]; exact lifted os started H enc F)
theorem plain (f : FuncId) (fn : Func) (hf : Tryz.pinned.checked.prog.funcNamed "signet/signetlaw22.BranchNone" = some f) (hfn : Tryz.pinned.checked.prog.funcs[f]? = some fn) :
    true = Tryz.pinned.checked.prog.looks [] ∧ ∀ (j : Nat) t, fn.params[j]? = some t → Tryz.pinned.checked.prog.wantsStandIn t = false := by
  obtain rfl : f = 5 := Option.some.inj ((show Tryz.prog.funcNamed "signet/signetlaw22.BranchNone" = some 5 from named).symm.trans hf) |>.symm
  obtain rfl : fn = Tryz.f5 := (Option.some.inj (Tryz.func5.symm.trans hfn)).symm
  refine ⟨by kernel_rfl, fun j t ht => ?_⟩
  rw [Tryz.params5] at ht
  have hm : t ∈ [46] := by simpa using Array.mem_of_getElem? ht
  have hall : ([46].all fun u => !Tryz.prog.wantsStandIn u) = true := by kernel_rfl
  exact (show Tryz.prog.wantsStandIn t = false by simpa using List.all_eq_true.1 hall t hm)
theorem card : Rows.BranchNoneCardSaid :=
  Claim7.holds_tied_plain_at .later [] _ _ _ _ said (fun _ h => by cases h) (by kernel_rfl) (fun _ h => by cases h) branchNone_row_tie rfl ⟨rfl, rfl⟩ (by kernel_rfl) rfl plain (by kernel_rfl)
end Go.Proofs.YtoehfadjpficiaaGreatDoor.branchNone
namespace Go.Proofs.YtoehfadjpficiaaGreatDoor
/-- The card, under a short name, for the claim. -/
theorem branchNone_holds : Rows.BranchNoneCardSaid := branchNone.card
end Go.Proofs.YtoehfadjpficiaaGreatDoor

