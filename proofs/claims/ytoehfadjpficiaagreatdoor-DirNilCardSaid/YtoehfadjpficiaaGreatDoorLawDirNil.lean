/- The row and the tied card of the law DirNil: for every input it answers true, and each argument reads as it did. -/
import Derived.Test.YtoehfadjpficiaaGreatDoorEvLaw
import Derived.Test.YtoehfadjpficiaaGreatDoorEvFacts
import Derived.Test.YtoehfadjpficiaaGreatDoorEvCard
import Derived.Test.YtoehfadjpficiaaGreatDoorVDirNil
import Derived.WalkKit
import Derived.ProofKit
import Derived.OpenShut
import Derived.ShutString
import Derived.ChangeOld
import Derived.Below
import Derived.SizedLaws
namespace Go.Proofs.YtoehfadjpficiaaGreatDoor.dirNil
open Go.ChangeShapes Go.WideShapes Go.ChangeAt Go.RowKit Go.Proofs.YtoehfadjpficiaaGreatDoor Go.Proofs.YtoehfadjpficiaaGreatDoor.Ev
set_option linter.unusedVariables false
set_option maxRecDepth 100000
theorem ev (ρ : Nat → Value) : isTrue (evCall (ctx noFact ρ) funT.get sum17 100000 1000 3 [.a (.s (.var 0)), .a (.agg ((List.range' 1 2).map SV.var))] .nil 0) = true := by kernel_rfl
theorem walk (v0 v1 : Value) (W : World) (base : Nat) (h0 : Value.okWide Tryz.prog W .any base 3 v0) (h1 : Value.okWide Tryz.prog W .any base 23 v1) : Calls Tryz.prog 3 #[v0, v1] W fun e W' => e = .returned (.bool true) ∧ Below W.heap.size W W' := by
  have h0 : v0.oneCell' = true := by
    unfold Value.okWide at h0
    rw [Tryz.underlying3] at h0
    exact cell_one h0
  obtain ⟨c1, rfl, s1, r1⟩ : ∃ cs, v1 = .agg cs ∧ cs.size = 2 ∧ Row.okWide Tryz.prog W .any base 23 cs := by
    unfold Value.okWide at h1
    rw [Tryz.underlying23] at h1
    obtain ⟨cs, e1, e2, e3⟩ := h1
    exact ⟨cs, e1, e2.trans (by kernel_rfl), e3⟩
  let ρ : Nat → Value := fun i => ([v0] ++ c1.toList).getD i undef
  have a0 : (EV.a (.s (.var 0))).rel ⟨fun _ => none, ρ⟩ v0 := ⟨rfl, h0⟩
  have a1 : (EV.a (.agg ((List.range' 1 2).map SV.var))).rel ⟨fun _ => none, ρ⟩ (.agg c1) := agg_rel 1 2 s1 (row_one r1) fun i hi => by
    show ([v0] ++ c1.toList).getD (1 + i) undef = _
    simp [List.getD_eq_getElem?_getD, Nat.add_comm 1 i]
  exact law_any noFact_ok (sum17_ok rfl) (ev ρ) (vs := [v0, .agg c1]) ⟨a0, a1, trivial⟩ W
theorem contract (H : Type) (enc : TypeId × Value → H) (W : World) (base : Nat) (args : Array Value) (ds gs : List (DataW H)) (before : List MemPlace)
    (hval : ∀ (j : Nat) t v, Tryz.f3.params[j]? = some t → args[j]? = some v → Value.okWide Tryz.prog W .any base t v)
    (hW : DataW.Whole enc Tryz.prog Tryz.f3.params.toList Rows.dirNilSpec.vars false W args.toList ds gs before) :
    Calls Tryz.prog 3 args W fun e W' => ∃ v, e = .returned v ∧ Rows.dirNilSpec.post enc Tryz.prog Tryz.f3 false true false false W args v W' := by
  have hW' := hW
  obtain ⟨p, q, hA0, hV, rfl, hfz, hnd⟩ := hW
  have hA : DataW.TrodAll enc Tryz.prog W 0 (fun _ => true) true Tryz.f3.params.toList args.toList ds p := hA0
  rw [Tryz.params3] at hA hval
  obtain ⟨v0, vs0, d0, ds0, p0, q0, hargs, rfl, rfl, h0, r0⟩ := trodAll_cons hA
  obtain ⟨v1, vs1, d1, ds1, p1, q1, rfl, rfl, rfl, h1, r1⟩ := trodAll_cons r0
  obtain ⟨rfl, rfl, rfl⟩ := trodAll_nil r1
  obtain rfl : args = #[v0, v1] := by cases args; simp_all
  obtain ⟨rfl, rfl⟩ := trodVars_none hV
  have kk0 := h0
  have lt0 : ∀ x ∈ p0, x.block < W.heap.size := by obtain ⟨m, hm⟩ := kk0; exact DataW.trod_lt m _ _ _ hm
  have kk1 := h1
  have lt1 : ∀ x ∈ p1, x.block < W.heap.size := by obtain ⟨m, hm⟩ := kk1; exact DataW.trod_lt m _ _ _ hm
  refine (walk v0 v1 W base (hval 0 3 v0 rfl rfl) (hval 1 23 v1 rfl rfl)).mono fun e W' ⟨he, bel⟩ => ?_
  subst he
  exact ⟨_, rfl, _, _, _, [], _, [], hW', trodAll_mk1 (shut_bool Tryz.underlying4 _), (trodAll_cons_mk (Below.trod laidOut (by kernel_rfl) (of_decide_eq_true (by kernel_rfl)) kk0 bel lt0) (trodAll_cons_mk (Below.trod laidOut (by kernel_rfl) (of_decide_eq_true (by kernel_rfl)) kk1 bel lt1) trodAll_mk0)), rfl, bel.frame _, fun h => by cases h⟩
theorem laid_met (os : Os) : laidMet Tryz.prog Rows.dirNilRow.laid ((laidWorld os).forCall (fun _ _ => 0) ⟨#[], #[.int .i64 0, .agg #[.int .i64 0, .string ByteArray.empty]], []⟩).memory :=
  laidMet_of_run' 8 (by kernel_rfl) (by kernel_rfl)
theorem reads (os : Os) {H : Type} (enc : TypeId × Value → H) : ∃ places, DataW.whole enc Tryz.prog ((laidWorld os).forCall (fun _ _ => 0) ⟨#[], #[.int .i64 0, .agg #[.int .i64 0, .string ByteArray.empty]], []⟩).memory Tryz.f3.params.toList Rows.dirNilSpec.vars false (#[.int .i64 0, .agg #[.int .i64 0, .string ByteArray.empty]] : Array Value).toList 8 = some ([.lit (.int .i64 0), .agg [.lit (.int .i64 0), .lit (.string [])]], [], places) :=
  ⟨[], by kernel_rfl⟩
theorem lifted (os : Os) (started : os.Started) (H : Type) (enc : TypeId × Value → H) (F : Stop.Interp) :
    ReturnsInHanded {} Tryz.checked os 3 .any ((OpenSpec.ofChange Rows.dirNilSpec).preRow enc Tryz.prog Tryz.f3 Rows.dirNilRow.domain false Rows.dirNilRow.laid) (((OpenSpec.ofChange Rows.dirNilSpec).at F).post enc Tryz.prog Tryz.f3 false true false false) := by
  obtain ⟨places, hx⟩ := reads os enc
  refine returnsInHanded_of_row (C := Tryz.checked) (s := OpenSpec.ofChange Rows.dirNilSpec) own started (by kernel_rfl) Tryz.func3
    (witness_row_at (enc := enc) (C := Tryz.checked) false (laidWorld os) #[.int .i64 0, .agg #[.int .i64 0, .string ByteArray.empty]] rfl (by kernel_rfl) (by kernel_rfl) (by kernel_rfl)
      (OpenSpec.preRow_of_cond 8 hx (by kernel_rfl) (fun k hk => by cases hk) (by kernel_rfl) (laid_met os))) ?_
  intro W base args ds gs before hval hW _ _ hsz _ _ _
  exact contract H enc W base args ds gs before hval hW
theorem j0 : (Rows.dirNilRow.wf (OpenSpec.ofChange Rows.dirNilSpec)) = true := by kernel_rfl
theorem j3 : (Tryz.f3.params.all (Tryz.prog.readableRec ·)) = true := by kernel_rfl
theorem j4 : (namedTie Tryz.prog Rows.dirNilRow.named Rows.dirNilSpec.vars) = true := by kernel_rfl
theorem j5 : ((Rows.dirNilRow.stops == [])) = true := by kernel_rfl
theorem j7 : ((Rows.dirNilRow.knobs == [])) = true := by kernel_rfl
theorem j9 : ((Rows.dirNilRow.inPlace == Tryz.prog.inPlace 3)) = true := by kernel_rfl
theorem j10 : ((Rows.dirNilRow.unfollowed == Tryz.prog.unfollowed 3)) = true := by kernel_rfl
theorem j11 : ((Rows.dirNilRow.recurses == Tryz.prog.recurses 3)) = true := by kernel_rfl
theorem j12 : ((Rows.dirNilRow.named == Tryz.prog.varsNamed 3)) = true := by kernel_rfl
theorem j13 : ((Rows.dirNilRow.maps == (Tryz.f3.params.toList ++ Rows.dirNilSpec.plain.varTypes Tryz.prog).any (Tryz.prog.mapsRec ·))) = true := by kernel_rfl
theorem j14 : ((Rows.dirNilRow.ifaces == (Tryz.f3.params.toList ++ Rows.dirNilSpec.plain.varTypes Tryz.prog).any (Tryz.prog.ifacesRec ·))) = true := by kernel_rfl
theorem j15 : ((Rows.dirNilRow.mapsOut == Tryz.prog.mapsAmong Tryz.f3.resultTypes.toList)) = true := by kernel_rfl
theorem j16 : ((Rows.dirNilRow.loops == (Tryz.f3.params.toList ++ Rows.dirNilSpec.plain.varTypes Tryz.prog).any (Tryz.prog.loopsFrom ·))) = true := by kernel_rfl
theorem j17 : ((Rows.dirNilRow.wideKeys == (Tryz.f3.params.toList ++ Rows.dirNilSpec.plain.varTypes Tryz.prog ++ Tryz.f3.resultTypes.toList).any (Tryz.prog.wideKeysFrom ·))) = true := by kernel_rfl
theorem j18 : (Rows.dirNilSpec.vars.all (Tryz.prog.varReadable ·)) = true := by kernel_rfl
theorem j19 : (Tryz.f3.resultTypes.all (fun t => Tryz.prog.readableRec t && decide (t < Tryz.prog.types.size))) = true := by kernel_rfl
theorem j20 : ((Rows.dirNilRow.ifacesOut == Tryz.f3.resultTypes.toList.any (Tryz.prog.ifacesRec ·))) = true := by kernel_rfl
theorem j21 : ((Rows.dirNilRow.loopsOut == Tryz.f3.resultTypes.toList.any (Tryz.prog.loopsFrom ·))) = true := by kernel_rfl
theorem j23 : (Rows.dirNilRow.shortTexts.isNone) = true := by kernel_rfl
theorem j28 : ((Rows.dirNilRow.kinds == (if Rows.dirNilRow.domain.isEmpty then [] else Tryz.f3.params.toList.map fun t => match Tryz.prog.underlying t with | some (.int k) => some k | _ => none))) = true := by kernel_rfl
theorem j29 : ((Rows.dirNilRow.pinned == Rows.dirNilRow.pinnedBy)) = true := by kernel_rfl
theorem j30 : ((Rows.dirNilRow.veiled == (Tryz.f3.params.toList ++ Rows.dirNilSpec.plain.varTypes Tryz.prog ++ Tryz.f3.resultTypes.toList).any (Tryz.prog.veiledRec ·))) = true := by kernel_rfl
theorem j31 : (Rows.dirNilRow.veiledFits Tryz.prog Tryz.f3.params.toList (Tryz.f3.params.toList ++ Rows.dirNilSpec.plain.varTypes Tryz.prog ++ Tryz.f3.resultTypes.toList)) = true := by kernel_rfl
theorem closed : joinedFacts Tryz.prog 3 Tryz.f3 Rows.dirNilSpec Rows.dirNilRow = true := Ev.andt (Ev.andt (Ev.andt (Ev.andt (Ev.andt (Ev.andt (Ev.andt (Ev.andt (Ev.andt (Ev.andt (Ev.andt (Ev.andt (Ev.andt (Ev.andt (Ev.andt (Ev.andt (Ev.andt (Ev.andt (Ev.andt (Ev.andt (Ev.andt (Ev.andt (Ev.andt (Ev.andt (Ev.andt (Ev.andt (Ev.andt (Ev.andt (Ev.andt (Ev.andt (Ev.andt j0 Ev.laidOut) Ev.p_maps) j3) j4) j5) Ev.p_stops) j7) Ev.p_knobs) j9) j10) j11) j12) j13) j14) j15) j16) j17) j18) j19) j20) j21) Ev.p_plain) j23) Ev.p_heard) Ev.p_enter) Ev.p_lifts) Ev.p_make) j28) j29) j30) j31
theorem named : Tryz.prog.funcNamed "signet/signetlaw17.DirNil" = some 3 := by kernel_rfl
theorem said : Rows.DirNilSaid :=
  OpenClaim.holds_of_cond 3 Tryz.f3 rfl rfl rfl rfl rfl rfl rfl ⟨rfl, rfl, rfl, rfl, rfl⟩ rfl rfl rfl rfl rfl named Tryz.func3 closed
    (of_decide_eq_true (by kernel_rfl)) (by unfold Func.isWrapper; first | (rw [if_pos (by decide +kernel)]; kernel_rfl) | (rw [if_neg (by decide +kernel)]; exact ⟨rfl, rfl⟩))
    (fun os started H enc _ F => by rw [OpenClaim.pre_eq_preRow]; exact lifted os started H enc F)
theorem plain (f : FuncId) (fn : Func) (hf : Tryz.pinned.checked.prog.funcNamed "signet/signetlaw17.DirNil" = some f) (hfn : Tryz.pinned.checked.prog.funcs[f]? = some fn) :
    true = Tryz.pinned.checked.prog.looks [] ∧ ∀ (j : Nat) t, fn.params[j]? = some t → Tryz.pinned.checked.prog.wantsStandIn t = false := by
  obtain rfl : f = 3 := Option.some.inj ((show Tryz.prog.funcNamed "signet/signetlaw17.DirNil" = some 3 from named).symm.trans hf) |>.symm
  obtain rfl : fn = Tryz.f3 := (Option.some.inj (Tryz.func3.symm.trans hfn)).symm
  refine ⟨by kernel_rfl, fun j t ht => ?_⟩
  rw [Tryz.params3] at ht
  have hm : t ∈ [3, 23] := by simpa using Array.mem_of_getElem? ht
  have hall : ([3, 23].all fun u => !Tryz.prog.wantsStandIn u) = true := by kernel_rfl
  exact (show Tryz.prog.wantsStandIn t = false by simpa using List.all_eq_true.1 hall t hm)
theorem card : Rows.DirNilCardSaid :=
  Claim7.holds_tied_plain_at .later [] _ _ _ _ said (fun _ h => by cases h) (by kernel_rfl) (fun _ h => by cases h) dirNil_row_tie rfl ⟨rfl, rfl⟩ (by kernel_rfl) rfl plain (by kernel_rfl)
end Go.Proofs.YtoehfadjpficiaaGreatDoor.dirNil
namespace Go.Proofs.YtoehfadjpficiaaGreatDoor
/-- The card, under a short name, for the claim. -/
theorem dirNil_holds : Rows.DirNilCardSaid := dirNil.card
end Go.Proofs.YtoehfadjpficiaaGreatDoor

