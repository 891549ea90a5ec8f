/- The row and the tied card of the law BranchNil: for every input it answers true, and each argument reads as it did. -/
import Derived.Test.YtoehfadjpficiaaGreatDoorEvLaw
import Derived.Test.YtoehfadjpficiaaGreatDoorEvFacts
import Derived.Test.YtoehfadjpficiaaGreatDoorEvCard
import Derived.Test.YtoehfadjpficiaaGreatDoorVBranchNil
import Derived.WalkKit
import Derived.ProofKit
import Derived.OpenShut
import Derived.ShutString
import Derived.ChangeOld
import Derived.Below
import Derived.SizedLaws
namespace Go.Proofs.YtoehfadjpficiaaGreatDoor.branchNil
open Go.ChangeShapes Go.WideShapes Go.ChangeAt Go.RowKit Go.Proofs.YtoehfadjpficiaaGreatDoor Go.Proofs.YtoehfadjpficiaaGreatDoor.Ev
set_option linter.unusedVariables false
set_option maxRecDepth 100000
theorem ts46 : Tryz.prog.cellTypes Tryz.prog.depth 46 = some [3, 9, 9, 30, 44] := by kernel_rfl
theorem walk (v0 : Value) (W : World) (base : Nat) (h0 : Value.okWide Tryz.prog W .any base 46 v0) : Calls Tryz.prog 4 #[v0] W fun e W' => e = .returned (.bool true) ∧ Below W.heap.size W W' := by
  obtain ⟨c0, rfl, s0, r0⟩ : ∃ cs, v0 = .agg cs ∧ cs.size = 5 ∧ Row.okWide Tryz.prog W .any base 46 cs := by
    unfold Value.okWide at h0
    rw [Tryz.underlying46] at h0
    obtain ⟨cs, e1, e2, e3⟩ := h0
    exact ⟨cs, e1, e2.trans (by kernel_rfl), e3⟩
  have cell : ∀ i u, [3, 9, 9, 30, 44][i]? = some u → i < 5 → Cell.okWide Tryz.prog W .any base u (c0.getD i undef) := fun i u hu hi => by
    obtain ⟨ts, h1, _, h2⟩ := r0
    rw [ts46] at h1
    obtain rfl := Option.some.inj h1
    obtain ⟨u', hu', hc⟩ := h2 i (c0.getD i undef) (by rw [Array.getD_eq_getD_getElem?, Array.getElem?_eq_getElem (by omega)]; rfl)
    have e : i % [3, 9, 9, 30, 44].length = i := Nat.mod_eq_of_lt hi
    rw [e, hu] at hu'
    obtain rfl := Option.some.inj hu'
    exact hc
  obtain ⟨K, hK, hKr⟩ : ∃ K, c0.getD 0 undef = .int .i64 K ∧ -9223372036854775808 ≤ K ∧ K ≤ 9223372036854775807 := by
    have h := cell 0 3 rfl (by omega)
    generalize c0.getD 0 undef = v at h
    simp only [Cell.okWide, Tryz.underlying3] at h
    cases v <;> simp [Cell.ok, Tryz.underlying3] at h
    obtain ⟨rfl, h⟩ := h
    simp only [IntKind.has, IntKind.min, IntKind.max, IntKind.signed, IntKind.bits] at h
    exact ⟨_, rfl, by simpa using h⟩
  obtain ⟨a, l, c, hS⟩ : ∃ a l c, c0.getD 4 undef = .slice a l c := by
    have h := cell 4 44 rfl (by omega)
    have hv : Value.okWide Tryz.prog W .any base 44 (c0.getD 4 undef) := by
      unfold Value.okWide
      rw [Tryz.underlying44]
      exact h
    exact okWide_slice Tryz.underlying44 hv
  let ρ : Nat → Value := fun i => if i = 5 then .int .i64 (if l = 0 then 1 else l) else if i = 6 then .int .i64 (Int.tmod K 8) else if i = 7 then .int .i64 (Int.tmod K 8 + 8) else c0.getD i undef
  have a0 : (EV.a (.agg ((List.range' 0 5).map SV.var))).rel ⟨fun _ => none, ρ⟩ (.agg c0) := agg_rel 0 5 s0 (row_one r0) fun i hi => by
    show (if 0 + i = 5 then _ else if 0 + i = 6 then _ else if 0 + i = 7 then _ else _) = _
    rw [if_neg (by omega), if_neg (by omega), if_neg (by omega), Nat.zero_add]
  have h1 : Int.tmod K 8 < 8 := Int.tmod_lt_of_pos K (by decide)
  have h2 : -8 < Int.tmod K 8 := by
    have := Int.lt_tmod_of_pos K (show (0 : Int) < 8 by decide)
    omega
  obtain ⟨k, hk, hk8⟩ : ∃ k : Nat, Int.tmod (Int.tmod K 8 + 8) 8 = (k : Int) ∧ k < 8 := by
    have h3 : Int.tmod (Int.tmod K 8 + 8) 8 = (Int.tmod K 8 + 8) % 8 := Int.tmod_eq_emod_of_nonneg (by omega)
    exact ⟨(Int.tmod (Int.tmod K 8 + 8) 8).toNat, by omega, by omega⟩
  by_cases hl : l = 0
  · have hok := kBr_ok (ρ := ρ) (z := .int .i64 0) hKr hK rfl rfl hS rfl (fun E hE => by subst hl; rfl)
    rw [hk] at hok
    exact law_any hok (sum22_ok rfl) (evBr0 ρ k hk8) (vs := [.agg c0]) ⟨a0, trivial⟩ W
  · have hok := kBr_ok (ρ := ρ) (z := .var 5) hKr hK rfl rfl hS rfl (fun E hE => ⟨by
      rw [hE]
      show _ = Value.int .i64 (if l = 0 then 1 else l)
      rw [if_neg hl], rfl⟩)
    rw [hk] at hok
    exact law_any hok (sum22_ok rfl) (evBr1 ρ k hk8) (vs := [.agg c0]) ⟨a0, trivial⟩ W
theorem contract (H : Type) (enc : TypeId × Value → H) (W : World) (base : Nat) (args : Array Value) (ds gs : List (DataW H)) (before : List MemPlace)
    (hval : ∀ (j : Nat) t v, Tryz.f4.params[j]? = some t → args[j]? = some v → Value.okWide Tryz.prog W .any base t v)
    (hW : DataW.Whole enc Tryz.prog Tryz.f4.params.toList Rows.branchNilSpec.vars false W args.toList ds gs before) :
    Calls Tryz.prog 4 args W fun e W' => ∃ v, e = .returned v ∧ Rows.branchNilSpec.post enc Tryz.prog Tryz.f4 false true false false W args v W' := by
  have hW' := hW
  obtain ⟨p, q, hA0, hV, rfl, hfz, hnd⟩ := hW
  have hA : DataW.TrodAll enc Tryz.prog W 0 (fun _ => true) true Tryz.f4.params.toList args.toList ds p := hA0
  rw [Tryz.params4] at hA hval
  obtain ⟨v0, vs0, d0, ds0, p0, q0, hargs, rfl, rfl, h0, r0⟩ := trodAll_cons hA
  obtain ⟨rfl, rfl, rfl⟩ := trodAll_nil r0
  obtain rfl : args = #[v0] := by cases args; simp_all
  obtain ⟨rfl, rfl⟩ := trodVars_none hV
  have kk0 := h0
  have lt0 : ∀ x ∈ p0, x.block < W.heap.size := by obtain ⟨m, hm⟩ := kk0; exact DataW.trod_lt m _ _ _ hm
  refine (walk v0 W base (hval 0 46 v0 rfl rfl)).mono fun e W' ⟨he, bel⟩ => ?_
  subst he
  exact ⟨_, rfl, _, _, _, [], _, [], hW', trodAll_mk1 (shut_bool Tryz.underlying4 _), (trodAll_cons_mk (Below.trod laidOut (by kernel_rfl) (of_decide_eq_true (by kernel_rfl)) kk0 bel lt0) trodAll_mk0), rfl, bel.frame _, fun h => by cases h⟩
theorem laid_met (os : Os) : laidMet Tryz.prog Rows.branchNilRow.laid ((laidWorld os).forCall (fun _ _ => 0) ⟨#[], #[.agg #[.int .i64 0, .string ByteArray.empty, .string ByteArray.empty, .int .u64 0, .slice none 0 0]], []⟩).memory :=
  laidMet_of_run' 8 (by kernel_rfl) (by kernel_rfl)
theorem reads (os : Os) {H : Type} (enc : TypeId × Value → H) : ∃ places, DataW.whole enc Tryz.prog ((laidWorld os).forCall (fun _ _ => 0) ⟨#[], #[.agg #[.int .i64 0, .string ByteArray.empty, .string ByteArray.empty, .int .u64 0, .slice none 0 0]], []⟩).memory Tryz.f4.params.toList Rows.branchNilSpec.vars false (#[.agg #[.int .i64 0, .string ByteArray.empty, .string ByteArray.empty, .int .u64 0, .slice none 0 0]] : Array Value).toList 8 = some ([.agg [.lit (.int .i64 0), .lit (.string []), .lit (.string []), .lit (.int .u64 0), .nil]], [], places) :=
  ⟨[], by kernel_rfl⟩
theorem lifted (os : Os) (started : os.Started) (H : Type) (enc : TypeId × Value → H) (F : Stop.Interp) :
    ReturnsInHanded {} Tryz.checked os 4 .any ((OpenSpec.ofChange Rows.branchNilSpec).preRow enc Tryz.prog Tryz.f4 Rows.branchNilRow.domain false Rows.branchNilRow.laid) (((OpenSpec.ofChange Rows.branchNilSpec).at F).post enc Tryz.prog Tryz.f4 false true false false) := by
  obtain ⟨places, hx⟩ := reads os enc
  refine returnsInHanded_of_row (C := Tryz.checked) (s := OpenSpec.ofChange Rows.branchNilSpec) own started (by kernel_rfl) Tryz.func4
    (witness_row_at (enc := enc) (C := Tryz.checked) false (laidWorld os) #[.agg #[.int .i64 0, .string ByteArray.empty, .string ByteArray.empty, .int .u64 0, .slice none 0 0]] rfl (by kernel_rfl) (by kernel_rfl) (by kernel_rfl)
      (OpenSpec.preRow_of_cond 8 hx (by kernel_rfl) (fun k hk => by cases hk) (by kernel_rfl) (laid_met os))) ?_
  intro W base args ds gs before hval hW _ _ hsz _ _ _
  exact contract H enc W base args ds gs before hval hW
theorem j0 : (Rows.branchNilRow.wf (OpenSpec.ofChange Rows.branchNilSpec)) = true := by kernel_rfl
theorem j3 : (Tryz.f4.params.all (Tryz.prog.readableRec ·)) = true := by kernel_rfl
theorem j4 : (namedTie Tryz.prog Rows.branchNilRow.named Rows.branchNilSpec.vars) = true := by kernel_rfl
theorem j5 : ((Rows.branchNilRow.stops == [])) = true := by kernel_rfl
theorem j7 : ((Rows.branchNilRow.knobs == [])) = true := by kernel_rfl
theorem j9 : ((Rows.branchNilRow.inPlace == Tryz.prog.inPlace 4)) = true := by kernel_rfl
theorem j10 : ((Rows.branchNilRow.unfollowed == Tryz.prog.unfollowed 4)) = true := by kernel_rfl
theorem j11 : ((Rows.branchNilRow.recurses == Tryz.prog.recurses 4)) = true := by kernel_rfl
theorem j12 : ((Rows.branchNilRow.named == Tryz.prog.varsNamed 4)) = true := by kernel_rfl
theorem j13 : ((Rows.branchNilRow.maps == (Tryz.f4.params.toList ++ Rows.branchNilSpec.plain.varTypes Tryz.prog).any (Tryz.prog.mapsRec ·))) = true := by kernel_rfl
theorem j14 : ((Rows.branchNilRow.ifaces == (Tryz.f4.params.toList ++ Rows.branchNilSpec.plain.varTypes Tryz.prog).any (Tryz.prog.ifacesRec ·))) = true := by kernel_rfl
theorem j15 : ((Rows.branchNilRow.mapsOut == Tryz.prog.mapsAmong Tryz.f4.resultTypes.toList)) = true := by kernel_rfl
theorem j16 : ((Rows.branchNilRow.loops == (Tryz.f4.params.toList ++ Rows.branchNilSpec.plain.varTypes Tryz.prog).any (Tryz.prog.loopsFrom ·))) = true := by kernel_rfl
theorem j17 : ((Rows.branchNilRow.wideKeys == (Tryz.f4.params.toList ++ Rows.branchNilSpec.plain.varTypes Tryz.prog ++ Tryz.f4.resultTypes.toList).any (Tryz.prog.wideKeysFrom ·))) = true := by kernel_rfl
theorem j18 : (Rows.branchNilSpec.vars.all (Tryz.prog.varReadable ·)) = true := by kernel_rfl
theorem j19 : (Tryz.f4.resultTypes.all (fun t => Tryz.prog.readableRec t && decide (t < Tryz.prog.types.size))) = true := by kernel_rfl
theorem j20 : ((Rows.branchNilRow.ifacesOut == Tryz.f4.resultTypes.toList.any (Tryz.prog.ifacesRec ·))) = true := by kernel_rfl
theorem j21 : ((Rows.branchNilRow.loopsOut == Tryz.f4.resultTypes.toList.any (Tryz.prog.loopsFrom ·))) = true := by kernel_rfl
theorem j23 : (Rows.branchNilRow.shortTexts.isNone) = true := by kernel_rfl
theorem j28 : ((Rows.branchNilRow.kinds == (if Rows.branchNilRow.domain.isEmpty then [] else Tryz.f4.params.toList.map fun t => match Tryz.prog.underlying t with | some (.int k) => some k | _ => none))) = true := by kernel_rfl
theorem j29 : ((Rows.branchNilRow.pinned == Rows.branchNilRow.pinnedBy)) = true := by kernel_rfl
theorem j30 : ((Rows.branchNilRow.veiled == (Tryz.f4.params.toList ++ Rows.branchNilSpec.plain.varTypes Tryz.prog ++ Tryz.f4.resultTypes.toList).any (Tryz.prog.veiledRec ·))) = true := by kernel_rfl
theorem j31 : (Rows.branchNilRow.veiledFits Tryz.prog Tryz.f4.params.toList (Tryz.f4.params.toList ++ Rows.branchNilSpec.plain.varTypes Tryz.prog ++ Tryz.f4.resultTypes.toList)) = true := by kernel_rfl
theorem closed : joinedFacts Tryz.prog 4 Tryz.f4 Rows.branchNilSpec Rows.branchNilRow = true := Ev.andt (Ev.andt (Ev.andt (Ev.andt (Ev.andt (Ev.andt (Ev.andt (Ev.andt (Ev.andt (Ev.andt (Ev.andt (Ev.andt (Ev.andt (Ev.andt (Ev.andt (Ev.andt (Ev.andt (Ev.andt (Ev.andt (Ev.andt (Ev.andt (Ev.andt (Ev.andt (Ev.andt (Ev.andt (Ev.andt (Ev.andt (Ev.andt (Ev.andt (Ev.andt (Ev.andt j0 Ev.laidOut) Ev.p_maps) j3) j4) j5) Ev.p_stops) j7) Ev.p_knobs) j9) j10) j11) j12) j13) j14) j15) j16) j17) j18) j19) j20) j21) Ev.p_plain) j23) Ev.p_heard) Ev.p_enter) Ev.p_lifts) Ev.p_make) j28) j29) j30) j31
theorem named : Tryz.prog.funcNamed "signet/signetlaw22.BranchNil" = some 4 := by kernel_rfl
theorem said : Rows.BranchNilSaid :=
  OpenClaim.holds_of_cond 4 Tryz.f4 rfl rfl rfl rfl rfl rfl rfl ⟨rfl, rfl, rfl, rfl, rfl⟩ rfl rfl rfl rfl rfl named Tryz.func4 closed
    (of_decide_eq_true (by kernel_rfl)) (by unfold Func.isWrapper; first | (rw [if_pos (by decide +kernel)]; kernel_rfl) | (rw [if_neg (by decide +kernel)]; exact ⟨rfl, rfl⟩))
    (fun os started H enc _ F => by rw [OpenClaim.pre_eq_preRow]; exact lifted os started H enc F)
theorem plain (f : FuncId) (fn : Func) (hf : Tryz.pinned.checked.prog.funcNamed "signet/signetlaw22.BranchNil" = some f) (hfn : Tryz.pinned.checked.prog.funcs[f]? = some fn) :
    true = Tryz.pinned.checked.prog.looks [] ∧ ∀ (j : Nat) t, fn.params[j]? = some t → Tryz.pinned.checked.prog.wantsStandIn t = false := by
  obtain rfl : f = 4 := Option.some.inj ((show Tryz.prog.funcNamed "signet/signetlaw22.BranchNil" = some 4 from named).symm.trans hf) |>.symm
  obtain rfl : fn = Tryz.f4 := (Option.some.inj (Tryz.func4.symm.trans hfn)).symm
  refine ⟨by kernel_rfl, fun j t ht => ?_⟩
  rw [Tryz.params4] at ht
  have hm : t ∈ [46] := by simpa using Array.mem_of_getElem? ht
  have hall : ([46].all fun u => !Tryz.prog.wantsStandIn u) = true := by kernel_rfl
  exact (show Tryz.prog.wantsStandIn t = false by simpa using List.all_eq_true.1 hall t hm)
theorem card : Rows.BranchNilCardSaid :=
  Claim7.holds_tied_plain_at .later [] _ _ _ _ said (fun _ h => by cases h) (by kernel_rfl) (fun _ h => by cases h) branchNil_row_tie rfl ⟨rfl, rfl⟩ (by kernel_rfl) rfl plain (by kernel_rfl)
end Go.Proofs.YtoehfadjpficiaaGreatDoor.branchNil
namespace Go.Proofs.YtoehfadjpficiaaGreatDoor
/-- The card, under a short name, for the claim. -/
theorem branchNil_holds : Rows.BranchNilCardSaid := branchNil.card
end Go.Proofs.YtoehfadjpficiaaGreatDoor

