/- The row of the law FileWrong: for every input it answers true, and each argument reads as it did. -/
import Derived.Test.YtoehfadjpficiaaGreatEvLaw
import Derived.Test.YtoehfadjpficiaaGreatEvFacts
import Derived.Test.YtoehfadjpficiaaGreatVFileWrongLow
import Derived.Test.YtoehfadjpficiaaGreatVFileWrongHigh
import Derived.Test.YtoehfadjpficiaaGreatVFileWrongOne
import Derived.Test.YtoehfadjpficiaaGreatVFileWrongTwo
import Derived.Test.YtoehfadjpficiaaGreatVFileWrongMid0
import Derived.Test.YtoehfadjpficiaaGreatVFileWrongMid1
import Derived.Test.YtoehfadjpficiaaGreatVFileWrongMid2
import Derived.Test.YtoehfadjpficiaaGreatVFileWrongMid3
import Derived.WalkKit
import Derived.ProofKit
import Derived.OpenShut
import Derived.ShutString
import Derived.ChangeOld
import Derived.Below
import Derived.SizedLaws
namespace Go.Proofs.YtoehfadjpficiaaGreat.fileWrong
open Go.ChangeShapes Go.WideShapes Go.ChangeAt Go.RowKit Go.Proofs.YtoehfadjpficiaaGreat.Ev
set_option linter.unusedVariables false
set_option maxRecDepth 100000
theorem walk (v0 v1 : Value) (W : World) (base : Nat) (h0 : Value.okWide Tryz.prog W .any base 3 v0) (h1 : Value.okWide Tryz.prog W .any base 91 v1) : Calls Tryz.prog 6 #[v0, v1] W fun e W' => e = .returned (.bool true) ∧ Below W.heap.size W W' := by
  obtain ⟨c1, rfl, s1, r1⟩ : ∃ cs, v1 = .agg cs ∧ cs.size = 6 ∧ Row.okWide Tryz.prog W .any base 91 cs := by
    unfold Value.okWide at h1
    rw [Tryz.underlying91] at h1
    obtain ⟨cs, e1, e2, e3⟩ := h1
    exact ⟨cs, e1, e2.trans (by kernel_rfl), e3⟩
  obtain ⟨n, rfl⟩ : ∃ n, v0 = .int .i64 n := okWide_int Tryz.underlying3 h0
  let ρ : Nat → Value := fun i => if i = 300 then .int .i64 (n - 1) else if i = 301 then .int .i64 ((n - 1) / 4) else ([Value.int .i64 n] ++ c1.toList).getD i undef
  have a0 : ∀ ρ' : Nat → Value, ρ' 0 = .int .i64 n → (EV.a (.s (.var 0))).rel ⟨fun _ => none, ρ'⟩ (.int .i64 n) := fun ρ' h => ⟨h.symm, rfl⟩
  have a1 : (EV.a (.agg ((List.range' 1 6).map SV.var))).rel ⟨fun _ => none, ρ⟩ (.agg c1) := agg_rel 1 6 s1 (row_one r1) fun i hi => by
    show (if 1 + i = 300 then _ else if 1 + i = 301 then _ else _) = _
    rw [if_neg (by omega), if_neg (by omega)]
    simp [List.getD_eq_getElem?_getD, List.getElem?_append, s1, Nat.add_comm 1 i]
  by_cases l1 : n < 1
  · exact law_any (kLow_ok l1 rfl) (sum16_ok rfl) (evLow ρ) (vs := [.int .i64 n, .agg c1]) ⟨a0 ρ rfl, a1, trivial⟩ W
  by_cases l2 : 4096 < n
  · exact law_any (kHigh_ok l2 rfl) (sum16_ok rfl) (evHigh ρ) (vs := [.int .i64 n, .agg c1]) ⟨a0 ρ rfl, a1, trivial⟩ W
  by_cases l3 : n = 1
  · subst l3
    exact law_any noFact_ok (sum16_ok rfl) (evOne ρ) (vs := [.int .i64 1, .agg c1]) ⟨rfl, a1, trivial⟩ W
  by_cases l4 : n = 2
  · subst l4
    exact law_any noFact_ok (sum16_ok rfl) (evTwo ρ) (vs := [.int .i64 2, .agg c1]) ⟨rfl, a1, trivial⟩ W
  have hok : (kMid ((n - 1) % 4)).Ok ρ := kMid_ok (by omega) rfl rfl rfl
  rcases (by omega : (n - 1) % 4 = 0 ∨ (n - 1) % 4 = 1 ∨ (n - 1) % 4 = 2 ∨ (n - 1) % 4 = 3) with e | e | e | e <;> rw [e] at hok
  · exact law_any hok (sum16_ok rfl) (evMid0 ρ) (vs := [.int .i64 n, .agg c1]) ⟨a0 ρ rfl, a1, trivial⟩ W
  · exact law_any hok (sum16_ok rfl) (evMid1 ρ) (vs := [.int .i64 n, .agg c1]) ⟨a0 ρ rfl, a1, trivial⟩ W
  · exact law_any hok (sum16_ok rfl) (evMid2 ρ) (vs := [.int .i64 n, .agg c1]) ⟨a0 ρ rfl, a1, trivial⟩ W
  · exact law_any hok (sum16_ok rfl) (evMid3 ρ) (vs := [.int .i64 n, .agg c1]) ⟨a0 ρ rfl, a1, trivial⟩ W
theorem lifted (os : Os) (started : os.Started) (H : Type) (enc : TypeId × Value → H) :
    ReturnsInHanded {} Tryz.checked os 6 .any (Rows.fileWrongSpec.pre6 enc Tryz.prog Tryz.f6 Rows.fileWrongRow.domain false) (Rows.fileWrongSpec.post enc Tryz.prog Tryz.f6 false true false false) := by
  refine returnsInHanded_of_change_sized (C := Tryz.checked) own started (by kernel_rfl) Tryz.func6
    (ChangeSpec.witness6 (enc := enc) (C := Tryz.checked) false ⟨#[], #[.int .i64 0, .agg #[.int .i64 0, .int .i64 0, .int .i64 0, .int .i64 0, .string ByteArray.empty, .int .u64 0]], []⟩ 8 (by kernel_rfl) (by kernel_rfl) (by kernel_rfl) (by kernel_rfl)) ?_
  intro W base args ds gs before hval0 hW hcnd hsz0 _
  have hval : ∀ (j : Nat) t v, Tryz.f6.params[j]? = some t → args[j]? = some v → Value.okWide Tryz.prog W .any base t v := hval0
  have hW' := hW
  obtain ⟨p, q, hA0, hV, rfl, hfz, hnd⟩ := hW
  have hA : DataW.TrodAll enc Tryz.prog W 0 (fun _ => true) true Tryz.f6.params.toList args.toList ds p := hA0
  rw [Tryz.params6] at hA hval
  obtain ⟨v0, vs0, d0, ds0, p0, q0, hargs, rfl, rfl, k0, r0⟩ := trodAll_cons hA
  obtain ⟨v1, vs1, d1, ds1, p1, q1, rfl, rfl, rfl, k1, r1⟩ := trodAll_cons r0
  obtain ⟨rfl, rfl, rfl⟩ := trodAll_nil r1
  obtain rfl : args = #[v0, v1] := by cases args; simp_all
  obtain ⟨rfl, rfl⟩ := trodVars_none hV
  have kk0 := k0
  have lt0 : ∀ x ∈ p0, x.block < W.heap.size := by obtain ⟨m, hm⟩ := kk0; exact DataW.trod_lt m _ _ _ hm
  have kk1 := k1
  have lt1 : ∀ x ∈ p1, x.block < W.heap.size := by obtain ⟨m, hm⟩ := kk1; exact DataW.trod_lt m _ _ _ hm
  refine (walk v0 v1 W base (hval 0 3 v0 rfl rfl) (hval 1 91 v1 rfl rfl)).mono fun e W' ⟨he, bel⟩ => ?_
  subst he
  exact ⟨_, rfl, _, _, _, [], _, [], hW', trodAll_mk1 (shut_bool Tryz.underlying4 _), (trodAll_cons_mk (Below.trod laidOut (by kernel_rfl) (of_decide_eq_true (by kernel_rfl)) kk0 bel lt0) (trodAll_cons_mk (Below.trod laidOut (by kernel_rfl) (of_decide_eq_true (by kernel_rfl)) kk1 bel lt1) trodAll_mk0)), rfl, bel.frame _, fun h => by cases h⟩
theorem j0 : (Rows.fileWrongRow.wf (OpenSpec.ofChange Rows.fileWrongSpec)) = true := by kernel_rfl
theorem j3 : (Tryz.f6.params.all (Tryz.prog.readableRec ·)) = true := by kernel_rfl
theorem j4 : (namedTie Tryz.prog Rows.fileWrongRow.named Rows.fileWrongSpec.vars) = true := by kernel_rfl
theorem j5 : ((Rows.fileWrongRow.stops == [])) = true := by kernel_rfl
theorem j7 : ((Rows.fileWrongRow.knobs == [])) = true := by kernel_rfl
theorem j9 : ((Rows.fileWrongRow.inPlace == Tryz.prog.inPlace 6)) = true := by kernel_rfl
theorem j10 : ((Rows.fileWrongRow.unfollowed == Tryz.prog.unfollowed 6)) = true := by kernel_rfl
theorem j11 : ((Rows.fileWrongRow.recurses == Tryz.prog.recurses 6)) = true := by kernel_rfl
theorem j12 : ((Rows.fileWrongRow.named == Tryz.prog.varsNamed 6)) = true := by kernel_rfl
theorem j13 : ((Rows.fileWrongRow.maps == (Tryz.f6.params.toList ++ Rows.fileWrongSpec.plain.varTypes Tryz.prog).any (Tryz.prog.mapsRec ·))) = true := by kernel_rfl
theorem j14 : ((Rows.fileWrongRow.ifaces == (Tryz.f6.params.toList ++ Rows.fileWrongSpec.plain.varTypes Tryz.prog).any (Tryz.prog.ifacesRec ·))) = true := by kernel_rfl
theorem j15 : ((Rows.fileWrongRow.mapsOut == Tryz.prog.mapsAmong Tryz.f6.resultTypes.toList)) = true := by kernel_rfl
theorem j16 : ((Rows.fileWrongRow.loops == (Tryz.f6.params.toList ++ Rows.fileWrongSpec.plain.varTypes Tryz.prog).any (Tryz.prog.loopsFrom ·))) = true := by kernel_rfl
theorem j17 : ((Rows.fileWrongRow.wideKeys == (Tryz.f6.params.toList ++ Rows.fileWrongSpec.plain.varTypes Tryz.prog ++ Tryz.f6.resultTypes.toList).any (Tryz.prog.wideKeysFrom ·))) = true := by kernel_rfl
theorem j18 : (Rows.fileWrongSpec.vars.all (Tryz.prog.varReadable ·)) = true := by kernel_rfl
theorem j19 : (Tryz.f6.resultTypes.all (fun t => Tryz.prog.readableRec t && decide (t < Tryz.prog.types.size))) = true := by kernel_rfl
theorem j20 : ((Rows.fileWrongRow.ifacesOut == Tryz.f6.resultTypes.toList.any (Tryz.prog.ifacesRec ·))) = true := by kernel_rfl
theorem j21 : ((Rows.fileWrongRow.loopsOut == Tryz.f6.resultTypes.toList.any (Tryz.prog.loopsFrom ·))) = true := by kernel_rfl
theorem j23 : (Rows.fileWrongRow.shortTexts.isNone) = true := by kernel_rfl
theorem j28 : ((Rows.fileWrongRow.kinds == (if Rows.fileWrongRow.domain.isEmpty then [] else Tryz.f6.params.toList.map fun t => match Tryz.prog.underlying t with | some (.int k) => some k | _ => none))) = true := by kernel_rfl
theorem j29 : ((Rows.fileWrongRow.pinned == Rows.fileWrongRow.pinnedBy)) = true := by kernel_rfl
theorem j30 : ((Rows.fileWrongRow.veiled == (Tryz.f6.params.toList ++ Rows.fileWrongSpec.plain.varTypes Tryz.prog ++ Tryz.f6.resultTypes.toList).any (Tryz.prog.veiledRec ·))) = true := by kernel_rfl
theorem j31 : (Rows.fileWrongRow.veiledFits Tryz.prog Tryz.f6.params.toList (Tryz.f6.params.toList ++ Rows.fileWrongSpec.plain.varTypes Tryz.prog ++ Tryz.f6.resultTypes.toList)) = true := by kernel_rfl
theorem closed : joinedFacts Tryz.prog 6 Tryz.f6 Rows.fileWrongSpec Rows.fileWrongRow = true := Ev.andt (Ev.andt (Ev.andt (Ev.andt (Ev.andt (Ev.andt (Ev.andt (Ev.andt (Ev.andt (Ev.andt (Ev.andt (Ev.andt (Ev.andt (Ev.andt (Ev.andt (Ev.andt (Ev.andt (Ev.andt (Ev.andt (Ev.andt (Ev.andt (Ev.andt (Ev.andt (Ev.andt (Ev.andt (Ev.andt (Ev.andt (Ev.andt (Ev.andt (Ev.andt (Ev.andt j0 Ev.laidOut) Ev.p_maps) j3) j4) j5) Ev.p_stops) j7) Ev.p_knobs) j9) j10) j11) j12) j13) j14) j15) j16) j17) j18) j19) j20) j21) Ev.p_plain) j23) Ev.p_heard) Ev.p_enter) Ev.p_lifts) Ev.p_make) j28) j29) j30) j31
theorem named : Tryz.prog.funcNamed "signet/signetlaw16.FileWrong" = some 6 := by kernel_rfl
theorem over : Rows.fileWrongRow.holds Tryz.pinned (OpenSpec.ofChange Rows.fileWrongSpec) :=
  OpenClaim.holds_of_wide 6 Tryz.f6 rfl rfl rfl rfl rfl rfl rfl ⟨rfl, rfl, rfl, rfl, rfl⟩ rfl rfl rfl rfl rfl named Tryz.func6 closed
    (of_decide_eq_true (by kernel_rfl)) (by unfold Func.isWrapper; first | (rw [if_pos (by decide +kernel)]; kernel_rfl) | (rw [if_neg (by decide +kernel)]; exact ⟨rfl, rfl⟩))
    (fun os started H enc _ => lifted os started H enc)
end Go.Proofs.YtoehfadjpficiaaGreat.fileWrong
namespace Go.Proofs.YtoehfadjpficiaaGreat
/-- The row, under a short name, for the claim. -/
theorem fileWrong_holds : Rows.FileWrongSaid := fileWrong.over
end Go.Proofs.YtoehfadjpficiaaGreat
