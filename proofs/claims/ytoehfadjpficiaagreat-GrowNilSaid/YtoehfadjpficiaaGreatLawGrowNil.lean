/- The row of the law GrowNil: for every input it answers true, and each argument reads as it did. -/
import Derived.Test.YtoehfadjpficiaaGreatEvLaw
import Derived.Test.YtoehfadjpficiaaGreatEvFacts
import Derived.Test.YtoehfadjpficiaaGreatVGrowNil1
import Derived.Test.YtoehfadjpficiaaGreatVGrowNil2
import Derived.WalkKit
import Derived.ProofKit
import Derived.OpenShut
import Derived.ShutString
import Derived.ChangeOld
import Derived.Below
import Derived.SizedLaws
namespace Go.Proofs.YtoehfadjpficiaaGreat.growNil
open Go.ChangeShapes Go.WideShapes Go.ChangeAt Go.RowKit Go.Proofs.YtoehfadjpficiaaGreat.Ev
set_option linter.unusedVariables false
set_option maxRecDepth 100000
theorem kinds28 : kindsB Tryz.prog 28 34 gKind = true := by kernel_rfl
theorem list_ext34 {l m : List Value} (hl : l.length = 34) (hm : m.length = 34) (h : ∀ i, i < 34 → l.getD i undef = m.getD i undef) : l = m := by
  refine List.ext_getElem (by omega) fun i h1 h2 => ?_
  have := h i (by omega)
  rw [List.getD_eq_getElem?_getD, List.getD_eq_getElem?_getD, List.getElem?_eq_getElem h1, List.getElem?_eq_getElem h2] at this
  exact this
theorem walk (v0 v1 v2 : Value) (W : World) (base : Nat) (h0 : Value.okWide Tryz.prog W .any base 28 v0) (h1 : Value.okWide Tryz.prog W .any base 3 v1) (h2 : Value.okWide Tryz.prog W .any base 69 v2) : Calls Tryz.prog 5 #[v0, v1, v2] W fun e W' => e = .returned (.bool true) ∧ Below W.heap.size W W' := by
  obtain ⟨c0, rfl, s0, r0⟩ : ∃ cs, v0 = .agg cs ∧ cs.size = 34 ∧ Row.okWide Tryz.prog W .any base 28 cs := by
    unfold Value.okWide at h0
    rw [Tryz.underlying28] at h0
    obtain ⟨cs, e1, e2, e3⟩ := h0
    exact ⟨cs, e1, e2.trans (by kernel_rfl), e3⟩
  have h1 : v1.oneCell' = true := by
    unfold Value.okWide at h1
    rw [Tryz.underlying3] at h1
    exact cell_one h1
  obtain ⟨c2, rfl, s2, r2⟩ : ∃ cs, v2 = .agg cs ∧ cs.size = 256 ∧ Row.okWide Tryz.prog W .any base 69 cs := by
    unfold Value.okWide at h2
    rw [Tryz.underlying69] at h2
    obtain ⟨cs, e1, e2, e3⟩ := h2
    exact ⟨cs, e1, e2.trans (by kernel_rfl), e3⟩
  let ρ : Nat → Value := fun i => (c0.toList ++ [v1] ++ c2.toList).getD i undef
  have e0 : ∀ i, i < 34 → ρ i = c0.getD i undef := fun i hi => by
    show (c0.toList ++ [v1] ++ c2.toList).getD i undef = _
    rw [List.append_assoc, List.getD_eq_getElem?_getD, List.getElem?_append_left (by simp [s0]; omega), Array.getD_eq_getD_getElem?, Array.getElem?_toList]
  have hk : ∀ i, i < 34 → ∃ x, ρ i = .int (gKind i) x := fun i hi => by
    rw [e0 i hi]
    exact kinds_of kinds28 r0 s0 i hi
  have a0 : (EV.a (.agg ((List.range' 0 34).map SV.var))).rel ⟨fun _ => none, ρ⟩ (.agg c0) := agg_rel 0 34 s0 (row_one r0) fun i hi => by
    rw [Nat.zero_add]
    exact e0 i hi
  have a1 : (EV.a (.s (.var 34))).rel ⟨fun _ => none, ρ⟩ v1 := ⟨by
    show v1 = (c0.toList ++ [v1] ++ c2.toList).getD 34 undef
    rw [List.append_assoc, List.getD_eq_getElem?_getD, List.getElem?_append_right (by simp [s0])]
    simp [s0], h1⟩
  have a2 : (EV.a (.agg ((List.range' 35 256).map SV.var))).rel ⟨fun _ => none, ρ⟩ (.agg c2) := agg_rel 35 256 s2 (row_one r2) fun i hi => by
    show (c0.toList ++ [v1] ++ c2.toList).getD (35 + i) undef = _
    rw [List.getD_eq_getElem?_getD, List.getElem?_append_right (by simp only [List.length_append, Array.length_toList, s0, List.length_cons, List.length_nil]; omega), Array.getD_eq_getD_getElem?]
    simp only [List.length_append, Array.length_toList, s0, List.length_cons, List.length_nil]
    have e5 : 35 + i - (34 + (0 + 1)) = i := by omega
    rw [e5, Array.getElem?_toList]
  obtain ⟨h, hh⟩ := hk 0 (by omega)
  have hh : ρ 0 = .int .i64 h := hh
  by_cases l1 : h < 0
  · exact law_any (kA_ok hk l1 hh) (sum10_ok rfl) (evA ρ) (vs := [.agg c0, v1, .agg c2]) ⟨a0, a1, a2, trivial⟩ W
  by_cases l2 : 6 < h
  · exact law_any (kB_ok hk l2 hh) (sum10_ok rfl) (evB ρ) (vs := [.agg c0, v1, .agg c2]) ⟨a0, a1, a2, trivial⟩ W
  obtain ⟨m, hm⟩ := hk 1 (by omega)
  have hm : ρ 1 = .int .u32 m := hm
  obtain ⟨q, rfl⟩ : ∃ q : Nat, h = (q : Int) := ⟨h.toNat, by omega⟩
  have hcells : c0.toList = (List.range' 0 34).map ρ := list_ext34 (by simp [s0]) (by simp) fun i hi => by
    rw [List.getD_eq_getElem?_getD, List.getD_eq_getElem?_getD, Array.getElem?_toList, ← Array.getD_eq_getD_getElem?, ← e0 i hi, List.getElem?_map, List.getElem?_range' hi]
    simp
  by_cases l3 : m = 0
  · subst l3
    have hu8 : ∀ i, i < 32 → ∃ x, ρ (i + 2) = .int .u8 x := fun i hi => by
      obtain ⟨x, hx⟩ := hk (i + 2) (by omega)
      refine ⟨x, hx.trans ?_⟩
      unfold gKind
      rw [if_neg (by omega), if_neg (by omega)]
    rcases first_nonzero 32 hu8 with hz | ⟨j, y, hj, hy, hjy, hz⟩
    · have a0' : (EV.a (.agg (none33 q))).rel ⟨fun _ => none, ρ⟩ (.agg c0) := by
        refine ⟨(List.range' 0 34).map ρ, by rw [← hcells], Rels.of_get (by simp [none33]) fun i a b ha hb => ?_⟩
        rw [List.getElem?_map] at hb
        obtain ⟨k, hk1, rfl⟩ := Option.map_eq_some_iff.1 hb
        have hlt : i < 34 := by
          have := (List.getElem?_eq_some_iff.1 hk1).1
          simpa using this
        rw [List.getElem?_range' hlt] at hk1
        obtain rfl := Option.some.inj hk1
        rw [Nat.zero_add, Nat.one_mul]
        unfold none33 at ha
        match i, ha, hlt with
        | 0, ha, _ =>
          obtain rfl := Option.some.inj ha
          exact hh
        | 1, ha, _ =>
          obtain rfl := Option.some.inj ha
          exact hm
        | i + 2, ha, hlt =>
          rw [List.getElem?_cons_succ, List.getElem?_cons_succ, List.getElem?_replicate, if_pos (by omega)] at ha
          obtain rfl := Option.some.inj ha
          exact hz i (by omega)
      exact law_any noFact_ok (sum10_ok rfl) (evE ρ q (by omega)) (vs := [.agg c0, v1, .agg c2]) ⟨a0', a1, a2, trivial⟩ W
    · exact law_any (kC_ok hk (q := j) (by omega) hh hm hz hy hjy) (sum10_ok rfl) (evC ρ j hj) (vs := [.agg c0, v1, .agg c2]) ⟨a0, a1, a2, trivial⟩ W
  · have a0' : (EV.a (.agg (tv (.int .i64 q)))).rel ⟨fun _ => none, ρ⟩ (.agg c0) := by
      obtain ⟨vs, hv, hrel⟩ := a0
      refine ⟨vs, hv, ?_⟩
      match vs, hv, hrel with
      | v :: vs, hv, hrel =>
        refine ⟨?_, hrel.2⟩
        have e := hrel.1.1
        show v = _
        rw [e]
        exact hh
    exact law_any (kD_ok hk l3 hm) (sum10_ok rfl) (evD ρ q (by omega)) (vs := [.agg c0, v1, .agg c2]) ⟨a0', a1, a2, trivial⟩ W
theorem lifted (os : Os) (started : os.Started) (H : Type) (enc : TypeId × Value → H) :
    ReturnsInHanded {} Tryz.checked os 5 .any (Rows.growNilSpec.pre6 enc Tryz.prog Tryz.f5 Rows.growNilRow.domain false) (Rows.growNilSpec.post enc Tryz.prog Tryz.f5 false true false false) := by
  refine returnsInHanded_of_change_sized (C := Tryz.checked) own started (by kernel_rfl) Tryz.func5
    (ChangeSpec.witness6 (enc := enc) (C := Tryz.checked) false ⟨#[], #[.agg #[.int .i64 0, .int .u32 0, .int .u8 0, .int .u8 0, .int .u8 0, .int .u8 0, .int .u8 0, .int .u8 0, .int .u8 0, .int .u8 0, .int .u8 0, .int .u8 0, .int .u8 0, .int .u8 0, .int .u8 0, .int .u8 0, .int .u8 0, .int .u8 0, .int .u8 0, .int .u8 0, .int .u8 0, .int .u8 0, .int .u8 0, .int .u8 0, .int .u8 0, .int .u8 0, .int .u8 0, .int .u8 0, .int .u8 0, .int .u8 0, .int .u8 0, .int .u8 0, .int .u8 0, .int .u8 0], .int .i64 0, .agg #[.int .u8 0, .int .u8 0, .int .u8 0, .int .u8 0, .int .u8 0, .int .u8 0, .int .u8 0, .int .u8 0, .int .u8 0, .int .u8 0, .int .u8 0, .int .u8 0, .int .u8 0, .int .u8 0, .int .u8 0, .int .u8 0, .int .u8 0, .int .u8 0, .int .u8 0, .int .u8 0, .int .u8 0, .int .u8 0, .int .u8 0, .int .u8 0, .int .u8 0, .int .u8 0, .int .u8 0, .int .u8 0, .int .u8 0, .int .u8 0, .int .u8 0, .int .u8 0, .int .u8 0, .int .u8 0, .int .u8 0, .int .u8 0, .int .u8 0, .int .u8 0, .int .u8 0, .int .u8 0, .int .u8 0, .int .u8 0, .int .u8 0, .int .u8 0, .int .u8 0, .int .u8 0, .int .u8 0, .int .u8 0, .int .u8 0, .int .u8 0, .int .u8 0, .int .u8 0, .int .u8 0, .int .u8 0, .int .u8 0, .int .u8 0, .int .u8 0, .int .u8 0, .int .u8 0, .int .u8 0, .int .u8 0, .int .u8 0, .int .u8 0, .int .u8 0, .int .u8 0, .int .u8 0, .int .u8 0, .int .u8 0, .int .u8 0, .int .u8 0, .int .u8 0, .int .u8 0, .int .u8 0, .int .u8 0, .int .u8 0, .int .u8 0, .int .u8 0, .int .u8 0, .int .u8 0, .int .u8 0, .int .u8 0, .int .u8 0, .int .u8 0, .int .u8 0, .int .u8 0, .int .u8 0, .int .u8 0, .int .u8 0, .int .u8 0, .int .u8 0, .int .u8 0, .int .u8 0, .int .u8 0, .int .u8 0, .int .u8 0, .int .u8 0, .int .u8 0, .int .u8 0, .int .u8 0, .int .u8 0, .int .u8 0, .int .u8 0, .int .u8 0, .int .u8 0, .int .u8 0, .int .u8 0, .int .u8 0, .int .u8 0, .int .u8 0, .int .u8 0, .int .u8 0, .int .u8 0, .int .u8 0, .int .u8 0, .int .u8 0, .int .u8 0, .int .u8 0, .int .u8 0, .int .u8 0, .int .u8 0, .int .u8 0, .int .u8 0, .int .u8 0, .int .u8 0, .int .u8 0, .int .u8 0, .int .u8 0, .int .u8 0, .int .u8 0, .int .u8 0, .int .u8 0, .int .u8 0, .int .u8 0, .int .u8 0, .int .u8 0, .int .u8 0, .int .u8 0, .int .u8 0, .int .u8 0, .int .u8 0, .int .u8 0, .int .u8 0, .int .u8 0, .int .u8 0, .int .u8 0, .int .u8 0, .int .u8 0, .int .u8 0, .int .u8 0, .int .u8 0, .int .u8 0, .int .u8 0, .int .u8 0, .int .u8 0, .int .u8 0, .int .u8 0, .int .u8 0, .int .u8 0, .int .u8 0, .int .u8 0, .int .u8 0, .int .u8 0, .int .u8 0, .int .u8 0, .int .u8 0, .int .u8 0, .int .u8 0, .int .u8 0, .int .u8 0, .int .u8 0, .int .u8 0, .int .u8 0, .int .u8 0, .int .u8 0, .int .u8 0, .int .u8 0, .int .u8 0, .int .u8 0, .int .u8 0, .int .u8 0, .int .u8 0, .int .u8 0, .int .u8 0, .int .u8 0, .int .u8 0, .int .u8 0, .int .u8 0, .int .u8 0, .int .u8 0, .int .u8 0, .int .u8 0, .int .u8 0, .int .u8 0, .int .u8 0, .int .u8 0, .int .u8 0, .int .u8 0, .int .u8 0, .int .u8 0, .int .u8 0, .int .u8 0, .int .u8 0, .int .u8 0, .int .u8 0, .int .u8 0, .int .u8 0, .int .u8 0, .int .u8 0, .int .u8 0, .int .u8 0, .int .u8 0, .int .u8 0, .int .u8 0, .int .u8 0, .int .u8 0, .int .u8 0, .int .u8 0, .int .u8 0, .int .u8 0, .int .u8 0, .int .u8 0, .int .u8 0, .int .u8 0, .int .u8 0, .int .u8 0, .int .u8 0, .int .u8 0, .int .u8 0, .int .u8 0, .int .u8 0, .int .u8 0, .int .u8 0, .int .u8 0, .int .u8 0, .int .u8 0, .int .u8 0, .int .u8 0, .int .u8 0, .int .u8 0, .int .u8 0, .int .u8 0, .int .u8 0, .int .u8 0, .int .u8 0, .int .u8 0, .int .u8 0, .int .u8 0, .int .u8 0, .int .u8 0, .int .u8 0, .int .u8 0, .int .u8 0, .int .u8 0, .int .u8 0, .int .u8 0, .int .u8 0]], []⟩ 8 (by kernel_rfl) (by kernel_rfl) (by kernel_rfl) (by kernel_rfl)) ?_
  intro W base args ds gs before hval0 hW hcnd hsz0 _
  have hval : ∀ (j : Nat) t v, Tryz.f5.params[j]? = some t → args[j]? = some v → Value.okWide Tryz.prog W .any base t v := hval0
  have hW' := hW
  obtain ⟨p, q, hA0, hV, rfl, hfz, hnd⟩ := hW
  have hA : DataW.TrodAll enc Tryz.prog W 0 (fun _ => true) true Tryz.f5.params.toList args.toList ds p := hA0
  rw [Tryz.params5] at hA hval
  obtain ⟨v0, vs0, d0, ds0, p0, q0, hargs, rfl, rfl, k0, r0⟩ := trodAll_cons hA
  obtain ⟨v1, vs1, d1, ds1, p1, q1, rfl, rfl, rfl, k1, r1⟩ := trodAll_cons r0
  obtain ⟨v2, vs2, d2, ds2, p2, q2, rfl, rfl, rfl, k2, r2⟩ := trodAll_cons r1
  obtain ⟨rfl, rfl, rfl⟩ := trodAll_nil r2
  obtain rfl : args = #[v0, v1, v2] := by cases args; simp_all
  obtain ⟨rfl, rfl⟩ := trodVars_none hV
  have kk0 := k0
  have lt0 : ∀ x ∈ p0, x.block < W.heap.size := by obtain ⟨m, hm⟩ := kk0; exact DataW.trod_lt m _ _ _ hm
  have kk1 := k1
  have lt1 : ∀ x ∈ p1, x.block < W.heap.size := by obtain ⟨m, hm⟩ := kk1; exact DataW.trod_lt m _ _ _ hm
  have kk2 := k2
  have lt2 : ∀ x ∈ p2, x.block < W.heap.size := by obtain ⟨m, hm⟩ := kk2; exact DataW.trod_lt m _ _ _ hm
  refine (walk v0 v1 v2 W base (hval 0 28 v0 rfl rfl) (hval 1 3 v1 rfl rfl) (hval 2 69 v2 rfl rfl)).mono fun e W' ⟨he, bel⟩ => ?_
  subst he
  exact ⟨_, rfl, _, _, _, [], _, [], hW', trodAll_mk1 (shut_bool Tryz.underlying4 _), (trodAll_cons_mk (Below.trod laidOut (by kernel_rfl) (of_decide_eq_true (by kernel_rfl)) kk0 bel lt0) (trodAll_cons_mk (Below.trod laidOut (by kernel_rfl) (of_decide_eq_true (by kernel_rfl)) kk1 bel lt1) (trodAll_cons_mk (Below.trod laidOut (by kernel_rfl) (of_decide_eq_true (by kernel_rfl)) kk2 bel lt2) trodAll_mk0))), rfl, bel.frame _, fun h => by cases h⟩
theorem j0 : (Rows.growNilRow.wf (OpenSpec.ofChange Rows.growNilSpec)) = true := by kernel_rfl
theorem j3 : (Tryz.f5.params.all (Tryz.prog.readableRec ·)) = true := by kernel_rfl
theorem j4 : (namedTie Tryz.prog Rows.growNilRow.named Rows.growNilSpec.vars) = true := by kernel_rfl
theorem j5 : ((Rows.growNilRow.stops == [])) = true := by kernel_rfl
theorem j7 : ((Rows.growNilRow.knobs == [])) = true := by kernel_rfl
theorem j9 : ((Rows.growNilRow.inPlace == Tryz.prog.inPlace 5)) = true := by kernel_rfl
theorem j10 : ((Rows.growNilRow.unfollowed == Tryz.prog.unfollowed 5)) = true := by kernel_rfl
theorem j11 : ((Rows.growNilRow.recurses == Tryz.prog.recurses 5)) = true := by kernel_rfl
theorem j12 : ((Rows.growNilRow.named == Tryz.prog.varsNamed 5)) = true := by kernel_rfl
theorem j13 : ((Rows.growNilRow.maps == (Tryz.f5.params.toList ++ Rows.growNilSpec.plain.varTypes Tryz.prog).any (Tryz.prog.mapsRec ·))) = true := by kernel_rfl
theorem j14 : ((Rows.growNilRow.ifaces == (Tryz.f5.params.toList ++ Rows.growNilSpec.plain.varTypes Tryz.prog).any (Tryz.prog.ifacesRec ·))) = true := by kernel_rfl
theorem j15 : ((Rows.growNilRow.mapsOut == Tryz.prog.mapsAmong Tryz.f5.resultTypes.toList)) = true := by kernel_rfl
theorem j16 : ((Rows.growNilRow.loops == (Tryz.f5.params.toList ++ Rows.growNilSpec.plain.varTypes Tryz.prog).any (Tryz.prog.loopsFrom ·))) = true := by kernel_rfl
theorem j17 : ((Rows.growNilRow.wideKeys == (Tryz.f5.params.toList ++ Rows.growNilSpec.plain.varTypes Tryz.prog ++ Tryz.f5.resultTypes.toList).any (Tryz.prog.wideKeysFrom ·))) = true := by kernel_rfl
theorem j18 : (Rows.growNilSpec.vars.all (Tryz.prog.varReadable ·)) = true := by kernel_rfl
theorem j19 : (Tryz.f5.resultTypes.all (fun t => Tryz.prog.readableRec t && decide (t < Tryz.prog.types.size))) = true := by kernel_rfl
theorem j20 : ((Rows.growNilRow.ifacesOut == Tryz.f5.resultTypes.toList.any (Tryz.prog.ifacesRec ·))) = true := by kernel_rfl
theorem j21 : ((Rows.growNilRow.loopsOut == Tryz.f5.resultTypes.toList.any (Tryz.prog.loopsFrom ·))) = true := by kernel_rfl
theorem j23 : (Rows.growNilRow.shortTexts.isNone) = true := by kernel_rfl
theorem j28 : ((Rows.growNilRow.kinds == (if Rows.growNilRow.domain.isEmpty then [] else Tryz.f5.params.toList.map fun t => match Tryz.prog.underlying t with | some (.int k) => some k | _ => none))) = true := by kernel_rfl
theorem j29 : ((Rows.growNilRow.pinned == Rows.growNilRow.pinnedBy)) = true := by kernel_rfl
theorem j30 : ((Rows.growNilRow.veiled == (Tryz.f5.params.toList ++ Rows.growNilSpec.plain.varTypes Tryz.prog ++ Tryz.f5.resultTypes.toList).any (Tryz.prog.veiledRec ·))) = true := by kernel_rfl
theorem j31 : (Rows.growNilRow.veiledFits Tryz.prog Tryz.f5.params.toList (Tryz.f5.params.toList ++ Rows.growNilSpec.plain.varTypes Tryz.prog ++ Tryz.f5.resultTypes.toList)) = true := by kernel_rfl
theorem closed : joinedFacts Tryz.prog 5 Tryz.f5 Rows.growNilSpec Rows.growNilRow = true := Ev.andt (Ev.andt (Ev.andt (Ev.andt (Ev.andt (Ev.andt (Ev.andt (Ev.andt (Ev.andt (Ev.andt (Ev.andt (Ev.andt (Ev.andt (Ev.andt (Ev.andt (Ev.andt (Ev.andt (Ev.andt (Ev.andt (Ev.andt (Ev.andt (Ev.andt (Ev.andt (Ev.andt (Ev.andt (Ev.andt (Ev.andt (Ev.andt (Ev.andt (Ev.andt (Ev.andt j0 Ev.laidOut) Ev.p_maps) j3) j4) j5) Ev.p_stops) j7) Ev.p_knobs) j9) j10) j11) j12) j13) j14) j15) j16) j17) j18) j19) j20) j21) Ev.p_plain) j23) Ev.p_heard) Ev.p_enter) Ev.p_lifts) Ev.p_make) j28) j29) j30) j31
theorem named : Tryz.prog.funcNamed "signet/signetlaw10.GrowNil" = some 5 := by kernel_rfl
theorem over : Rows.growNilRow.holds Tryz.pinned (OpenSpec.ofChange Rows.growNilSpec) :=
  OpenClaim.holds_of_wide 5 Tryz.f5 rfl rfl rfl rfl rfl rfl rfl ⟨rfl, rfl, rfl, rfl, rfl⟩ rfl rfl rfl rfl rfl named Tryz.func5 closed
    (of_decide_eq_true (by kernel_rfl)) (by unfold Func.isWrapper; first | (rw [if_pos (by decide +kernel)]; kernel_rfl) | (rw [if_neg (by decide +kernel)]; exact ⟨rfl, rfl⟩))
    (fun os started H enc _ => lifted os started H enc)
end Go.Proofs.YtoehfadjpficiaaGreat.growNil
namespace Go.Proofs.YtoehfadjpficiaaGreat
/-- The row, under a short name, for the claim. -/
theorem growNil_holds : Rows.GrowNilSaid := growNil.over
end Go.Proofs.YtoehfadjpficiaaGreat
