/- The row of the law InodesOpens: for every input it answers true, and each argument reads as it did. -/
import Derived.Test.YtoehfadjpficiaaGreatEvLaw
import Derived.Test.YtoehfadjpficiaaGreatEvFacts
import Derived.Test.YtoehfadjpficiaaGreatVOpens2
import Derived.Test.YtoehfadjpficiaaGreatVOpens3
import Derived.Test.YtoehfadjpficiaaGreatVOpens4
import Derived.WalkKit
import Derived.ProofKit
import Derived.OpenShut
import Derived.ShutString
import Derived.ChangeOld
import Derived.Below
import Derived.SizedLaws
namespace Go.Proofs.YtoehfadjpficiaaGreat.inodesOpens
open Go.ChangeShapes Go.WideShapes Go.ChangeAt Go.RowKit Go.Proofs.YtoehfadjpficiaaGreat.Ev
set_option linter.unusedVariables false
set_option maxRecDepth 100000
theorem all1 {n : Nat} {f : Nat → Bool} (h : ((List.range n).all f) = true) (r : Nat) (hr : r < n) : f r = true := List.all_eq_true.1 h r (List.mem_range.2 hr)
theorem kinds28 : kindsB Tryz.prog 28 34 gKind = true := by kernel_rfl
theorem ht_of (h H : Int) : H = h ∨ ∃ t, t < 3 ∧ HtIs t h H := by
  by_cases l1 : H < 0
  · exact .inr ⟨0, by omega, l1⟩
  · by_cases l2 : 6 < H
    · exact .inr ⟨1, by omega, l2⟩
    · by_cases l3 : H = h
      · exact .inl l3
      · exact .inr ⟨2, by omega, by omega, by omega, l3⟩
theorem none_congr {ρ ρ' : Nat → Value} (h : ∀ i, i ≠ 0 → ρ' i = ρ i) {g : Nat} {b : Bool} (hN : NoneIs ρ' g b) : NoneIs ρ g b := by
  have e : (List.range' 1 33).map ρ' = (List.range' 1 33).map ρ := List.map_congr_left fun i hi => h i (by
    have := (List.mem_range'.1 hi)
    omega)
  intro W
  have := hN W
  rw [e] at this
  exact this
theorem walk (v0 v1 : Value) (W : World) (base : Nat) (h0 : Value.okWide Tryz.prog W .any base 28 v0) (h1 : Value.okWide Tryz.prog W .any base 3 v1) : Calls Tryz.prog 3 #[v0, v1] W fun e W' => e = .returned (.bool true) ∧ Below W.heap.size W W' := by
  obtain ⟨c0, rfl, s0, r0⟩ : ∃ cs, v0 = .agg cs ∧ cs.size = 34 ∧ Row.okWide Tryz.prog W .any base 28 cs := by
    unfold Value.okWide at h0
    rw [Tryz.underlying28] at h0
    obtain ⟨cs, e1, e2, e3⟩ := h0
    exact ⟨cs, e1, e2.trans (by kernel_rfl), e3⟩
  obtain ⟨m, rfl, hmr⟩ : ∃ m, v1 = .int .i64 m ∧ -9223372036854775808 ≤ m ∧ m ≤ 9223372036854775807 := by
    simp only [Value.okWide, Tryz.underlying3, Cell.okWide] at h1
    cases v1 <;> simp [Cell.ok, Tryz.underlying3] at h1
    obtain ⟨rfl, h⟩ := h1
    simp only [IntKind.has, IntKind.min, IntKind.max, IntKind.signed, IntKind.bits] at h
    exact ⟨_, rfl, by simpa using h⟩
  let ρ : Nat → Value := fun i => if i = 34 then .int .i64 m else if i = 40 then .int .i64 (m + 3) else if i = 41 then .int .i64 ((m + 3) / 4) else if i = 42 then .int .i64 (m + 4) else c0.getD i undef
  have e0 : ∀ i, i < 34 → ρ i = c0.getD i undef := fun i hi => by
    show (if i = 34 then _ else if i = 40 then _ else if i = 41 then _ else if i = 42 then _ else _) = _
    rw [if_neg (by omega), if_neg (by omega), if_neg (by omega), if_neg (by omega)]
  have hk : ∀ i, i < 34 → ∃ x, ρ i = .int (gKind i) x := fun i hi => by
    rw [e0 i hi]
    exact kinds_of kinds28 r0 s0 i hi
  have a0 : (EV.a (.agg (.var 0 :: vars33))).rel ⟨fun _ => none, ρ⟩ (.agg c0) := agg_rel 0 34 s0 (row_one r0) fun i hi => by
    rw [Nat.zero_add]
    exact e0 i hi
  have a1 : (EV.a (.s (.var 34))).rel ⟨fun _ => none, ρ⟩ (.int .i64 m) := ⟨rfl, rfl⟩
  obtain ⟨H, hH⟩ := hk 0 (by omega)
  have hH : ρ 0 = .int .i64 H := hH
  obtain ⟨a, ha⟩ := hk 1 (by omega)
  have ha : ρ 1 = .int .u32 a := ha
  have lit : ∀ h : Int, H = h → (EV.a (.agg (.int .i64 h :: vars33))).rel ⟨fun _ => none, ρ⟩ (.agg c0) := fun h hh => by
    obtain ⟨vs, hv, hrel⟩ := a0
    refine ⟨vs, hv, ?_⟩
    match vs, hv, hrel with
    | v :: vs, hv, hrel =>
      refine ⟨?_, hrel.2⟩
      have e := hrel.1.1
      show v = _
      rw [e, ← hh]
      exact hH
  obtain ⟨r, hr3, hra, hN⟩ : ∃ r, r < 3 ∧ (a == 0) = rA r ∧ NoneIs ρ 73 (rN r) ∧ NoneIs ρ 14 (rN r) := by
    by_cases l3 : a = 0
    · subst l3
      have hu8 : ∀ i, i < 32 → ∃ x, ρ (i + 2) = .int .u8 x := fun i hi => by
        obtain ⟨x, hx⟩ := hk (i + 2) (by omega)
        refine ⟨x, hx.trans ?_⟩
        unfold gKind
        rw [if_neg (by omega), if_neg (by omega)]
      rcases first_nonzero 32 hu8 with hz | ⟨j, y, hj, hy, hjy, hz⟩
      · exact ⟨1, by omega, rfl, none_zero ha hz⟩
      · let ρ' : Nat → Value := fun i => if i = 0 then .int .i64 0 else ρ i
        have hne : ∀ i, i ≠ 0 → ρ' i = ρ i := fun i hi => if_neg hi
        have hk' : ∀ i, i < 34 → ∃ x, ρ' i = .int (gKind i) x := fun i hi => by
          by_cases e : i = 0
          · subst e; exact ⟨0, rfl⟩
          · rw [hne i e]; exact hk i hi
        have hs := none_sum hk' hj (n := 0) (by omega) rfl (by rw [hne 1 (by omega)]; exact ha) (fun i hi => by rw [hne _ (by omega)]; exact hz i hi) hy (by rw [hne _ (by omega)]; exact hjy)
        exact ⟨2, by omega, rfl, none_congr hne hs.1, none_congr hne hs.2⟩
    · exact ⟨0, by omega, by simpa [rA] using l3, none_far hk l3 ha⟩
  have fin : ∀ (ht : Nat) (h lo hi l1 l2 : Int) (dv : Bool) (x y : SV), runO ρ ht h lo hi l1 l2 dv r x y = true → HtIs ht h H → lo ≤ m ∧ m ≤ hi → (dv = true → l1 ≤ (m + 3) / 4 ∧ (m + 3) / 4 ≤ l2) → (dv = true → 0 ≤ m ∧ m ≤ 4096) → (EV.a (.agg (x :: vars33))).rel ⟨fun _ => none, ρ⟩ (.agg c0) → (EV.a (.s y)).rel ⟨fun _ => none, ρ⟩ (.int .i64 m) →
      Calls Tryz.prog 3 #[.agg c0, .int .i64 m] W fun e W' => e = .returned (.bool true) ∧ Below W.heap.size W W' := fun ht h lo hi l1 l2 dv x y hev hht hm hl hd hx hy =>
    law_any (kO_ok hk hH hht ha hra rfl hm rfl rfl rfl hl hd) (sumOr_ok (sumTrue_ok rfl fun g hg => by
      obtain rfl := List.mem_singleton.1 hg
      exact awake15) (sumNone_ok hN)) hev (vs := [.agg c0, .int .i64 m]) ⟨hx, hy, trivial⟩ W
  have h77 : ∀ h : Int, 0 ≤ h ∧ h ≤ 6 → H = h → HtIs 2 77 H := fun h hh e => ⟨by omega, by omega, by omega⟩
  have nof : false = true → ∀ {p : Prop}, p := fun h => by cases h
  by_cases g1 : m < 0
  · rcases ht_of 77 H with e | ⟨t, ht, hht⟩
    · exact fin 1 77 _ _ 0 0 false _ _ (all1 (all1 (evNeg ρ) 1 (by omega)) r hr3) (show 6 < H by omega) ⟨hmr.1, by omega⟩ (fun h => nof h) (fun h => nof h) a0 a1
    · exact fin t 77 _ _ 0 0 false _ _ (all1 (all1 (evNeg ρ) t ht) r hr3) hht ⟨hmr.1, by omega⟩ (fun h => nof h) (fun h => nof h) a0 a1
  by_cases g2 : 4096 < m
  · rcases ht_of 77 H with e | ⟨t, ht, hht⟩
    · exact fin 1 77 _ _ 0 0 false _ _ (all1 (all1 (evBig ρ) 1 (by omega)) r hr3) (show 6 < H by omega) ⟨by omega, hmr.2⟩ (fun h => nof h) (fun h => nof h) a0 a1
    · exact fin t 77 _ _ 0 0 false _ _ (all1 (all1 (evBig ρ) t ht) r hr3) hht ⟨by omega, hmr.2⟩ (fun h => nof h) (fun h => nof h) a0 a1
  by_cases g3 : m = 0
  · rcases ht_of 0 H with e | ⟨t, ht, hht⟩
    · exact fin 2 77 0 0 0 0 false _ _ (all1 (evZeroH ρ) r hr3) (h77 0 (by omega) e) ⟨by omega, by omega⟩ (fun h => nof h) (fun h => nof h) (lit 0 e) (by subst g3; rfl)
    · exact fin t 0 0 0 0 0 false _ _ (all1 (all1 (evZero ρ) t ht) r hr3) hht ⟨by omega, by omega⟩ (fun h => nof h) (fun h => nof h) a0 (by subst g3; rfl)
  by_cases g4 : m ≤ 4
  · rcases ht_of 0 H with e | ⟨t, ht, hht⟩
    · exact fin 2 77 1 4 1 1 true _ _ (all1 (evRh0 ρ) r hr3) (h77 0 (by omega) e) ⟨by omega, by omega⟩ (fun _ => by omega) (fun _ => by omega) (lit 0 e) a1
    · exact fin t 0 1 4 1 1 true _ _ (all1 (all1 (evR0 ρ) t ht) r hr3) hht ⟨by omega, by omega⟩ (fun _ => by omega) (fun _ => by omega) a0 a1
  by_cases g5 : m ≤ 16
  · rcases ht_of 1 H with e | ⟨t, ht, hht⟩
    · exact fin 2 77 5 16 2 4 true _ _ (all1 (evRh1 ρ) r hr3) (h77 1 (by omega) e) ⟨by omega, by omega⟩ (fun _ => by omega) (fun _ => by omega) (lit 1 e) a1
    · exact fin t 1 5 16 2 4 true _ _ (all1 (all1 (evR1 ρ) t ht) r hr3) hht ⟨by omega, by omega⟩ (fun _ => by omega) (fun _ => by omega) a0 a1
  by_cases g6 : m ≤ 64
  · rcases ht_of 2 H with e | ⟨t, ht, hht⟩
    · exact fin 2 77 17 64 5 16 true _ _ (all1 (evRh2 ρ) r hr3) (h77 2 (by omega) e) ⟨by omega, by omega⟩ (fun _ => by omega) (fun _ => by omega) (lit 2 e) a1
    · exact fin t 2 17 64 5 16 true _ _ (all1 (all1 (evR2 ρ) t ht) r hr3) hht ⟨by omega, by omega⟩ (fun _ => by omega) (fun _ => by omega) a0 a1
  by_cases g7 : m ≤ 256
  · rcases ht_of 3 H with e | ⟨t, ht, hht⟩
    · exact fin 2 77 65 256 17 64 true _ _ (all1 (evRh3 ρ) r hr3) (h77 3 (by omega) e) ⟨by omega, by omega⟩ (fun _ => by omega) (fun _ => by omega) (lit 3 e) a1
    · exact fin t 3 65 256 17 64 true _ _ (all1 (all1 (evR3 ρ) t ht) r hr3) hht ⟨by omega, by omega⟩ (fun _ => by omega) (fun _ => by omega) a0 a1
  by_cases g8 : m ≤ 1024
  · rcases ht_of 4 H with e | ⟨t, ht, hht⟩
    · exact fin 2 77 257 1024 65 256 true _ _ (all1 (evRh4 ρ) r hr3) (h77 4 (by omega) e) ⟨by omega, by omega⟩ (fun _ => by omega) (fun _ => by omega) (lit 4 e) a1
    · exact fin t 4 257 1024 65 256 true _ _ (all1 (all1 (evR4 ρ) t ht) r hr3) hht ⟨by omega, by omega⟩ (fun _ => by omega) (fun _ => by omega) a0 a1
  rcases ht_of 5 H with e | ⟨t, ht, hht⟩
  · exact fin 2 77 1025 4096 257 1024 true _ _ (all1 (evRh5 ρ) r hr3) (h77 5 (by omega) e) ⟨by omega, by omega⟩ (fun _ => by omega) (fun _ => by omega) (lit 5 e) a1
  · exact fin t 5 1025 4096 257 1024 true _ _ (all1 (all1 (evR5 ρ) t ht) r hr3) hht ⟨by omega, by omega⟩ (fun _ => by omega) (fun _ => by omega) a0 a1
theorem lifted (os : Os) (started : os.Started) (H : Type) (enc : TypeId × Value → H) :
    ReturnsInHanded {} Tryz.checked os 3 .any (Rows.inodesOpensSpec.pre6 enc Tryz.prog Tryz.f3 Rows.inodesOpensRow.domain false) (Rows.inodesOpensSpec.post enc Tryz.prog Tryz.f3 false true false false) := by
  refine returnsInHanded_of_change_sized (C := Tryz.checked) own started (by kernel_rfl) Tryz.func3
    (ChangeSpec.witness6 (enc := enc) (C := Tryz.checked) false ⟨#[], #[.agg #[.int .i64 0, .int .u32 0, .int .u8 0, .int .u8 0, .int .u8 0, .int .u8 0, .int .u8 0, .int .u8 0, .int .u8 0, .int .u8 0, .int .u8 0, .int .u8 0, .int .u8 0, .int .u8 0, .int .u8 0, .int .u8 0, .int .u8 0, .int .u8 0, .int .u8 0, .int .u8 0, .int .u8 0, .int .u8 0, .int .u8 0, .int .u8 0, .int .u8 0, .int .u8 0, .int .u8 0, .int .u8 0, .int .u8 0, .int .u8 0, .int .u8 0, .int .u8 0, .int .u8 0, .int .u8 0], .int .i64 0], []⟩ 8 (by kernel_rfl) (by kernel_rfl) (by kernel_rfl) (by kernel_rfl)) ?_
  intro W base args ds gs before hval0 hW hcnd hsz0 _
  have hval : ∀ (j : Nat) t v, Tryz.f3.params[j]? = some t → args[j]? = some v → Value.okWide Tryz.prog W .any base t v := hval0
  have hW' := hW
  obtain ⟨p, q, hA0, hV, rfl, hfz, hnd⟩ := hW
  have hA : DataW.TrodAll enc Tryz.prog W 0 (fun _ => true) true Tryz.f3.params.toList args.toList ds p := hA0
  rw [Tryz.params3] at hA hval
  obtain ⟨v0, vs0, d0, ds0, p0, q0, hargs, rfl, rfl, k0, r0⟩ := trodAll_cons hA
  obtain ⟨v1, vs1, d1, ds1, p1, q1, rfl, rfl, rfl, k1, r1⟩ := trodAll_cons r0
  obtain ⟨rfl, rfl, rfl⟩ := trodAll_nil r1
  obtain rfl : args = #[v0, v1] := by cases args; simp_all
  obtain ⟨rfl, rfl⟩ := trodVars_none hV
  have kk0 := k0
  have lt0 : ∀ x ∈ p0, x.block < W.heap.size := by obtain ⟨m, hm⟩ := kk0; exact DataW.trod_lt m _ _ _ hm
  have kk1 := k1
  have lt1 : ∀ x ∈ p1, x.block < W.heap.size := by obtain ⟨m, hm⟩ := kk1; exact DataW.trod_lt m _ _ _ hm
  refine (walk v0 v1 W base (hval 0 28 v0 rfl rfl) (hval 1 3 v1 rfl rfl)).mono fun e W' ⟨he, bel⟩ => ?_
  subst he
  exact ⟨_, rfl, _, _, _, [], _, [], hW', trodAll_mk1 (shut_bool Tryz.underlying4 _), (trodAll_cons_mk (Below.trod laidOut (by kernel_rfl) (of_decide_eq_true (by kernel_rfl)) kk0 bel lt0) (trodAll_cons_mk (Below.trod laidOut (by kernel_rfl) (of_decide_eq_true (by kernel_rfl)) kk1 bel lt1) trodAll_mk0)), rfl, bel.frame _, fun h => by cases h⟩
theorem j0 : (Rows.inodesOpensRow.wf (OpenSpec.ofChange Rows.inodesOpensSpec)) = true := by kernel_rfl
theorem j3 : (Tryz.f3.params.all (Tryz.prog.readableRec ·)) = true := by kernel_rfl
theorem j4 : (namedTie Tryz.prog Rows.inodesOpensRow.named Rows.inodesOpensSpec.vars) = true := by kernel_rfl
theorem j5 : ((Rows.inodesOpensRow.stops == [])) = true := by kernel_rfl
theorem j7 : ((Rows.inodesOpensRow.knobs == [])) = true := by kernel_rfl
theorem j9 : ((Rows.inodesOpensRow.inPlace == Tryz.prog.inPlace 3)) = true := by kernel_rfl
theorem j10 : ((Rows.inodesOpensRow.unfollowed == Tryz.prog.unfollowed 3)) = true := by kernel_rfl
theorem j11 : ((Rows.inodesOpensRow.recurses == Tryz.prog.recurses 3)) = true := by kernel_rfl
theorem j12 : ((Rows.inodesOpensRow.named == Tryz.prog.varsNamed 3)) = true := by kernel_rfl
theorem j13 : ((Rows.inodesOpensRow.maps == (Tryz.f3.params.toList ++ Rows.inodesOpensSpec.plain.varTypes Tryz.prog).any (Tryz.prog.mapsRec ·))) = true := by kernel_rfl
theorem j14 : ((Rows.inodesOpensRow.ifaces == (Tryz.f3.params.toList ++ Rows.inodesOpensSpec.plain.varTypes Tryz.prog).any (Tryz.prog.ifacesRec ·))) = true := by kernel_rfl
theorem j15 : ((Rows.inodesOpensRow.mapsOut == Tryz.prog.mapsAmong Tryz.f3.resultTypes.toList)) = true := by kernel_rfl
theorem j16 : ((Rows.inodesOpensRow.loops == (Tryz.f3.params.toList ++ Rows.inodesOpensSpec.plain.varTypes Tryz.prog).any (Tryz.prog.loopsFrom ·))) = true := by kernel_rfl
theorem j17 : ((Rows.inodesOpensRow.wideKeys == (Tryz.f3.params.toList ++ Rows.inodesOpensSpec.plain.varTypes Tryz.prog ++ Tryz.f3.resultTypes.toList).any (Tryz.prog.wideKeysFrom ·))) = true := by kernel_rfl
theorem j18 : (Rows.inodesOpensSpec.vars.all (Tryz.prog.varReadable ·)) = true := by kernel_rfl
theorem j19 : (Tryz.f3.resultTypes.all (fun t => Tryz.prog.readableRec t && decide (t < Tryz.prog.types.size))) = true := by kernel_rfl
theorem j20 : ((Rows.inodesOpensRow.ifacesOut == Tryz.f3.resultTypes.toList.any (Tryz.prog.ifacesRec ·))) = true := by kernel_rfl
theorem j21 : ((Rows.inodesOpensRow.loopsOut == Tryz.f3.resultTypes.toList.any (Tryz.prog.loopsFrom ·))) = true := by kernel_rfl
theorem j23 : (Rows.inodesOpensRow.shortTexts.isNone) = true := by kernel_rfl
theorem j28 : ((Rows.inodesOpensRow.kinds == (if Rows.inodesOpensRow.domain.isEmpty then [] else Tryz.f3.params.toList.map fun t => match Tryz.prog.underlying t with | some (.int k) => some k | _ => none))) = true := by kernel_rfl
theorem j29 : ((Rows.inodesOpensRow.pinned == Rows.inodesOpensRow.pinnedBy)) = true := by kernel_rfl
theorem j30 : ((Rows.inodesOpensRow.veiled == (Tryz.f3.params.toList ++ Rows.inodesOpensSpec.plain.varTypes Tryz.prog ++ Tryz.f3.resultTypes.toList).any (Tryz.prog.veiledRec ·))) = true := by kernel_rfl
theorem j31 : (Rows.inodesOpensRow.veiledFits Tryz.prog Tryz.f3.params.toList (Tryz.f3.params.toList ++ Rows.inodesOpensSpec.plain.varTypes Tryz.prog ++ Tryz.f3.resultTypes.toList)) = true := by kernel_rfl
theorem closed : joinedFacts Tryz.prog 3 Tryz.f3 Rows.inodesOpensSpec Rows.inodesOpensRow = true := Ev.andt (Ev.andt (Ev.andt (Ev.andt (Ev.andt (Ev.andt (Ev.andt (Ev.andt (Ev.andt (Ev.andt (Ev.andt (Ev.andt (Ev.andt (Ev.andt (Ev.andt (Ev.andt (Ev.andt (Ev.andt (Ev.andt (Ev.andt (Ev.andt (Ev.andt (Ev.andt (Ev.andt (Ev.andt (Ev.andt (Ev.andt (Ev.andt (Ev.andt (Ev.andt (Ev.andt j0 Ev.laidOut) Ev.p_maps) j3) j4) j5) Ev.p_stops) j7) Ev.p_knobs) j9) j10) j11) j12) j13) j14) j15) j16) j17) j18) j19) j20) j21) Ev.p_plain) j23) Ev.p_heard) Ev.p_enter) Ev.p_lifts) Ev.p_make) j28) j29) j30) j31
theorem named : Tryz.prog.funcNamed "signet/signetlaw15.InodesOpens" = some 3 := by kernel_rfl
theorem over : Rows.inodesOpensRow.holds Tryz.pinned (OpenSpec.ofChange Rows.inodesOpensSpec) :=
  OpenClaim.holds_of_wide 3 Tryz.f3 rfl rfl rfl rfl rfl rfl rfl ⟨rfl, rfl, rfl, rfl, rfl⟩ rfl rfl rfl rfl rfl named Tryz.func3 closed
    (of_decide_eq_true (by kernel_rfl)) (by unfold Func.isWrapper; first | (rw [if_pos (by decide +kernel)]; kernel_rfl) | (rw [if_neg (by decide +kernel)]; exact ⟨rfl, rfl⟩))
    (fun os started H enc _ => lifted os started H enc)
end Go.Proofs.YtoehfadjpficiaaGreat.inodesOpens
namespace Go.Proofs.YtoehfadjpficiaaGreat
/-- The row, under a short name, for the claim. -/
theorem inodesOpens_holds : Rows.InodesOpensSaid := inodesOpens.over
end Go.Proofs.YtoehfadjpficiaaGreat
