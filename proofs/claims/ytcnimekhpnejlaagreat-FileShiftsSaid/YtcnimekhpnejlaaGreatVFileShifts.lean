/- The row of the law FileShifts: for every input it answers true, and each argument reads as it did. -/
import Derived.Test.YtcnimekhpnejlaaGreatVFileShifts1
import Derived.Test.YtcnimekhpnejlaaGreatVFileShifts2
import Derived.WalkKit
import Derived.ProofKit
import Derived.OpenShut
import Derived.ShutString
import Derived.ChangeOld
import Derived.Below
import Derived.SizedLaws
import Derived.HandedShaped
import Derived.Shelf.Vars

namespace Go.Proofs.YtcnimekhpnejlaaGreat.fileShifts
open Go.ChangeShapes Go.WideShapes Go.ChangeAt Go.RowKit Go.Proofs.YtcnimekhpnejlaaGreat.Ev
set_option linter.unusedVariables false
set_option maxRecDepth 100000
theorem glob_shape {W : World} (h : W.ShapedOpen Tryz.prog) : ∃ m, isGlob 0 m 0 W := by
  obtain ⟨cs, hh, hs, _⟩ := h.1 0 #[.int .i64 0] 3 (of_decide_eq_true (by kernel_rfl)) (by kernel_rfl)
  obtain ⟨m, hm⟩ := Go.Proofs.cell_of_shapedOpen_int (zero := #[.int .i64 0]) (t := 3) (k := .i64) (g := 0) h (of_decide_eq_true (by kernel_rfl)) (by kernel_rfl) rfl (by kernel_rfl) (by kernel_rfl) Tryz.underlying3
  have hs : cs.size = 1 := hs
  refine ⟨m, rfl, hh.trans ?_⟩
  simp only [World.cell?, hh] at hm
  congr 2
  apply Array.ext
  · exact hs
  · intro i h1 h2
    obtain rfl : i = 0 := by omega
    have h3 : cs[0]? = some (.int .i64 m) := by simpa using hm
    rw [Array.getElem?_eq_getElem h1] at h3
    exact Option.some.inj h3
theorem walk (v0 v1 v2 : Value) (W : World) (base : Nat) (h0 : Value.okWide Tryz.prog W .any base 9 v0) (h1 : Value.okWide Tryz.prog W .any base 3 v1) (h2 : Value.okWide Tryz.prog W .any base 9 v2) (hsh : W.ShapedOpen Tryz.prog) : Calls Tryz.prog 7 #[v0, v1, v2] W fun e W' => e = .returned (.bool true) ∧ Below W.heap.size W W' := by
  obtain ⟨s, rfl⟩ := okWide_string Tryz.underlying9 h0
  obtain ⟨n, rfl, hn⟩ := int_range Tryz.underlying3 h1
  obtain ⟨t, rfl⟩ := okWide_string Tryz.underlying9 h2
  obtain ⟨m, hm⟩ := glob_shape hsh
  exact shifts_true n hn s t m W hm
theorem lifted (os : Os) (started : os.Started) (H : Type) (enc : TypeId × Value → H) :
    ReturnsInHanded {} Tryz.checked os 7 .any (Rows.fileShiftsSpec.pre6 enc Tryz.prog Tryz.f7 Rows.fileShiftsRow.domain false) (Rows.fileShiftsSpec.post enc Tryz.prog Tryz.f7 false true false false) := by
  refine returnsInHanded_of_change_shaped (C := Tryz.checked) own started (by kernel_rfl) Tryz.func7
    (ChangeSpec.witness6 (enc := enc) (C := Tryz.checked) false ⟨#[], #[.string ⟨#[]⟩, .int .i64 0, .string ⟨#[]⟩], []⟩ 8 (by kernel_rfl) (by kernel_rfl) (by kernel_rfl) (by kernel_rfl)) ?_
  intro W base args ds gs before hval0 hW hcnd hsz0 hsh _
  have hval : ∀ (j : Nat) t v, Tryz.f7.params[j]? = some t → args[j]? = some v → Value.okWide Tryz.prog W .any base t v := hval0
  have hW' := hW
  obtain ⟨p, q, hA0, hV, rfl, hfz, hnd⟩ := hW
  have hA : DataW.TrodAll enc Tryz.prog W 0 (fun _ => true) true Tryz.f7.params.toList args.toList ds p := hA0
  rw [Tryz.params7] at hA hval
  obtain ⟨v0, vs0, d0, ds0, p0, q0, hargs, rfl, rfl, k0, r0⟩ := trodAll_cons hA
  obtain ⟨v1, vs1, d1, ds1, p1, q1, rfl, rfl, rfl, k1, r1⟩ := trodAll_cons r0
  obtain ⟨v2, vs2, d2, ds2, p2, q2, rfl, rfl, rfl, k2, r2⟩ := trodAll_cons r1
  obtain ⟨rfl, rfl, rfl⟩ := trodAll_nil r2
  obtain rfl : args = #[v0, v1, v2] := by cases args; simp_all
  obtain ⟨rfl, rfl⟩ := trodVars_none hV
  have kk0 := k0
  have lt0 : ∀ x ∈ p0, x.block < W.heap.size := by obtain ⟨m, hm⟩ := kk0; exact DataW.trod_lt m _ _ _ hm
  have kk1 := k1
  have lt1 : ∀ x ∈ p1, x.block < W.heap.size := by obtain ⟨m, hm⟩ := kk1; exact DataW.trod_lt m _ _ _ hm
  have kk2 := k2
  have lt2 : ∀ x ∈ p2, x.block < W.heap.size := by obtain ⟨m, hm⟩ := kk2; exact DataW.trod_lt m _ _ _ hm
  refine (walk v0 v1 v2 W base (hval 0 _ v0 rfl rfl) (hval 1 _ v1 rfl rfl) (hval 2 _ v2 rfl rfl) hsh).mono fun e W' ⟨he, bel⟩ => ?_
  subst he
  exact ⟨_, rfl, _, _, _, [], _, [], hW', trodAll_mk1 (shut_bool Tryz.underlying4 _), (trodAll_cons_mk (Below.trod laidOut (by kernel_rfl) (of_decide_eq_true (by kernel_rfl)) kk0 bel lt0) (trodAll_cons_mk (Below.trod laidOut (by kernel_rfl) (of_decide_eq_true (by kernel_rfl)) kk1 bel lt1) (trodAll_cons_mk (Below.trod laidOut (by kernel_rfl) (of_decide_eq_true (by kernel_rfl)) kk2 bel lt2) trodAll_mk0))), rfl, bel.frame _, fun h => by cases h⟩
theorem j0 : (Rows.fileShiftsRow.wf (OpenSpec.ofChange Rows.fileShiftsSpec)) = true := by kernel_rfl
theorem j3 : (Tryz.f7.params.all (Tryz.prog.readableRec ·)) = true := by kernel_rfl
theorem j4 : (namedTie Tryz.prog Rows.fileShiftsRow.named Rows.fileShiftsSpec.vars) = true := by kernel_rfl
theorem j5 : ((Rows.fileShiftsRow.stops == [])) = true := by kernel_rfl
theorem j7 : ((Rows.fileShiftsRow.knobs == [])) = true := by kernel_rfl
theorem j9 : ((Rows.fileShiftsRow.inPlace == Tryz.prog.inPlace 7)) = true := by kernel_rfl
theorem j10 : ((Rows.fileShiftsRow.unfollowed == Tryz.prog.unfollowed 7)) = true := by kernel_rfl
theorem j11 : ((Rows.fileShiftsRow.recurses == Tryz.prog.recurses 7)) = true := by kernel_rfl
theorem j12 : ((Rows.fileShiftsRow.named == Tryz.prog.varsNamed 7)) = true := by kernel_rfl
theorem j13 : ((Rows.fileShiftsRow.maps == (Tryz.f7.params.toList ++ Rows.fileShiftsSpec.plain.varTypes Tryz.prog).any (Tryz.prog.mapsRec ·))) = true := by kernel_rfl
theorem j14 : ((Rows.fileShiftsRow.ifaces == (Tryz.f7.params.toList ++ Rows.fileShiftsSpec.plain.varTypes Tryz.prog).any (Tryz.prog.ifacesRec ·))) = true := by kernel_rfl
theorem j15 : ((Rows.fileShiftsRow.mapsOut == Tryz.prog.mapsAmong Tryz.f7.resultTypes.toList)) = true := by kernel_rfl
theorem j16 : ((Rows.fileShiftsRow.loops == (Tryz.f7.params.toList ++ Rows.fileShiftsSpec.plain.varTypes Tryz.prog).any (Tryz.prog.loopsFrom ·))) = true := by kernel_rfl
theorem j17 : ((Rows.fileShiftsRow.wideKeys == (Tryz.f7.params.toList ++ Rows.fileShiftsSpec.plain.varTypes Tryz.prog ++ Tryz.f7.resultTypes.toList).any (Tryz.prog.wideKeysFrom ·))) = true := by kernel_rfl
theorem j18 : (Rows.fileShiftsSpec.vars.all (Tryz.prog.varReadable ·)) = true := by kernel_rfl
theorem j19 : (Tryz.f7.resultTypes.all (fun t => Tryz.prog.readableRec t && decide (t < Tryz.prog.types.size))) = true := by kernel_rfl
theorem j20 : ((Rows.fileShiftsRow.ifacesOut == Tryz.f7.resultTypes.toList.any (Tryz.prog.ifacesRec ·))) = true := by kernel_rfl
theorem j21 : ((Rows.fileShiftsRow.loopsOut == Tryz.f7.resultTypes.toList.any (Tryz.prog.loopsFrom ·))) = true := by kernel_rfl
theorem j23 : (Rows.fileShiftsRow.shortTexts.isNone) = true := by kernel_rfl
theorem j28 : ((Rows.fileShiftsRow.kinds == (if Rows.fileShiftsRow.domain.isEmpty then [] else Tryz.f7.params.toList.map fun t => match Tryz.prog.underlying t with | some (.int k) => some k | _ => none))) = true := by kernel_rfl
theorem j29 : ((Rows.fileShiftsRow.pinned == Rows.fileShiftsRow.pinnedBy)) = true := by kernel_rfl
theorem j30 : ((Rows.fileShiftsRow.veiled == (Tryz.f7.params.toList ++ Rows.fileShiftsSpec.plain.varTypes Tryz.prog ++ Tryz.f7.resultTypes.toList).any (Tryz.prog.veiledRec ·))) = true := by kernel_rfl
theorem j31 : (Rows.fileShiftsRow.veiledFits Tryz.prog Tryz.f7.params.toList (Tryz.f7.params.toList ++ Rows.fileShiftsSpec.plain.varTypes Tryz.prog ++ Tryz.f7.resultTypes.toList)) = true := by kernel_rfl
theorem closed : joinedFacts Tryz.prog 7 Tryz.f7 Rows.fileShiftsSpec Rows.fileShiftsRow = true := Ev.andt (Ev.andt (Ev.andt (Ev.andt (Ev.andt (Ev.andt (Ev.andt (Ev.andt (Ev.andt (Ev.andt (Ev.andt (Ev.andt (Ev.andt (Ev.andt (Ev.andt (Ev.andt (Ev.andt (Ev.andt (Ev.andt (Ev.andt (Ev.andt (Ev.andt (Ev.andt (Ev.andt (Ev.andt (Ev.andt (Ev.andt (Ev.andt (Ev.andt (Ev.andt (Ev.andt j0 Ev.laidOut) Ev.p_maps) j3) j4) j5) Ev.p_stops) j7) Ev.p_knobs) j9) j10) j11) j12) j13) j14) j15) j16) j17) j18) j19) j20) j21) Ev.p_plain) j23) Ev.p_heard) Ev.p_enter) Ev.p_lifts) Ev.p_make) j28) j29) j30) j31
theorem named : Tryz.prog.funcNamed "signet/signetlaw16.FileShifts" = some 7 := by kernel_rfl
theorem over : Rows.fileShiftsRow.holds Tryz.pinned (OpenSpec.ofChange Rows.fileShiftsSpec) :=
  OpenClaim.holds_of_wide 7 Tryz.f7 rfl rfl rfl rfl rfl rfl rfl ⟨rfl, rfl, rfl, rfl, rfl⟩ rfl rfl rfl rfl rfl named Tryz.func7 closed
    (of_decide_eq_true (by kernel_rfl)) (by unfold Func.isWrapper; first | (rw [if_pos (by decide +kernel)]; kernel_rfl) | (rw [if_neg (by decide +kernel)]; exact ⟨rfl, rfl⟩))
    (fun os started H enc _ => lifted os started H enc)
end Go.Proofs.YtcnimekhpnejlaaGreat.fileShifts
namespace Go.Proofs.YtcnimekhpnejlaaGreat
/-- The row, under a short name, for the claim. -/
theorem fileShifts_holds : Rows.FileShiftsSaid := fileShifts.over
end Go.Proofs.YtcnimekhpnejlaaGreat
