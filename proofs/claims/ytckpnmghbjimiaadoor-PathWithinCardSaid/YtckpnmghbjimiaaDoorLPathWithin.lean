/- The row and the tied card of the law PathWithin: for every input it answers true, and each argument reads as it did. -/
import Derived.Test.YtckpnmghbjimiaaDoorR0
import Derived.Test.YtckpnmghbjimiaaDoorR1
import Derived.Test.YtckpnmghbjimiaaDoorR2
import Derived.Test.YtckpnmghbjimiaaDoorPxSignetlaw18PathWithin
import Derived.Test.YtckpnmghbjimiaaDoorQPathWithin
namespace Go.Proofs.YtckpnmghbjimiaaDoor.pathWithin
open Go.ChangeShapes Go.WideShapes Go.ChangeAt Go.RowKit Go.Proofs.YtckpnmghbjimiaaDoor
open Go.ChangeMaps (open_string shut_string)
open Go.Joins (open_agg2 slice_form)
open Go.Proofs.YtckpnmghbjimiaaDoorW.PrintWords

set_option maxRecDepth 100000 in
theorem contract (H : Type) (enc : TypeId × Value → H) (W : World) (base : Nat) (args : Array Value) (ds gs : List (DataW H)) (before : List MemPlace)
    (hval : ∀ (j : Nat) t v, Tryd.f3.params[j]? = some t → args[j]? = some v → Value.okWide Tryd.prog W .any base t v)
    (hW : DataW.Whole enc Tryd.prog Tryd.f3.params.toList Rows.pathWithinSpec.vars false W args.toList ds gs before)
    (hsz : (DataW.weightsEach Tryd.prog (Tryd.f3.params.toList ++ Rows.pathWithinSpec.plain.varTypes Tryd.prog) (ds ++ gs)).all (· ≤ reachBytes) = true) :
    Calls Tryd.prog 3 args W fun e W' => ∃ v, e = .returned v ∧ Rows.pathWithinSpec.post enc Tryd.prog Tryd.f3 false true false false W args v W' := by
  have hW' := hW
  obtain ⟨p, q, hA0, hV, rfl, hfz, hnd⟩ := hW
  have hA : DataW.TrodAll enc Tryd.prog W 0 (fun _ => true) true Tryd.f3.params.toList args.toList ds p := hA0
  rw [Tryd.params3] at hA hval hsz
  obtain ⟨v0, vs0, d0, ds0, p0, q0, hargs, rfl, rfl, h0, r0⟩ := trodAll_cons hA
  obtain ⟨v1, vs1, d1, ds1, p1, q1, rfl, rfl, rfl, h1, r1⟩ := trodAll_cons r0
  obtain ⟨v2, vs2, d2, ds2, p2, q2, rfl, rfl, rfl, h2, r2⟩ := trodAll_cons r1
  obtain ⟨rfl, rfl, rfl⟩ := trodAll_nil r2
  obtain rfl : args = #[v0, v1, v2] := by cases args; simp_all
  obtain ⟨rfl, rfl⟩ := trodVars_none hV
  have kk0 := h0
  have lt0 : ∀ x ∈ p0, x.block < W.heap.size := by obtain ⟨m, hm⟩ := kk0; exact DataW.trod_lt m _ _ _ hm
  obtain ⟨e0, f0, x0, z0, m0, rfl, rfl, rfl, s0, u0⟩ := open_agg2 Tryd.underlying24 (by kernel_rfl) (by kernel_rfl) (hval 0 24 v0 rfl rfl) h0
  obtain ⟨b0, eb0, xb0⟩ := DataW.trod_bool Tryd.underlying4 u0
  obtain rfl : f0 = .bool b0 := by simpa using eb0
  obtain ⟨a0, n0, c0, ea0⟩ := slice_form Tryd.underlying22 s0
  obtain rfl : e0 = .slice a0 n0 c0 := by simpa using ea0
  obtain ⟨l0, rfl, hc0, hr0, hn0⟩ : ∃ l : List ByteArray, n0 = l.length ∧ l.length ≤ c0 ∧ Kd.C Kd.string W a0 l.length l ∧ l.length ≤ 8796093021952 := strs_P hsz (j := 0) (t := 24) (e2 := 4) rfl rfl Tryd.underlying24 (by kernel_rfl) s0
  have kk1 := h1
  have lt1 : ∀ x ∈ p1, x.block < W.heap.size := by obtain ⟨m, hm⟩ := kk1; exact DataW.trod_lt m _ _ _ hm
  obtain ⟨e1, f1, x1, z1, m1, rfl, rfl, rfl, s1, u1⟩ := open_agg2 Tryd.underlying24 (by kernel_rfl) (by kernel_rfl) (hval 1 24 v1 rfl rfl) h1
  obtain ⟨b1, eb1, xb1⟩ := DataW.trod_bool Tryd.underlying4 u1
  obtain rfl : f1 = .bool b1 := by simpa using eb1
  obtain ⟨a1, n1, c1, ea1⟩ := slice_form Tryd.underlying22 s1
  obtain rfl : e1 = .slice a1 n1 c1 := by simpa using ea1
  obtain ⟨l1, rfl, hc1, hr1, hn1⟩ : ∃ l : List ByteArray, n1 = l.length ∧ l.length ≤ c1 ∧ Kd.C Kd.string W a1 l.length l ∧ l.length ≤ 8796093021952 := strs_P hsz (j := 1) (t := 24) (e2 := 4) rfl rfl Tryd.underlying24 (by kernel_rfl) s1
  have kk2 := h2
  have lt2 : ∀ x ∈ p2, x.block < W.heap.size := by obtain ⟨m, hm⟩ := kk2; exact DataW.trod_lt m _ _ _ hm
  obtain ⟨e2, f2, x2, z2, m2, rfl, rfl, rfl, s2, u2⟩ := open_agg2 Tryd.underlying26 (by kernel_rfl) (by kernel_rfl) (hval 2 26 v2 rfl rfl) h2
  obtain ⟨a2, ea2, xa2, wa2⟩ := DataW.trod_string Tryd.underlying9 s2
  obtain ⟨b2, eb2, xb2, wb2⟩ := DataW.trod_string Tryd.underlying9 u2
  obtain rfl : e2 = .string a2 := by simpa using ea2
  obtain rfl : f2 = .string b2 := by simpa using eb2
  subst xa2
  subst xb2
  have w2 : a2.size ≤ 140737488351232 ∧ b2.size ≤ 140737488351232 := two_sized hsz (j := 2) (t := 26) (e1 := 9) (e2 := 9) rfl rfl Tryd.underlying26 (by kernel_rfl)
  obtain ⟨k, hk⟩ := Pure.PathWithin l0 b0 l1 b1 a2 b2 hn0 hn1 w2.1 w2.2
  refine (P.signetlaw18_PathWithin.calls k a0 c0 l0 b0 a1 c1 l1 b1 a2 b2 true W hr0 hc0 hr1 hc1 hk ⟨rfl⟩).mono fun e W' ⟨he, bel⟩ => ?_
  subst he
  exact ⟨_, rfl, _, _, _, [], _, [], hW', trodAll_mk1 (shut_bool Tryd.underlying4 _), (trodAll_cons_mk (Below.trod laidOut (by kernel_rfl) (of_decide_eq_true (by kernel_rfl)) kk0 bel lt0) (trodAll_cons_mk (Below.trod laidOut (by kernel_rfl) (of_decide_eq_true (by kernel_rfl)) kk1 bel lt1) (trodAll_cons_mk (Below.trod laidOut (by kernel_rfl) (of_decide_eq_true (by kernel_rfl)) kk2 bel lt2) trodAll_mk0))), rfl, bel.frame _, fun h => by cases h⟩

theorem laid_met (os : Os) : laidMet Tryd.prog Rows.pathWithinRow.laid ((laidWorld os).forCall (fun _ _ => 0) ⟨#[], #[.agg #[.slice none 0 0, .bool false], .agg #[.slice none 0 0, .bool false], .agg #[.string ByteArray.empty, .string ByteArray.empty]], []⟩).memory :=
  laidMet_of_run' 8 (by kernel_rfl) (by kernel_rfl)
theorem reads (os : Os) {H : Type} (enc : TypeId × Value → H) : ∃ places, DataW.whole enc Tryd.prog ((laidWorld os).forCall (fun _ _ => 0) ⟨#[], #[.agg #[.slice none 0 0, .bool false], .agg #[.slice none 0 0, .bool false], .agg #[.string ByteArray.empty, .string ByteArray.empty]], []⟩).memory Tryd.f3.params.toList Rows.pathWithinSpec.vars false (#[.agg #[.slice none 0 0, .bool false], .agg #[.slice none 0 0, .bool false], .agg #[.string ByteArray.empty, .string ByteArray.empty]] : Array Value).toList 8 = some ([.agg [.nil, .lit (.bool false)], .agg [.nil, .lit (.bool false)], .agg [.lit (.string []), .lit (.string [])]], [], places) :=
  ⟨[], by kernel_rfl⟩
set_option maxRecDepth 100000 in
theorem lifted (os : Os) (started : os.Started) (H : Type) (enc : TypeId × Value → H) (F : Stop.Interp) :
    ReturnsInHanded {} Tryd.checked os 3 .any ((OpenSpec.ofChange Rows.pathWithinSpec).preRow enc Tryd.prog Tryd.f3 Rows.pathWithinRow.domain false Rows.pathWithinRow.laid) (((OpenSpec.ofChange Rows.pathWithinSpec).at F).post enc Tryd.prog Tryd.f3 false true false false) := by
  obtain ⟨places, hx⟩ := reads os enc
  refine returnsInHanded_of_row (C := Tryd.checked) (s := OpenSpec.ofChange Rows.pathWithinSpec) own started (by kernel_rfl) Tryd.func3
    (witness_row_at (enc := enc) (C := Tryd.checked) false (laidWorld os) #[.agg #[.slice none 0 0, .bool false], .agg #[.slice none 0 0, .bool false], .agg #[.string ByteArray.empty, .string ByteArray.empty]] rfl (by kernel_rfl) (by kernel_rfl) (by kernel_rfl)
      (OpenSpec.preRow_of_cond 8 hx (by kernel_rfl) (fun k hk => by cases hk) (by kernel_rfl) (laid_met os))) ?_
  intro W base args ds gs before hval hW _ _ hsz _ _ _
  exact contract H enc W base args ds gs before hval hW hsz
theorem said : Rows.PathWithinSaid :=
  OpenClaim.holds_of_cond 3 Tryd.f3 rfl rfl rfl rfl rfl rfl rfl ⟨rfl, rfl, rfl, rfl, rfl⟩ rfl rfl rfl rfl rfl (by kernel_rfl) Tryd.func3 (by kernel_rfl)
    (of_decide_eq_true (by kernel_rfl)) (by unfold Func.isWrapper; first | (rw [if_pos (by decide +kernel)]; kernel_rfl) | (rw [if_neg (by decide +kernel)]; exact ⟨rfl, rfl⟩))
    (fun os started H enc _ F => by rw [OpenClaim.pre_eq_preRow]; exact lifted os started H enc F)
theorem plain (f : FuncId) (fn : Func) (hf : Tryd.pinned.checked.prog.funcNamed "signet/signetlaw18.PathWithin" = some f) (hfn : Tryd.pinned.checked.prog.funcs[f]? = some fn) :
    false = Tryd.pinned.checked.prog.looks [] ∧ ∀ (j : Nat) t, fn.params[j]? = some t → Tryd.pinned.checked.prog.wantsStandIn t = false := by
  obtain rfl : f = 3 := Option.some.inj ((show Tryd.prog.funcNamed "signet/signetlaw18.PathWithin" = some 3 by kernel_rfl).symm.trans hf) |>.symm
  obtain rfl : fn = Tryd.f3 := (Option.some.inj (Tryd.func3.symm.trans hfn)).symm
  refine ⟨by kernel_rfl, fun j t ht => ?_⟩
  rw [Tryd.params3] at ht
  have hm : t ∈ [24, 24, 26] := by simpa using Array.mem_of_getElem? ht
  have hall : ([24, 24, 26].all fun u => !Tryd.prog.wantsStandIn u) = true := by kernel_rfl
  exact (show Tryd.prog.wantsStandIn t = false by simpa using List.all_eq_true.1 hall t hm)
theorem card : Rows.PathWithinCardSaid :=
  Claim7.holds_tied_plain_at .later [] _ _ _ _ said (fun _ h => by cases h) (by kernel_rfl) (fun _ h => by cases h) pathWithin_row_tie rfl ⟨rfl, rfl⟩ (by kernel_rfl) rfl plain (by kernel_rfl)
end Go.Proofs.YtckpnmghbjimiaaDoor.pathWithin
namespace Go.Proofs.YtckpnmghbjimiaaDoor
theorem pathWithin_holds : Rows.PathWithinCardSaid := pathWithin.card
end Go.Proofs.YtckpnmghbjimiaaDoor
