/- InodesOpens: whether a reference is none; awake answers true. -/
import Derived.Test.YtoehfadjpficiaaGreatEvOpen
namespace Go.Proofs.YtoehfadjpficiaaGreat.Ev
open Go Go.RowKit
set_option linter.unusedVariables false
set_option maxRecDepth 100000
theorem ev15 (ρ : Nat → Value) : isTrue (evCall (ctx noFact ρ) funT.get noSum 100000 1000 15 [] .nil 0) = true := by kernel_rfl
theorem awake15 : AnsTrue 15 := ansTrue_any (ρ := fun _ => undef) noFact_ok noSum_ok (ev15 _)
/-- A call evaluated in the empty memory, with what is known of open inputs. -/
theorem known_any {fact : Known} {ρ : Nat → Value} (hC : fact.Ok ρ) {sum : Call} (hsum : CallOk (ctx fact ρ) sum) {F K g : Nat} {args : List EV} {r : EV} (hev : (evCall (ctx fact ρ) funT.get sum F K g args .nil 0).map (·.1) = some r)
    {vs : List Value} (hrel : Rels (EV.rel ⟨fun _ => none, ρ⟩) args vs) (W : World) : Calls Tryz.prog g vs.toArray W fun e W' => ∃ v E', e = .returned v ∧ E'.ρ = ρ ∧ r.rel E' v ∧ Below W.heap.size W W' := by
  obtain ⟨x, hx, rfl⟩ := Option.map_eq_some_iff.1 hev
  have hok := evCall_ok hC.ctx mixed (funs_ok (C := ctx fact ρ) rfl) hsum (F := F) K
  refine (hok g args .nil 0 x hx ⟨fun _ => none, ρ⟩ W vs ⟨fun i b h => by simp [T.get] at h, fun i j b c p q h => by simp [T.get] at h⟩ rfl (fun _ _ => rfl) hrel).mono fun e W' ⟨v, E', he, hg, hv⟩ => ?_
  exact ⟨v, E', he, hg.ext.ρ, hv, hg.frame.os, hg.frame.tape, hg.frame.output, hg.frame.size, fun k hk => hg.frame.block k hk fun i b p h => by simp [T.get] at h⟩
def vars33 : List SV := (List.range' 1 33).map SV.var
def zero33 : List SV := .int .u32 0 :: List.replicate 32 (.int .u8 0)
def NoneIs (ρ : Nat → Value) (g : Nat) (b : Bool) : Prop := ∀ W, Calls Tryz.prog g #[.agg ((List.range' 1 33).map ρ).toArray] W fun e W' => e = .returned (.bool b) ∧ Below W.heap.size W W'
theorem farA (ρ : Nat → Value) : (evCall (ctx kD ρ) funT.get noSum 100000 1000 73 [.a (.agg vars33)] .nil 0).map (·.1) = some (.a (.s (.bool false))) := by kernel_rfl
theorem farB (ρ : Nat → Value) : (evCall (ctx kD ρ) funT.get noSum 100000 1000 14 [.a (.agg vars33)] .nil 0).map (·.1) = some (.a (.s (.bool false))) := by kernel_rfl
theorem zeroA (ρ : Nat → Value) : (evCall (ctx noFact ρ) funT.get noSum 100000 1000 73 [.a (.agg zero33)] .nil 0).map (·.1) = some (.a (.s (.bool true))) := by kernel_rfl
theorem zeroB (ρ : Nat → Value) : (evCall (ctx noFact ρ) funT.get noSum 100000 1000 14 [.a (.agg zero33)] .nil 0).map (·.1) = some (.a (.s (.bool true))) := by kernel_rfl
def isFalse : Option Res → Bool
  | some (.a (.s (.bool false)), _, _) => true
  | _ => false
theorem isFalse_some {x : Option Res} (h : isFalse x = true) : x.map (·.1) = some (.a (.s (.bool false))) := by
  unfold isFalse at h
  split at h
  · rfl
  · cases h
theorem sumsA (ρ : Nat → Value) : ((List.range 32).all fun q => isFalse (evCall (ctx (kC q) ρ) funT.get noSum 100000 1000 73 [.a (.agg vars33)] .nil 0)) = true := by kernel_rfl
theorem sumsB (ρ : Nat → Value) : ((List.range 32).all fun q => isFalse (evCall (ctx (kC q) ρ) funT.get noSum 100000 1000 14 [.a (.agg vars33)] .nil 0)) = true := by kernel_rfl
section
variable {ρ : Nat → Value} (hk : ∀ i, i < 34 → ∃ x, ρ i = .int (gKind i) x)
include hk
theorem rel33 : Rels (EV.rel ⟨fun _ => none, ρ⟩) [.a (.agg vars33)] [.agg ((List.range' 1 33).map ρ).toArray] := by
  refine ⟨⟨_, rfl, Rels.of_get (by simp [vars33]) fun i a b ha hb => ?_⟩, trivial⟩
  unfold vars33 at ha
  rw [List.getElem?_map] at ha hb
  obtain ⟨m, hm, rfl⟩ := Option.map_eq_some_iff.1 ha
  rw [hm] at hb
  obtain rfl := Option.some.inj hb
  have hlt : i < 33 := by
    have := (List.getElem?_eq_some_iff.1 hm).1
    simpa using this
  rw [List.getElem?_range' hlt] at hm
  obtain rfl := Option.some.inj hm
  obtain ⟨x, hx⟩ := hk (1 + 1 * i) (by omega)
  refine ⟨rfl, ?_⟩
  rw [hx]
  rfl
theorem none_far {m : Int} (hm : m ≠ 0) (h1 : ρ 1 = .int .u32 m) : NoneIs ρ 73 false ∧ NoneIs ρ 14 false := by
  have fin : ∀ g, (evCall (ctx kD ρ) funT.get noSum 100000 1000 g [.a (.agg vars33)] .nil 0).map (·.1) = some (.a (.s (.bool false))) → NoneIs ρ g false := fun g hev W =>
    (known_any (kD_ok hk hm h1) noSum_ok hev (rel33 hk) W).mono fun e W' ⟨v, E', h2, _, h4, h5⟩ => ⟨by rw [h2]; exact congrArg _ h4, h5⟩
  exact ⟨fin _ (farA ρ), fin _ (farB ρ)⟩
theorem none_sum {q : Nat} (hq : q < 32) {n : Int} (hn : 0 ≤ n ∧ n ≤ 6) (h0 : ρ 0 = .int .i64 n) (h1 : ρ 1 = .int .u32 0) (hz : ∀ i, i < q → ρ (i + 2) = .int .u8 0) {m : Int} (hm : m ≠ 0) (hqm : ρ (q + 2) = .int .u8 m) : NoneIs ρ 73 false ∧ NoneIs ρ 14 false := by
  have fin : ∀ g, (evCall (ctx (kC q) ρ) funT.get noSum 100000 1000 g [.a (.agg vars33)] .nil 0).map (·.1) = some (.a (.s (.bool false))) → NoneIs ρ g false := fun g hev W =>
    (known_any (kC_ok hk hn h0 h1 hz hm hqm) noSum_ok hev (rel33 hk) W).mono fun e W' ⟨v, E', h2, _, h4, h5⟩ => ⟨by rw [h2]; exact congrArg _ h4, h5⟩
  exact ⟨fin _ (isFalse_some (List.all_eq_true.1 (sumsA ρ) q (List.mem_range.2 hq))), fin _ (isFalse_some (List.all_eq_true.1 (sumsB ρ) q (List.mem_range.2 hq)))⟩
omit hk in
theorem none_zero (h1 : ρ 1 = .int .u32 0) (hz : ∀ i, i < 32 → ρ (i + 2) = .int .u8 0) : NoneIs ρ 73 true ∧ NoneIs ρ 14 true := by
  have hrel : Rels (EV.rel ⟨fun _ => none, ρ⟩) [.a (.agg zero33)] [.agg ((List.range' 1 33).map ρ).toArray] := by
    refine ⟨⟨_, rfl, Rels.of_get (by simp [zero33]) fun i a b ha hb => ?_⟩, trivial⟩
    rw [List.getElem?_map] at hb
    obtain ⟨k, hk1, rfl⟩ := Option.map_eq_some_iff.1 hb
    have hlt : i < 33 := by
      have := (List.getElem?_eq_some_iff.1 hk1).1
      simpa using this
    rw [List.getElem?_range' hlt] at hk1
    obtain rfl := Option.some.inj hk1
    unfold zero33 at ha
    match i, ha, hlt with
    | 0, ha, _ =>
      obtain rfl := Option.some.inj ha
      exact h1
    | i + 1, ha, hlt =>
      rw [List.getElem?_cons_succ, List.getElem?_replicate, if_pos (by omega)] at ha
      obtain rfl := Option.some.inj ha
      rw [show 1 + 1 * (i + 1) = i + 2 by omega]
      exact hz i (by omega)
  have fin : ∀ g, (evCall (ctx noFact ρ) funT.get noSum 100000 1000 g [.a (.agg zero33)] .nil 0).map (·.1) = some (.a (.s (.bool true))) → NoneIs ρ g true := fun g hev W =>
    (known_any noFact_ok noSum_ok hev hrel W).mono fun e W' ⟨v, E', h2, _, h4, h5⟩ => ⟨by rw [h2]; exact congrArg _ h4, h5⟩
  exact ⟨fin _ (zeroA ρ), fin _ (zeroB ρ)⟩
end
def sumNone (b : Bool) : Call := fun g args h nx =>
  if g = 73 ∨ g = 14 then
    match args with
    | [.a (.agg l)] => if l = vars33 then some (.a (.s (.bool b)), h, nx) else none
    | _ => none
  else none
theorem sumNone_ok {fact : Known} {ρ : Nat → Value} {b : Bool} (hN : NoneIs ρ 73 b ∧ NoneIs ρ 14 b) : CallOk (ctx fact ρ) (sumNone b) := by
  intro g args h nx r he E w vs hr hρ hf hargs
  have hρ : E.ρ = ρ := hρ
  unfold sumNone at he
  split at he
  · rename_i hg
    split at he
    · rename_i l
      split at he
      · rename_i hl
        subst hl
        obtain rfl := Option.some.inj he
        match vs, hargs with
        | [v], hargs =>
          obtain ⟨us, rfl, hus⟩ := hargs.1
          have e : us = (List.range' 1 33).map ρ := by
            have : ∀ {l : List Nat} {us : List Value}, Rels (SV.rel E) (l.map SV.var) us → us = l.map ρ := by
              intro l
              induction l with
              | nil => intro us h; cases us with | nil => rfl | cons _ _ => exact h.elim
              | cons m l ih =>
                intro us h
                cases us with
                | nil => exact h.elim
                | cons u us =>
                  have h1 := h.1.1
                  rw [hρ] at h1
                  rw [List.map_cons, ← ih h.2, h1]
            exact this hus
          subst e
          have hN' : NoneIs ρ g b := by
            rcases hg with rfl | rfl
            · exact hN.1
            · exact hN.2
          exact (hN' w).mono fun e w' ⟨h1, h2⟩ => ⟨_, E, h1, Goes.below hr h2, rfl⟩
        | [], hargs => exact hargs.elim
        | _ :: _ :: _, hargs => exact hargs.2.elim
      · cases he
    · cases he
  · cases he
end Go.Proofs.YtoehfadjpficiaaGreat.Ev
