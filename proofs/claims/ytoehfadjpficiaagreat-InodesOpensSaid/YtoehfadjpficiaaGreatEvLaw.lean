/- The evaluator: a call that was evaluated to true answers true, and leaves all that lay there. -/
import Derived.Test.YtoehfadjpficiaaGreatEvTab
import Derived.WideShapes
namespace Go.Proofs.YtoehfadjpficiaaGreat.Ev
open Go Go.RowKit
set_option linter.unusedVariables false

theorem isTrue_some {x : Option Res} (h : isTrue x = true) : ∃ r, x = some r ∧ r.1 = .a (.s (.bool true)) := by
  unfold isTrue at h
  split at h
  · exact ⟨_, rfl, rfl⟩
  · cases h

/-- What the evaluator starts with: what is known of the open inputs. -/
structure Known where
  fact : BinOp → Nat → IntKind → Int → Option Bool
  der : BinOp → Nat → IntKind → Int → Option SV
  num : Nat → Option IntKind
  len : Nat → Option SV
def noFact : Known := ⟨fun _ _ _ _ => none, fun _ _ _ _ => none, fun _ => none, fun _ => none⟩
noncomputable def ctx (f : Known) (ρ : Nat → Value) : Ctx := ⟨Tryz.prog, teOf Tryz.prog, f.fact, f.der, f.num, f.len, ρ⟩
structure Known.Ok (f : Known) (ρ : Nat → Value) : Prop where
  fact : ∀ op i k c b, f.fact op i k c = some b → ∀ t w, (binOp op t (ρ i) (.int k c)).run Tryz.prog w = .ok (.bool b) w
  der : ∀ op i k c y, f.der op i k c = some y → ∀ t w, ∃ v, (binOp op t (ρ i) (.int k c)).run Tryz.prog w = .ok v w ∧ ∀ E : Env, E.ρ = ρ → y.rel E v
  eql : ∀ i k c b, f.fact .eql i k c = some b → ∃ x, ρ i = .int k x ∧ (x == c) = b
  num : ∀ i k, f.num i = some k → ∃ x, ρ i = .int k x
  len : ∀ i y, f.len i = some y → ∃ a l c, ρ i = .slice a l c ∧ ∀ E : Env, E.ρ = ρ → y.rel E (.int .i64 (l : Nat)) := by intro i y h; exact nomatch h
theorem Known.Ok.ctx {f : Known} {ρ : Nat → Value} (h : f.Ok ρ) : (Ev.ctx f ρ).Ok :=
  { tab := fun t e he => by
      have he' : teOf Tryz.prog t = some e := by simpa only [Ev.ctx] using he
      have := teOf_ok he'
      simpa only [Ev.ctx] using this
    fact := h.fact
    der := h.der
    eql := h.eql
    num := h.num
    len := h.len }
theorem noFact_ok {ρ : Nat → Value} : noFact.Ok ρ := ⟨fun _ _ _ _ _ h => (nomatch h), fun _ _ _ _ _ h => (nomatch h), fun _ _ _ _ h => (nomatch h), fun _ _ h => (nomatch h), fun _ _ h => (nomatch h)⟩
theorem mixed : Tryz.prog.follows .mixedOrders = true := by kernel_rfl

theorem law_any {fact : Known} {ρ : Nat → Value} (hC : fact.Ok ρ) {sum : Call} (hsum : CallOk (ctx fact ρ) sum) {F K g : Nat} {args : List EV} {vs : List Value} (hev : isTrue (evCall (ctx fact ρ) funT.get sum F K g args .nil 0) = true)
    (hrel : Rels (EV.rel ⟨fun _ => none, ρ⟩) args vs) (W : World) : Calls Tryz.prog g vs.toArray W fun e W' => e = .returned (.bool true) ∧ Below W.heap.size W W' := by
  obtain ⟨r, hr, hb⟩ := isTrue_some hev
  have hok := evCall_ok hC.ctx mixed (funs_ok (C := ctx fact ρ) rfl) hsum (F := F) K
  refine (hok g args .nil 0 r hr ⟨fun _ => none, ρ⟩ W vs ⟨fun i b h => by simp [T.get] at h, fun i j b c p q h => by simp [T.get] at h⟩ rfl (fun _ _ => rfl) hrel).mono fun e W' ⟨v, E', he, hg, hv⟩ => ?_
  rw [hb] at hv
  obtain rfl := hv
  exact ⟨he, hg.frame.os, hg.frame.tape, hg.frame.output, hg.frame.size, fun k hk => hg.frame.block k hk fun i b p h => by simp [T.get] at h⟩

/-! ### Arguments of which nothing is known -/
theorem cell_one {P : Program} {w : World} {r : Reach} {base : Nat} {t : TypeId} {v : Value} (h : Cell.okWide P w r base t v) : v.oneCell' = true := by
  cases v <;> first
    | rfl
    | (exfalso
       unfold Cell.okWide Cell.ok at h
       repeat' (split at h)
       all_goals first
         | exact h
         | contradiction)
theorem row_one {P : Program} {w : World} {r : Reach} {base : Nat} {t : TypeId} {cs : Array Value} (h : Row.okWide P w r base t cs) : ∀ (i : Nat) v, cs[i]? = some v → v.oneCell' = true := fun i v hv => by
  obtain ⟨ts, _, _, hall⟩ := h
  obtain ⟨u, _, hu⟩ := hall i v hv
  exact cell_one hu
/-- A struct of n cells. -/
theorem agg_rel {E : Env} {cs : Array Value} (k n : Nat) (hn : cs.size = n) (h1 : ∀ (i : Nat) v, cs[i]? = some v → v.oneCell' = true) (hρ : ∀ i, i < n → E.ρ (k + i) = cs.getD i undef) : (EV.a (.agg ((List.range' k n).map SV.var))).rel E (.agg cs) := by
  refine ⟨cs.toList, by simp, Rels.of_get (by simp [hn]) fun i a b ha hb => ?_⟩
  rw [List.getElem?_map] at ha
  obtain ⟨j, hj, rfl⟩ := Option.map_eq_some_iff.1 ha
  have hlt : i < n := by
    have := (List.getElem?_eq_some_iff.1 hj).1
    simpa using this
  rw [List.getElem?_range' hlt] at hj
  have hj2 := Option.some.inj hj
  have hb' : cs[i]? = some b := by simpa using hb
  refine ⟨?_, h1 i b hb'⟩
  rw [← hj2, Nat.one_mul, hρ i hlt, Array.getD_eq_getD_getElem?, hb']
  rfl
end Go.Proofs.YtoehfadjpficiaaGreat.Ev
