/- Calls without arguments that answer true and leave all that lay there: told beforehand. -/
import Derived.Test.YtoehfadjpficiaaGreatEvLaw
namespace Go.Proofs.YtoehfadjpficiaaGreat.Ev
open Go Go.RowKit
set_option linter.unusedVariables false
theorem Goes.below {E : Env} {h : T Blk} {nx : Nat} {w w' : World} (hr : HRel E h w) (b : Below w.heap.size w w') : Goes E h nx w E h nx w' where
  ext := Ext.refl E
  out := fun _ _ => rfl
  le := Nat.le_refl _
  rel := ⟨fun i c hc => by
    obtain ⟨p, o, h1, h2, h3⟩ := hr.at_ i c hc
    exact ⟨p, o, h1, by rw [b.block _ (lt_of_heap h2)]; exact h2, h3⟩, hr.inj⟩
  frame := ⟨b.os, b.tape, b.output, b.size, fun k hk _ => b.block k hk⟩
  ids := fun i c hc => .inl ⟨c, hc⟩
  own := fun i c p hc hp => .inl ⟨i, c, p, hc, hp, rfl⟩
/-- A block that a call has made, adopted. -/
theorem Goes.found {E : Env} {h : T Blk} {nx : Nat} {w w' : World} (hr : HRel E h w) (hn : E.m nx = none) (bel : Below w.heap.size w w') {b : Blk} {o : Obj} (p : Pl) (hp : w.heap.size ≤ p.blk) (ho : w'.heap[p.blk]? = some o)
    (hrel : b.rel (E.put nx p) p o) : Goes E h nx w (E.put nx p) (h.set nx b) (nx + 1) w' where
  ext := Env.ext_put hn
  out := fun i hi => Env.put_ne E p (by omega)
  le := by omega
  rel := ⟨fun j c hc => by
      rw [T.get_set] at hc
      by_cases e : j = nx
      · rw [if_pos e] at hc
        subst e
        obtain rfl := Option.some.inj hc
        exact ⟨p, o, Env.put_at _ _ _, ho, hrel⟩
      · rw [if_neg e] at hc
        obtain ⟨q, o2, hq, ho2, hr2⟩ := hr.at_ j c hc
        exact ⟨q, o2, by rw [Env.put_ne E p e]; exact hq, by rw [bel.block _ (lt_of_heap ho2)]; exact ho2, Blk.ext (Env.ext_put hn) hr2⟩,
    fun j k c d q r hc hd hq hr2 e => by
      rw [T.get_set] at hc hd
      have old : ∀ {j c q}, j ≠ nx → (if j = nx then some b else h.get j) = some c → (E.put nx p).m j = some q → h.get j = some c ∧ E.m j = some q ∧ q.blk < w.heap.size := fun {j c q} hj hc hq => by
        rw [if_neg hj] at hc
        rw [Env.put_ne E p hj] at hq
        obtain ⟨q', o2, hq', ho2, _⟩ := hr.at_ j c hc
        rw [hq] at hq'
        obtain rfl := Option.some.inj hq'
        exact ⟨hc, hq, lt_of_heap ho2⟩
      by_cases ej : j = nx
      · by_cases ek : k = nx
        · rw [ej, ek]
        · obtain ⟨_, _, hlt⟩ := old ek hd hr2
          subst ej
          rw [Env.put_at] at hq
          obtain rfl := Option.some.inj hq
          omega
      · obtain ⟨hc', hq', hlt⟩ := old ej hc hq
        by_cases ek : k = nx
        · subst ek
          rw [Env.put_at] at hr2
          obtain rfl := Option.some.inj hr2
          omega
        · obtain ⟨hd', hr', _⟩ := old ek hd hr2
          exact hr.inj j k c d q r hc' hd' hq' hr' e⟩
  frame := ⟨bel.os, bel.tape, bel.output, bel.size, fun k hk _ => bel.block k hk⟩
  ids := fun j c hc => by
    rw [T.get_set] at hc
    by_cases e : j = nx
    · exact .inr (by omega)
    · rw [if_neg e] at hc; exact .inl ⟨c, hc⟩
  own := fun j c q hc hq => by
    rw [T.get_set] at hc
    by_cases e : j = nx
    · subst e
      rw [Env.put_at] at hq
      obtain rfl := Option.some.inj hq
      exact .inr hp
    · rw [if_neg e] at hc
      rw [Env.put_ne E p e] at hq
      exact .inl ⟨j, c, q, hc, hq, rfl⟩

def AnsTrue (g : Nat) : Prop := ∀ W, Calls Tryz.prog g #[] W fun e W' => e = .returned (.bool true) ∧ Below W.heap.size W W'
theorem ansTrue_any {fact : Known} {ρ : Nat → Value} (hC : fact.Ok ρ) {sum : Call} (hsum : CallOk (ctx fact ρ) sum) {F K g : Nat} (hev : isTrue (evCall (ctx fact ρ) funT.get sum F K g [] .nil 0) = true) : AnsTrue g :=
  fun W => law_any hC hsum hev (vs := []) trivial W
def sumTrue (l : List Nat) : Call := fun g args h nx =>
  match args with
  | [] => if l.contains g = true then some (.a (.s (.bool true)), h, nx) else none
  | _ => none
theorem sumTrue_ok {C : Ctx} (hP : C.P = Tryz.prog) {l : List Nat} (hl : ∀ g ∈ l, AnsTrue g) : CallOk C (sumTrue l) := by
  intro g args h nx r he E w vs hr hρ hf hargs
  rw [hP]
  unfold sumTrue at he
  split at he
  · split at he
    · rename_i hg
      obtain rfl := Option.some.inj he
      match vs, hargs with
      | [], _ =>
        refine (hl g (by simpa using hg) w).mono fun e w' ⟨h1, h2⟩ => ?_
        exact ⟨_, E, h1, Goes.below hr h2, rfl⟩
    · cases he
  · cases he
def sumOr (a b : Call) : Call := fun g args h nx =>
  match a g args h nx with
  | some r => some r
  | none => b g args h nx
theorem sumOr_ok {C : Ctx} {a b : Call} (ha : CallOk C a) (hb : CallOk C b) : CallOk C (sumOr a b) := by
  intro g args h nx r he
  unfold sumOr at he
  split at he
  · rename_i r' h1
    obtain rfl := Option.some.inj he
    exact ha g args h nx _ h1
  · exact hb g args h nx r he
end Go.Proofs.YtoehfadjpficiaaGreat.Ev
