/- The evaluator: a part of the memory is looked at. -/
import Derived.Test.YtoehfadjpficiaaGreatEvB
namespace Go.Proofs.YtoehfadjpficiaaGreat.Ev
open Go Go.RowKit
set_option linter.unusedVariables false
set_option linter.unusedSimpArgs false

theorem HRel.sub {E : Env} {D h : T Blk} {w : World} (hD : HRel E D w) (hs : ∀ i b, h.get i = some b → D.get i = some b) : HRel E h w :=
  ⟨fun i b hb => hD.at_ i b (hs i b hb), fun i j b c p q hb hc => hD.inj i j b c p q (hs i b hb) (hs j c hc)⟩
theorem Goes.sub {E E' : Env} {h D D2 : T Blk} {nx nx' : Nat} {w w' : World} (g : Goes E h nx w E' D nx' w') (hs : ∀ i b, D2.get i = some b → D.get i = some b) : Goes E h nx w E' D2 nx' w' :=
  { g with rel := g.rel.sub hs, ids := fun i b hb => g.ids i b (hs i b hb), own := fun i b p hb hp => g.own i b p (hs i b hb) hp }
/-- A step in a part of the memory is a step in the whole. -/
theorem Goes.wide {E E' : Env} {h h' D D' : T Blk} {nx nx' : Nat} {w w' : World} (g : Goes E h nx w E' h' nx' w') (hD : HRel E D w) (hs : ∀ i b, h.get i = some b → D.get i = some b)
    (hD' : ∀ i, D'.get i = if (h.get i).isSome = true ∨ (nx ≤ i ∧ i < nx') then h'.get i else D.get i) : Goes E D nx w E' D' nx' w' := by
  have old : ∀ i b, ¬ ((h.get i).isSome = true ∨ (nx ≤ i ∧ i < nx')) → D'.get i = some b → D.get i = some b ∧ E'.m i = E.m i := fun i b hn hb => by
    rw [hD', if_neg hn] at hb
    exact ⟨hb, g.out i (fun h => hn (.inr h))⟩
  have new : ∀ i b, ((h.get i).isSome = true ∨ (nx ≤ i ∧ i < nx')) → D'.get i = some b → h'.get i = some b := fun i b hn hb => by
    rw [hD', if_pos hn] at hb
    exact hb
  have far : ∀ i b p, ¬ ((h.get i).isSome = true ∨ (nx ≤ i ∧ i < nx')) → D.get i = some b → E.m i = some p → ∀ j c q, h.get j = some c → E.m j = some q → q.blk ≠ p.blk := fun i b p hn hb hp j c q hc hq e => by
    have := hD.inj j i c b q p (hs j c hc) hb hq hp e
    subst this
    exact hn (.inl (by rw [hc]; rfl))
  exact {
    ext := g.ext
    out := g.out
    le := g.le
    rel := ⟨fun i b hb => by
        by_cases hn : (h.get i).isSome = true ∨ (nx ≤ i ∧ i < nx')
        · exact g.rel.at_ i b (new i b hn hb)
        · obtain ⟨hb', hm⟩ := old i b hn hb
          obtain ⟨p, o, hp, ho, hr⟩ := hD.at_ i b hb'
          exact ⟨p, o, by rw [hm]; exact hp, by rw [g.frame.block p.blk (lt_of_heap ho) (far i b p hn hb' hp)]; exact ho, Blk.ext g.ext hr⟩,
      fun i j b c p q hb hc hp hq e => by
        have mixed : ∀ i j b c p q, ((h.get i).isSome = true ∨ (nx ≤ i ∧ i < nx')) → ¬ ((h.get j).isSome = true ∨ (nx ≤ j ∧ j < nx')) → D'.get i = some b → D'.get j = some c → E'.m i = some p → E'.m j = some q → p.blk ≠ q.blk := fun i j b c p q hi hj hb hc hp hq e => by
          obtain ⟨hc', hm⟩ := old j c hj hc
          rw [hm] at hq
          obtain ⟨q', o, hq', ho, _⟩ := hD.at_ j c hc'
          rw [hq] at hq'
          obtain rfl := Option.some.inj hq'
          rcases g.own i b p (new i b hi hb) hp with ⟨j2, c2, q2, h1, h2, h3⟩ | hge
          · exact far j c q hj hc' hq j2 c2 q2 h1 h2 (h3.trans e)
          · have := lt_of_heap ho
            omega
        by_cases hi : (h.get i).isSome = true ∨ (nx ≤ i ∧ i < nx')
        · by_cases hj : (h.get j).isSome = true ∨ (nx ≤ j ∧ j < nx')
          · exact g.rel.inj i j b c p q (new i b hi hb) (new j c hj hc) hp hq e
          · exact absurd e (mixed i j b c p q hi hj hb hc hp hq)
        · by_cases hj : (h.get j).isSome = true ∨ (nx ≤ j ∧ j < nx')
          · exact absurd e.symm (mixed j i c b q p hj hi hc hb hq hp)
          · obtain ⟨hb', hm⟩ := old i b hi hb
            obtain ⟨hc', hm2⟩ := old j c hj hc
            exact hD.inj i j b c p q hb' hc' (by rw [← hm]; exact hp) (by rw [← hm2]; exact hq) e⟩
    frame := ⟨g.frame.os, g.frame.tape, g.frame.output, g.frame.size, fun k hk hn => g.frame.block k hk (fun i b p hb hp => hn i b p (hs i b hb) hp)⟩
    ids := fun i b hb => by
      by_cases hn : (h.get i).isSome = true ∨ (nx ≤ i ∧ i < nx')
      · rcases g.ids i b (new i b hn hb) with ⟨c, hc⟩ | h
        · exact .inl ⟨c, hs i c hc⟩
        · exact .inr h
      · exact .inl ⟨b, (old i b hn hb).1⟩
    own := fun i b p hb hp => by
      by_cases hn : (h.get i).isSome = true ∨ (nx ≤ i ∧ i < nx')
      · rcases g.own i b p (new i b hn hb) hp with ⟨j, c, q, h1, h2, h3⟩ | h
        · exact .inl ⟨j, c, q, hs j c h1, h2, h3⟩
        · exact .inr h
      · obtain ⟨hb', hm⟩ := old i b hn hb
        exact .inl ⟨i, b, p, hb', by rw [← hm]; exact hp, rfl⟩ }
/-- Two steps, the second of them within the numbers of the first. -/
theorem Goes.step {E0 E E' : Env} {h0 D D' : T Blk} {n0 n1 lo hi : Nat} {w0 w w' : World} (a : Goes E0 h0 n0 w0 E D n1 w) (b : Goes E D lo w E' D' hi w') (h : lo = hi ∨ (n0 ≤ lo ∧ hi ≤ n1)) : Goes E0 h0 n0 w0 E' D' n1 w' where
  ext := a.ext.trans b.ext
  out := fun i hi' => by
    rw [b.out i (by have := b.le; omega), a.out i hi']
  le := a.le
  rel := b.rel
  frame := ⟨b.frame.os.trans a.frame.os, b.frame.tape.trans a.frame.tape, b.frame.output.trans a.frame.output, Nat.le_trans a.frame.size b.frame.size, fun k hk hn => by
    have hs := a.frame.size
    rw [b.frame.block k (by omega) (fun i c p hc hp e => ?_), a.frame.block k hk hn]
    rcases a.own i c p hc hp with ⟨j, d, q, hd, hq, e2⟩ | hge
    · exact hn j d q hd hq (e2.trans e)
    · omega⟩
  ids := fun i c hc => by
    rcases b.ids i c hc with ⟨d, hd⟩ | hn
    · exact a.ids i d hd
    · exact .inr (by omega)
  own := fun i c p hc hp => by
    rcases b.own i c p hc hp with ⟨j, d, q, hd, hq, e⟩ | hge
    · rcases a.own j d q hd hq with ⟨k, f, r, hf, hr, e2⟩ | hge
      · exact .inl ⟨k, f, r, hf, hr, e2.trans e⟩
      · exact .inr (e ▸ hge)
    · exact .inr (Nat.le_trans a.frame.size hge)

/-- A map out of a function. -/
def T.ofFun {α : Type} (f : Nat → Option α) : Nat → T α
  | 0 => .nil
  | n + 1 => T.put (n + 1) (T.ofFun f n) n (f n)
theorem T.get_ofFun {α : Type} (f : Nat → Option α) : ∀ (n i : Nat), (T.ofFun f n).get i = if i < n then f i else none
  | 0, i => by rw [if_neg (by omega)]; rfl
  | n + 1, i => by
    rw [T.ofFun, T.get_put _ _ _ _ _ (Nat.lt_succ_self n), T.get_ofFun f n i]
    by_cases h : i = n
    · subst h
      rw [if_pos rfl, if_pos (by omega)]
    · rw [if_neg h]
      by_cases h2 : i < n
      · rw [if_pos h2, if_pos (by omega)]
      · rw [if_neg h2, if_neg (by omega)]

end Go.Proofs.YtoehfadjpficiaaGreat.Ev
