/- The evaluator: how its memory changes beside the world's. -/
import Derived.Test.YtoehfadjpficiaaGreatEv0
namespace Go.Proofs.YtoehfadjpficiaaGreat.Ev
open Go Go.RowKit
set_option linter.unusedVariables false

/-- A step of the evaluator beside a step of the world. -/
structure Goes (E : Env) (h : T Blk) (nx : Nat) (w : World) (E' : Env) (h' : T Blk) (nx' : Nat) (w' : World) : Prop where
  ext : Ext E E'
  out : ∀ i, ¬ (nx ≤ i ∧ i < nx') → E'.m i = E.m i
  le : nx ≤ nx'
  rel : HRel E' h' w'
  frame : Frame E h w w'
  ids : ∀ i b, h'.get i = some b → (∃ c, h.get i = some c) ∨ (nx ≤ i ∧ i < nx')
  own : ∀ i b p, h'.get i = some b → E'.m i = some p → (∃ j c q, h.get j = some c ∧ E.m j = some q ∧ q.blk = p.blk) ∨ w.heap.size ≤ p.blk

def Fresh (E : Env) (nx nx' : Nat) : Prop := ∀ i, nx ≤ i → i < nx' → E.m i = none

theorem Frame.refl (E : Env) (h : T Blk) (w : World) : Frame E h w w := ⟨rfl, rfl, rfl, Nat.le_refl _, fun _ _ _ => rfl⟩
theorem Goes.refl {E : Env} {h : T Blk} {nx : Nat} {w : World} (hr : HRel E h w) : Goes E h nx w E h nx w :=
  ⟨Ext.refl E, fun _ _ => rfl, Nat.le_refl _, hr, Frame.refl _ _ _, fun i b hb => .inl ⟨b, hb⟩, fun i b p hb hp => .inl ⟨i, b, p, hb, hp, rfl⟩⟩
theorem Goes.trans {E E1 E2 : Env} {h h1 h2 : T Blk} {n n1 n2 : Nat} {w w1 w2 : World} (a : Goes E h n w E1 h1 n1 w1) (b : Goes E1 h1 n1 w1 E2 h2 n2 w2) : Goes E h n w E2 h2 n2 w2 where
  ext := a.ext.trans b.ext
  out := fun i hi => by
    have h1 := a.le
    have h2 := b.le
    rw [b.out i (by omega), a.out i (by omega)]
  le := Nat.le_trans a.le b.le
  rel := b.rel
  frame := ⟨b.frame.os.trans a.frame.os, b.frame.tape.trans a.frame.tape, b.frame.output.trans a.frame.output, Nat.le_trans a.frame.size b.frame.size, fun k hk hn => by
    have hs := a.frame.size
    rw [b.frame.block k (by omega) (fun i c p hc hp e => ?_), a.frame.block k hk hn]
    rcases a.own i c p hc hp with ⟨j, d, q, hd, hq, e2⟩ | hge
    · exact hn j d q hd hq (e2.trans e)
    · omega⟩
  ids := fun i c hc => by
    have h1 := a.le
    have h2 := b.le
    rcases b.ids i c hc with ⟨d, hd⟩ | hn
    · rcases a.ids i d hd with h | h
      · exact .inl h
      · exact .inr (by omega)
    · exact .inr (by omega)
  own := fun i c p hc hp => by
    rcases b.own i c p hc hp with ⟨j, d, q, hd, hq, e⟩ | hge
    · rcases a.own j d q hd hq with ⟨k, f, r, hf, hr, e2⟩ | hge
      · exact .inl ⟨k, f, r, hf, hr, e2.trans e⟩
      · exact .inr (e ▸ hge)
    · exact .inr (Nat.le_trans a.frame.size hge)

/-- A world that differs from another one in one block alone. -/
structure Touch (g : Nat) (w w' : World) : Prop where
  os : w'.os = w.os
  tape : w'.tape = w.tape
  output : w'.output = w.output
  size : w'.heap.size = w.heap.size
  other : ∀ k, k ≠ g → w'.heap[k]? = w.heap[k]?

theorem lt_of_heap {w : World} {k : Nat} {o : Obj} (h : w.heap[k]? = some o) : k < w.heap.size := (Array.getElem?_eq_some_iff.1 h).1

/-- A block that is written. -/
theorem Goes.write {E : Env} {h : T Blk} {nx : Nat} {w w' : World} (hr : HRel E h w) {i : Nat} {b b' : Blk} {p : Pl} {o' : Obj} (hb : h.get i = some b) (hp : E.m i = some p)
    (ht : Touch p.blk w w') (ho : w'.heap[p.blk]? = some o') (hrel : b'.rel E p o') : Goes E h nx w E (h.set i b') nx w' where
  ext := Ext.refl E
  out := fun _ _ => rfl
  le := Nat.le_refl _
  rel := ⟨fun j c hc => by
      rw [T.get_set] at hc
      by_cases e : j = i
      · rw [if_pos e] at hc
        subst e
        obtain rfl := Option.some.inj hc
        exact ⟨p, o', hp, ho, hrel⟩
      · rw [if_neg e] at hc
        obtain ⟨q, o, hq, ho2, hr2⟩ := hr.at_ j c hc
        refine ⟨q, o, hq, ?_, hr2⟩
        rw [ht.other q.blk (fun e2 => e (hr.inj j i c b q p hc hb hq hp e2)), ho2],
    fun j k c d q r hc hd hq hr2 e => by
      have live : ∀ j c, (h.set i b').get j = some c → ∃ c', h.get j = some c' := fun j c hc => by
        rw [T.get_set] at hc
        by_cases e : j = i
        · subst e; exact ⟨b, hb⟩
        · rw [if_neg e] at hc; exact ⟨c, hc⟩
      obtain ⟨c', hc'⟩ := live j c hc
      obtain ⟨d', hd'⟩ := live k d hd
      exact hr.inj j k c' d' q r hc' hd' hq hr2 e⟩
  frame := ⟨ht.os, ht.tape, ht.output, Nat.le_of_eq ht.size.symm, fun k hk hn => ht.other k (fun e => hn i b p hb hp e.symm)⟩
  ids := fun j c hc => by
    rw [T.get_set] at hc
    by_cases e : j = i
    · subst e; exact .inl ⟨b, hb⟩
    · rw [if_neg e] at hc; exact .inl ⟨c, hc⟩
  own := fun j c q hc hq => by
    rw [T.get_set] at hc
    by_cases e : j = i
    · subst e; exact .inl ⟨j, b, q, hb, hq, rfl⟩
    · rw [if_neg e] at hc; exact .inl ⟨j, c, q, hc, hq, rfl⟩

def Env.put (E : Env) (i : Nat) (p : Pl) : Env := { E with m := fun j => if j = i then some p else E.m j }
theorem Env.ext_put {E : Env} {i : Nat} {p : Pl} (h : E.m i = none) : Ext E (E.put i p) :=
  ⟨rfl, fun j q hj => by
    show (if j = i then some p else E.m j) = some q
    rw [if_neg (fun e => by subst e; rw [h] at hj; cases hj)]
    exact hj⟩
theorem Env.put_at (E : Env) (i : Nat) (p : Pl) : (E.put i p).m i = some p := if_pos rfl
theorem Env.put_ne (E : Env) {i j : Nat} (p : Pl) (h : j ≠ i) : (E.put i p).m j = E.m j := if_neg h

theorem heap_push (w : World) (o : Obj) (k : Nat) : (w.heap.push o)[k]? = if k = w.heap.size then some o else w.heap[k]? := Array.getElem?_push

/-- A new block. -/
theorem Goes.new {E : Env} {h : T Blk} {nx : Nat} {w : World} (hr : HRel E h w) (hn : E.m nx = none) {b : Blk} {o : Obj} (p : Pl) (hp : p.blk = w.heap.size)
    (hrel : b.rel (E.put nx p) p o) : Goes E h nx w (E.put nx p) (h.set nx b) (nx + 1) { w with heap := w.heap.push o } where
  ext := Env.ext_put hn
  out := fun i hi => Env.put_ne E p (by omega)
  le := by omega
  rel := ⟨fun j c hc => by
      rw [T.get_set] at hc
      by_cases e : j = nx
      · rw [if_pos e] at hc
        subst e
        obtain rfl := Option.some.inj hc
        exact ⟨p, o, Env.put_at _ _ _, by rw [heap_push, if_pos hp], hrel⟩
      · rw [if_neg e] at hc
        obtain ⟨q, o2, hq, ho2, hr2⟩ := hr.at_ j c hc
        refine ⟨q, o2, by rw [Env.put_ne E p e]; exact hq, ?_, Blk.ext (Env.ext_put hn) hr2⟩
        have := lt_of_heap ho2
        rw [heap_push, if_neg (by omega), ho2],
    fun j k c d q r hc hd hq hr2 e => by
      rw [T.get_set] at hc hd
      have old : ∀ {j c q}, j ≠ nx → (if j = nx then some b else h.get j) = some c → (E.put nx p).m j = some q → h.get j = some c ∧ E.m j = some q ∧ q.blk < w.heap.size := fun {j c q} hj hc hq => by
        rw [if_neg hj] at hc
        rw [Env.put_ne E p hj] at hq
        obtain ⟨q', o2, hq', ho2, _⟩ := hr.at_ j c hc
        rw [hq] at hq'
        obtain rfl := Option.some.inj hq'
        exact ⟨hc, hq, lt_of_heap ho2⟩
      by_cases ej : j = nx
      · by_cases ek : k = nx
        · rw [ej, ek]
        · obtain ⟨_, _, hlt⟩ := old ek hd hr2
          subst ej
          rw [Env.put_at] at hq
          obtain rfl := Option.some.inj hq
          omega
      · obtain ⟨hc', hq', hlt⟩ := old ej hc hq
        by_cases ek : k = nx
        · subst ek
          rw [Env.put_at] at hr2
          obtain rfl := Option.some.inj hr2
          omega
        · obtain ⟨hd', hr', _⟩ := old ek hd hr2
          exact hr.inj j k c d q r hc' hd' hq' hr' e⟩
  frame := ⟨rfl, rfl, rfl, by show _ ≤ (w.heap.push o).size; rw [Array.size_push]; omega, fun k hk _ => by
    show (w.heap.push o)[k]? = _
    rw [heap_push, if_neg (by omega)]⟩
  ids := fun j c hc => by
    rw [T.get_set] at hc
    by_cases e : j = nx
    · exact .inr (by omega)
    · rw [if_neg e] at hc; exact .inl ⟨c, hc⟩
  own := fun j c q hc hq => by
    rw [T.get_set] at hc
    by_cases e : j = nx
    · subst e
      rw [Env.put_at] at hq
      obtain rfl := Option.some.inj hq
      exact .inr (by omega)
    · rw [if_neg e] at hc
      rw [Env.put_ne E p e] at hq
      exact .inl ⟨j, c, q, hc, hq, rfl⟩

/-- A slice's block that an append takes over, in its place. -/
theorem Goes.take {E : Env} {h : T Blk} {nx : Nat} {w w' : World} (hr : HRel E h w) (hn : E.m nx = none) {i : Nat} {b b' : Blk} {p p' : Pl} {o' : Obj} (hb : h.get i = some b) (hp : E.m i = some p) (hi : i ≠ nx)
    (hb' : p'.blk = p.blk) (ht : Touch p.blk w w') (ho : w'.heap[p.blk]? = some o') (hrel : b'.rel (E.put nx p') p' o') :
    Goes E h nx w (E.put nx p') ((h.del i).set nx b') (nx + 1) w' where
  ext := Env.ext_put hn
  out := fun j hj => Env.put_ne E p' (by omega)
  le := by omega
  rel := ⟨fun j c hc => by
      rw [T.get_set] at hc
      by_cases e : j = nx
      · rw [if_pos e] at hc
        subst e
        obtain rfl := Option.some.inj hc
        exact ⟨p', o', Env.put_at _ _ _, by rw [hb']; exact ho, hrel⟩
      · rw [if_neg e, T.get_del] at hc
        by_cases e2 : j = i
        · rw [if_pos e2] at hc; cases hc
        · rw [if_neg e2] at hc
          obtain ⟨q, o2, hq, ho2, hr2⟩ := hr.at_ j c hc
          refine ⟨q, o2, by rw [Env.put_ne E p' e]; exact hq, ?_, Blk.ext (Env.ext_put hn) hr2⟩
          rw [ht.other q.blk (fun e3 => e2 (hr.inj j i c b q p hc hb hq hp e3)), ho2],
    fun j k c d q r hc hd hq hr2 e => by
      rw [T.get_set, T.get_del] at hc hd
      by_cases ej : j = nx
      · by_cases ek : k = nx
        · rw [ej, ek]
        · rw [if_neg ek] at hd
          by_cases e2 : k = i
          · rw [if_pos e2] at hd; cases hd
          · rw [if_neg e2] at hd
            rw [Env.put_ne E p' ek] at hr2
            subst ej
            rw [Env.put_at] at hq
            obtain rfl := Option.some.inj hq
            exact absurd (hr.inj k i d b r p hd hb hr2 hp (by rw [← e, hb'])) e2
      · rw [if_neg ej] at hc
        by_cases e2 : j = i
        · rw [if_pos e2] at hc; cases hc
        · rw [if_neg e2] at hc
          rw [Env.put_ne E p' ej] at hq
          by_cases ek : k = nx
          · subst ek
            rw [Env.put_at] at hr2
            obtain rfl := Option.some.inj hr2
            exact absurd (hr.inj j i c b q p hc hb hq hp (by rw [e, hb'])) e2
          · rw [if_neg ek] at hd
            by_cases e3 : k = i
            · rw [if_pos e3] at hd; cases hd
            · rw [if_neg e3] at hd
              rw [Env.put_ne E p' ek] at hr2
              exact hr.inj j k c d q r hc hd hq hr2 e⟩
  frame := ⟨ht.os, ht.tape, ht.output, Nat.le_of_eq ht.size.symm, fun k hk hno => ht.other k (fun e => hno i b p hb hp e.symm)⟩
  ids := fun j c hc => by
    rw [T.get_set, T.get_del] at hc
    by_cases e : j = nx
    · exact .inr (by omega)
    · rw [if_neg e] at hc
      by_cases e2 : j = i
      · rw [if_pos e2] at hc; cases hc
      · rw [if_neg e2] at hc; exact .inl ⟨c, hc⟩
  own := fun j c q hc hq => by
    rw [T.get_set, T.get_del] at hc
    by_cases e : j = nx
    · subst e
      rw [Env.put_at] at hq
      obtain rfl := Option.some.inj hq
      exact .inl ⟨i, b, p, hb, hp, hb'.symm⟩
    · rw [if_neg e] at hc
      rw [Env.put_ne E p' e] at hq
      by_cases e2 : j = i
      · rw [if_pos e2] at hc; cases hc
      · rw [if_neg e2] at hc; exact .inl ⟨j, c, q, hc, hq, rfl⟩

/-- A block that is forgotten. -/
theorem HRel.del {E : Env} {h : T Blk} {w : World} (hr : HRel E h w) (i : Nat) : HRel E (h.del i) w :=
  have sub : ∀ j c, (h.del i).get j = some c → h.get j = some c := fun j c hc => by
    rw [T.get_del] at hc
    by_cases e : j = i
    · rw [if_pos e] at hc; cases hc
    · rw [if_neg e] at hc; exact hc
  ⟨fun j c hc => hr.at_ j c (sub j c hc), fun j k c d q r hc hd => hr.inj j k c d q r (sub j c hc) (sub k d hd)⟩
theorem Goes.drop {E E' : Env} {h h' : T Blk} {nx nx' : Nat} {w w' : World} (g : Goes E h nx w E' h' nx' w') (i : Nat) : Goes E h nx w E' (h'.del i) nx' w' :=
  have sub : ∀ j c, (h'.del i).get j = some c → h'.get j = some c := fun j c hc => by
    rw [T.get_del] at hc
    by_cases e : j = i
    · rw [if_pos e] at hc; cases hc
    · rw [if_neg e] at hc; exact hc
  { g with rel := g.rel.del i, ids := fun j c hc => g.ids j c (sub j c hc), own := fun j c p hc hp => g.own j c p (sub j c hc) hp }

/-- Only a draw. -/
theorem Goes.draw {E : Env} {h : T Blk} {nx : Nat} {w w' : World} (hr : HRel E h w) (hh : w'.heap = w.heap) (ho : w'.os = w.os) (ht : w'.tape = w.tape) (hu : w'.output = w.output) : Goes E h nx w E h nx w' where
  ext := Ext.refl E
  out := fun _ _ => rfl
  le := Nat.le_refl _
  rel := ⟨fun i b hb => by rw [hh]; exact hr.at_ i b hb, hr.inj⟩
  frame := ⟨ho, ht, hu, by rw [hh]; exact Nat.le_refl _, fun k _ _ => by rw [hh]⟩
  ids := fun i b hb => .inl ⟨b, hb⟩
  own := fun i b p hb hp => .inl ⟨i, b, p, hb, hp, rfl⟩

/-! ### Cells -/
theorem HRel.blk {E : Env} {h : T Blk} {w : World} (hr : HRel E h w) {i : Nat} {b : Blk} {p : Pl} (hb : h.get i = some b) (hp : E.m i = some p) : ∃ o, w.heap[p.blk]? = some o ∧ b.rel E p o := by
  obtain ⟨q, o, hq, ho, hrel⟩ := hr.at_ i b hb
  rw [hp] at hq
  obtain rfl := Option.some.inj hq
  exact ⟨o, ho, hrel⟩
theorem HRel.pl {E : Env} {h : T Blk} {w : World} (hr : HRel E h w) {i : Nat} {b : Blk} (hb : h.get i = some b) : ∃ p, E.m i = some p := by
  obtain ⟨q, o, hq, ho, hrel⟩ := hr.at_ i b hb
  exact ⟨q, hq⟩

/-- The cells of a block from o on. -/
theorem HRel.read {E : Env} {h : T Blk} {w : World} (hr : HRel E h w) {i : Nat} {t : TypeId} {opn : Option Nat} {c : Cells} {fz : Bool} {p : Pl} (hb : h.get i = some (.cells t opn c fz)) (hp : E.m i = some p)
    (o n : Nat) (hn : o + n ≤ c.n) : ∃ vs : List Value, vs.length = n ∧ Rels (SV.rel E) (c.list o n) vs ∧ ∀ j v, vs[j]? = some v → w.cell? ⟨p.blk, p.dl + o + j, none⟩ = some v := by
  obtain ⟨ob, ho, cs, lo, hi, rfl, hc⟩ := hr.blk hb hp
  have hfit := hc.fits
  refine ⟨(cs.toList.drop (p.dl + o)).take n, by rw [List.length_take, List.length_drop, Array.length_toList]; omega, ?_, ?_⟩
  · refine Rels.of_get (by rw [Cells.list_length, List.length_take, List.length_drop, Array.length_toList]; omega) (fun j a b ha hb2 => ?_)
    have hj : j < n := by
      have := (List.getElem?_eq_some_iff.1 ha).1
      rwa [Cells.list_length] at this
    rw [Cells.list_get c n o j hj] at ha
    obtain rfl := Option.some.inj ha
    rw [List.getElem?_take_of_lt hj, List.getElem?_drop, Array.getElem?_toList] at hb2
    obtain ⟨v, h1, h2⟩ := hc.get (o + j) (by omega)
    rw [show p.dl + (o + j) = p.dl + o + j by omega, hb2] at h1
    obtain rfl := Option.some.inj h1
    exact h2
  · intro j v hv
    have hj : j < n := by
      have := (List.getElem?_eq_some_iff.1 hv).1
      rw [List.length_take] at this
      omega
    rw [List.getElem?_take_of_lt hj, List.getElem?_drop, Array.getElem?_toList] at hv
    simp only [World.cell?, ho]
    exact hv

theorem add_eq (b o n : Nat) : (⟨b, o, none⟩ : Addr).add n = ⟨b, o + n, none⟩ := by
  unfold Addr.add
  split
  · subst_vars; rfl
  · rfl

theorem HRel.run_load {P : Program} {E : Env} {h : T Blk} {w : World} (hr : HRel E h w) {i : Nat} {t : TypeId} {opn : Option Nat} {c : Cells} {fz : Bool} {p : Pl} (hb : h.get i = some (.cells t opn c fz)) (hp : E.m i = some p)
    (o n : Nat) (hn : o + n ≤ c.n) : ∃ vs : List Value, vs.length = n ∧ Rels (SV.rel E) (c.list o n) vs ∧ (loadCells ⟨p.blk, p.dl + o, none⟩ n).run P w = .ok vs.toArray w := by
  obtain ⟨vs, h1, h2, h3⟩ := hr.read hb hp o n hn
  refine ⟨vs, h1, h2, ?_⟩
  have := run_loadCells_list (P := P) w ⟨p.blk, p.dl + o, none⟩ vs (fun j v hv => by rw [add_eq]; exact h3 j v hv)
  rwa [h1] at this

/-- Cells that are written, one after the other. -/
theorem run_puts (P : Program) (g off : Nat) (t : TypeId) (lo hi : Nat) : ∀ (xs : List Value) (i : Nat) (cs : Array Value) (w : World), w.heap[g]? = some (.cells cs t (lo, hi)) → off + i + xs.length ≤ cs.size →
    (∀ j, j < cs.size → ¬ (lo ≤ j ∧ j < hi)) → (∀ x ∈ xs, x.oneCell' = true) →
    ∃ w' cs', (storeCells ⟨g, off, none⟩ xs i).run P w = .ok () w' ∧ Touch g w w' ∧ w'.heap[g]? = some (.cells cs' t (lo, hi)) ∧ cs'.size = cs.size ∧ ∀ j, cs'[j]? = if off + i ≤ j ∧ j < off + i + xs.length then xs[j - (off + i)]? else cs[j]?
  | [], i, cs, w, hg, _, _, _ => ⟨w, cs, rfl, ⟨rfl, rfl, rfl, rfl, fun _ _ => rfl⟩, hg, rfl, fun j => by rw [if_neg (by simp)]⟩
  | x :: xs, i, cs, w, hg, hl, hf, h1 => by
    rw [List.length_cons] at hl
    have hlt : off + i < cs.size := by omega
    have hcell : w.cell? ⟨g, off + i, none⟩ = some cs[off + i] := by
      simp only [World.cell?, hg]
      exact Array.getElem?_eq_getElem hlt
    have hfz : w.frozen? ⟨g, off + i, none⟩ = false := by
      simp only [World.frozen?, hg]
      have := hf (off + i) hlt
      simp only [Bool.and_eq_false_iff, decide_eq_false_iff_not]
      omega
    have hset : (w.setCell ⟨g, off + i, none⟩ x).heap[g]? = some (.cells (cs.setIfInBounds (off + i) x) t (lo, hi)) := by
      simp [World.setCell, Array.getElem?_modify, hg]
    have htouch : Touch g w (w.setCell ⟨g, off + i, none⟩ x) := ⟨rfl, rfl, rfl, by simp [World.setCell], fun k hk => Below.heap_setCell _ _ _ _ hk⟩
    obtain ⟨w', cs', hrun, ht, hg', hs, hget⟩ := run_puts P g off t lo hi xs (i + 1) _ _ hset (by rw [Array.size_setIfInBounds]; omega) (fun j hj => hf j (by rwa [Array.size_setIfInBounds] at hj)) (fun y hy => h1 y (by simp [hy]))
    refine ⟨w', cs', ?_, ⟨ht.os.trans htouch.os, ht.tape.trans htouch.tape, ht.output.trans htouch.output, ht.size.trans htouch.size, fun k hk => (ht.other k hk).trans (htouch.other k hk)⟩, hg', by rw [hs, Array.size_setIfInBounds], fun j => ?_⟩
    · rw [storeCells, Sem.run_bind, add_eq, run_store P w _ x _ (h1 x (by simp)), hcell]
      simp only [hfz, Bool.false_eq_true, if_false, Result.andThen_ok]
      exact hrun
    · rw [hget j]
      by_cases hj : off + (i + 1) ≤ j ∧ j < off + (i + 1) + xs.length
      · rw [if_pos hj, if_pos (by rw [List.length_cons]; omega), show j - (off + i) = (j - (off + (i + 1))) + 1 by omega, List.getElem?_cons_succ]
      · rw [if_neg hj]
        by_cases he : j = off + i
        · subst he
          rw [if_pos (by rw [List.length_cons]; omega), Nat.sub_self, Array.getElem?_setIfInBounds_self_of_lt hlt]
          rfl
        · rw [if_neg (by rw [List.length_cons]; omega), Array.getElem?_setIfInBounds_ne (by omega)]

/-- Cells of a block, written. -/
theorem HRel.run_store {P : Program} {E : Env} {h : T Blk} {nx : Nat} {w : World} (hr : HRel E h w) {i : Nat} {t : TypeId} {opn : Option Nat} {c : Cells} {fz : Bool} {p : Pl} (hb : h.get i = some (.cells t opn c fz)) (hp : E.m i = some p)
    (o : Nat) {xs : List SV} {vs : List Value} (hx : Rels (SV.rel E) xs vs) (hn : o + xs.length ≤ c.n) :
    ∃ w', (storeCells ⟨p.blk, p.dl + o, none⟩ vs).run P w = .ok () w' ∧ Goes E h nx w E (h.set i (.cells t opn (c.puts o xs) fz)) nx w' := by
  obtain ⟨ob, ho, cs, lo, hi, rfl, hc⟩ := hr.blk hb hp
  have hlen := hx.length
  have hfit := hc.fits
  have h1 : ∀ v ∈ vs, v.oneCell' = true := fun v hv => by
    obtain ⟨j, hj⟩ := List.getElem?_of_mem hv
    have hjl : j < xs.length := by
      have := (List.getElem?_eq_some_iff.1 hj).1
      omega
    obtain ⟨b, hb2, hrel⟩ := hx.get j xs[j] (List.getElem?_eq_getElem hjl)
    rw [hj] at hb2
    obtain rfl := Option.some.inj hb2
    exact SV.oneCell hrel
  obtain ⟨w', cs', hrun, ht, hg, hs, hget⟩ := run_puts P p.blk (p.dl + o) t lo hi vs 0 cs w ho (by omega) hc.free h1
  refine ⟨w', hrun, Goes.write hr hb hp ht hg ⟨cs', lo, hi, rfl, ⟨hc.fz, fun j hj => hc.free j (by omega), fun sz hsz => by rw [hs]; exact hc.room sz hsz, by rw [Cells.puts_n, hs]; exact hfit, hc.dl, fun j hj => ?_⟩⟩⟩
  rw [Cells.puts_n] at hj
  rw [hget, Cells.get_puts]
  by_cases hin : o ≤ j ∧ j < o + xs.length
  · rw [dif_pos hin, if_pos (by omega)]
    obtain ⟨b, hb2, hrel⟩ := hx.get (j - o) (xs[j - o]'(by omega)) (List.getElem?_eq_getElem _)
    exact ⟨b, by rw [show p.dl + j - (p.dl + o + 0) = j - o by omega]; exact hb2, hrel⟩
  · rw [dif_neg hin, if_neg (by omega)]
    exact hc.get j hj

/-- A new row of cells. -/
theorem HRel.run_row {P : Program} {E : Env} {h : T Blk} {nx : Nat} {w : World} (hr : HRel E h w) (hn : E.m nx = none) (t : TypeId) {c : Cells} {cs : Array Value} (hs : cs.size = c.n)
    (hc : ∀ j, j < c.n → ∃ v, cs[j]? = some v ∧ (c.get j).rel E v) :
    (newRow t cs).run P w = .ok ⟨w.heap.size, 0, none⟩ { w with heap := w.heap.push (.cells cs t) } ∧
      Goes E h nx w (E.put nx ⟨w.heap.size, 0, 0⟩) (h.set nx (.cells t none c false)) (nx + 1) { w with heap := w.heap.push (.cells cs t) } :=
  ⟨rfl, Goes.new hr hn _ rfl ⟨cs, 0, 0, rfl, {
    fz := fun _ => ⟨rfl, rfl⟩
    free := fun _ _ => by omega
    room := fun _ h => by cases h
    fits := by show 0 + c.n ≤ cs.size; omega
    dl := fun _ => rfl
    get := fun j hj => by
      obtain ⟨v, h1, h2⟩ := hc j hj
      exact ⟨v, by rw [Nat.zero_add]; exact h1, SV.ext (Env.ext_put hn) h2⟩ }⟩⟩

theorem Cells.ofList_rel {E : Env} {xs : List SV} {vs : List Value} (h : Rels (SV.rel E) xs vs) : vs.toArray.size = (Cells.ofList xs).n ∧ ∀ j, j < (Cells.ofList xs).n → ∃ v, vs.toArray[j]? = some v ∧ ((Cells.ofList xs).get j).rel E v := by
  refine ⟨by rw [Cells.ofList_n]; simpa using h.length, fun j hj => ?_⟩
  have hj' : j < xs.length := by rwa [Cells.ofList_n] at hj
  obtain ⟨b, hb, hrel⟩ := h.get j xs[j] (List.getElem?_eq_getElem hj')
  exact ⟨b, by rw [List.getElem?_toArray]; exact hb, by rw [Cells.get_ofList xs j xs[j] (List.getElem?_eq_getElem hj')]; exact hrel⟩

end Go.Proofs.YtoehfadjpficiaaGreat.Ev
