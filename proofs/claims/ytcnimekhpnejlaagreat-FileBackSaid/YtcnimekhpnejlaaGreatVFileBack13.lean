/- Texts of this seat joined into one: I9, J0, K5, F3, F4, F6, F5. -/
import Derived.Test.YtcnimekhpnejlaaGreatVFileBack12
import Derived.WalkKit
import Derived.Lib.FieldsU
import Derived.OwnWalk
import Derived.Laws.BytesArg
import Derived.Great.BuildSlice
import Derived.Test.YtcnimekhpnejlaaGreatVFileBack6

/- Inodes: how far Clone has come. -/
namespace Go.Proofs.YtcnimekhpnejlaaGreat.Ev
open Go Go.RowKit
set_option linter.unusedVariables false
set_option linter.unusedSimpArgs false
set_option maxRecDepth 10000

def cloO (c r : Value) (i : Nat) : Value := if i = 1 then r else c
abbrev LL := Int → Option (Nat × Nat × Nat)
def seenS (S : Int → Nd) (Ly : LL) : Int → Nd := fun k => if (Ly k).isSome = true then S k else Nd.none
/-- How far Clone has come: x as it was; y, of what is not left. -/
structure Clos (w : World) (x m : Nat) (S : Int → Nd) (L : LL) (y my : Nat) (wr : World) (Lx Ly : LL) (left : Int → Bool) : Prop where
  xs : Inos Tryz.prog wr x S m Lx
  same : ∀ k, (Lx k).map (·.1) = (L k).map (·.1)
  xown : ∀ j, ownBlk x m Lx j → ownBlk x m L j ∨ w.heap.size ≤ j
  ys : Inos Tryz.prog wr y (seenS S Ly) my Ly
  yown : ∀ j, ownBlk y my Ly j → (ownBlk x m L j ∨ w.heap.size ≤ j) ∧ ¬ ownBlk x m Lx j
  seen : ∀ k, (Ly k).isSome = ((L k).isSome && !left k)
  but : But (ownBlk x m L) w wr

section
variable {w wr w' : World} {x m y my : Nat} {S : Int → Nd} {L Lx Ly : LL} {left : Int → Bool}
theorem Clos.kept (h : Clos w x m S L y my wr Lx Ly left) (hx : ∀ k, ownBlk x m Lx k → w'.heap[k]? = wr.heap[k]?) (hy : ∀ k, ownBlk y my Ly k → w'.heap[k]? = wr.heap[k]?) (hb : But (ownBlk x m L) w w') : Clos w x m S L y my w' Lx Ly left :=
  ⟨h.xs.kept hx, h.same, h.xown, h.ys.kept hy, h.yown, h.seen, hb⟩

theorem clo_open (h : Clos w x m S L y my wr Lx Ly left) {n : Int} {t : Nat × Nat × Nat} (ht : Lx n = some t) (r : Value) :
    ∃ c : Value, c.oneCell' = true ∧ HRel (envL [my, y, t.1, t.2.1] (rhoV (ofL (inoV (fun k => (Ly k).map (·.1)) n (S n) [])) (cloO c r))) (memL cloBs) wr := by
  obtain ⟨c, hc, hrow⟩ := h.ys.cell
  have hn := h.xs.num n t ht
  have hw := h.xs.work n t ht
  obtain ⟨tg1, tg2, tg3⟩ := h.xs.tag_t ht
  have ty := h.ys.tag_x
  have tmy := h.ys.tag_m
  have ny : ∀ j, ownBlk x m Lx j → j ≠ y ∧ j ≠ my := fun j hj => ⟨fun e => (h.yown y (.inl rfl)).2 (e ▸ hj), fun e => (h.yown my (.inr (.inl rfl))).2 (e ▸ hj)⟩
  have n1 := ny t.1 (.inr (.inr ⟨n, t, ht, .inl rfl⟩))
  have n2 := ny t.2.1 (.inr (.inr ⟨n, t, ht, .inr (.inl rfl)⟩))
  have n3 := ny t.2.2 (.inr (.inr ⟨n, t, ht, .inr (.inr rfl)⟩))
  refine ⟨c, hc, hrel_mk rfl (fun i b B hi hB => ?_) (fun i j b c' B C hi hj hB hC hij k h1 h2 => ?_)⟩
  · match i, hi, hB with
    | 0, hi, hB =>
      obtain rfl := Option.some.inj hi
      obtain rfl := Option.some.inj hB
      obtain ⟨es, clock, ho⟩ := h.ys.map.is_map
      refine ⟨_, ho, fun q hq => ?_, ?_, fun w2 b2 ho2 => ⟨?_, fun i a hi0 ha => ?_⟩⟩
      · obtain rfl := List.mem_singleton.1 hq
        exact ⟨_, envL_at (b := y) rfl, rfl⟩
      · rw [linksOf_mark 1 (envL_at (b := y) rfl)]
        rfl
      · have e : (fun k => if k = 0 then none else (linksOf (envL [my, y, t.1, t.2.1] (rhoV (ofL (inoV (fun k => (Ly k).map (·.1)) n (S n) [])) (cloO c r))) [(.li 0, 1)] k).or ((Ly k).map (·.1))) = fun k => (Ly k).map (·.1) := by
          funext k
          split
          · rename_i e0
            cases hL : Ly k with
            | none => rfl
            | some t2 =>
              have := h.ys.num k t2 hL
              omega
          · rename_i e0
            rw [linksOf_skip (k := .li 0) (show (0 : Int) ≠ k from fun e => e0 e.symm)]
            rfl
        show MapI elPtr _ _ w2 b2 4096 (fun k => if k = 0 then none else _)
        rw [e]
        exact MapI.any h.ys.map ho w2 b2 ho2
      · rw [linksOf_skip (k := .li 0) (show (0 : Int) ≠ i from fun e => hi0 e.symm)] at ha
        have ha : (Ly i).map (·.1) = some a := ha
        cases hL : Ly i with
        | none => rw [hL] at ha; cases ha
        | some t2 => exact h.ys.num i t2 hL
    | 1, hi, hB =>
      obtain rfl := Option.some.inj hi
      obtain rfl := Option.some.inj hB
      exact ⟨_, hrow, _, rfl, inoL_rel rfl hc (envL_at rfl)⟩
    | 2, hi, hB =>
      obtain rfl := Option.some.inj hi
      obtain rfl := Option.some.inj hB
      exact ⟨_, hw.cell, _, rfl, rfl, rfl, rfl, rfl, rfl, ⟨_, envL_at (b := t.2.1) rfl, rfl⟩, trivial⟩
    | 3, hi, hB =>
      obtain rfl := Option.some.inj hi
      obtain rfl := Option.some.inj hB
      exact ⟨_, hw.grow⟩
    | i + 4, hi, _ => simp at hi
  · have role : ∀ i b B k, [my, y, t.1, t.2.1][i]? = some b → cloBs[i]? = some B → ownL (envL [my, y, t.1, t.2.1] (rhoV (ofL (inoV (fun k => (Ly k).map (·.1)) n (S n) [])) (cloO c r))) wr b B k → (i = 0 ∧ k = my) ∨ (i = 1 ∧ k = y) ∨ (i = 2 ∧ k = t.1) ∨ (i = 3 ∧ (k = t.2.1 ∨ k = t.2.2)) := fun i b B k hi hB ho => by
      match i, hi, hB with
      | 0, hi, hB => obtain rfl := Option.some.inj hi; obtain rfl := Option.some.inj hB; exact .inl ⟨rfl, ho⟩
      | 1, hi, hB => obtain rfl := Option.some.inj hi; obtain rfl := Option.some.inj hB; exact .inr (.inl ⟨rfl, ho⟩)
      | 2, hi, hB => obtain rfl := Option.some.inj hi; obtain rfl := Option.some.inj hB; exact .inr (.inr (.inl ⟨rfl, ho⟩))
      | 3, hi, hB =>
        obtain rfl := Option.some.inj hi
        obtain rfl := Option.some.inj hB
        exact .inr (.inr (.inr ⟨rfl, (ownD_grow hw.grow k).1 ho⟩))
      | i + 4, hi, _ => simp at hi
    have r1 := role i b B k hi hB h1
    have r2 := role j c' C k hj hC h2
    have a1 := ne_tag ty tmy (by decide)
    have a2 := ne_tag tg1 tg2 (by decide)
    have a3 := ne_tag tg1 tg3 (by decide)
    have a4 := ne_tag tg2 tg3 (by decide)
    omega

theorem clo_owned {t : Nat × Nat × Nat} {n : Nat} {lf : Nat → List UInt8} (h : IsGrow Tryz.prog wr t.2.1 t.2.2 n lf) {ρ : Rho} (hA : ρ.A = absD Tryz.prog) {k : Nat} (ho : Owned (envL [my, y, t.1, t.2.1] ρ) (memL cloBs) wr k) : k = my ∨ k = y ∨ k = t.1 ∨ k = t.2.1 ∨ k = t.2.2 := by
  have hb : ∀ j B, (memL cloBs).get j = some B → j = 0 ∨ j = 1 ∨ j = 2 ∨ j = 3 := fun j B hB => by
    have := memL_get hB
    match j, this with
    | 0, _ => exact .inl rfl
    | 1, _ => exact .inr (.inl rfl)
    | 2, _ => exact .inr (.inr (.inl rfl))
    | 3, _ => exact .inr (.inr (.inr rfl))
    | j + 4, h => simp [cloBs] at h
  rcases ho with ⟨j, B, q, hB, hq, rfl⟩ | ⟨j, e, q, hB, hq, ho⟩
  · have e1 := (envL_inv hq).1
    rcases hb j B hB with rfl | rfl | rfl | rfl
    · exact .inl (Option.some.inj e1).symm
    · exact .inr (.inl (Option.some.inj e1).symm)
    · exact .inr (.inr (.inl (Option.some.inj e1).symm))
    · exact .inr (.inr (.inr (.inl (Option.some.inj e1).symm)))
  · have e1 := (envL_inv hq).1
    have ho : ρ.A.own q.blk wr k := ho
    rw [hA] at ho
    rcases hb j _ hB with rfl | rfl | rfl | rfl
    · cases memL_get hB
    · cases memL_get hB
    · cases memL_get hB
    · obtain e2 := Option.some.inj e1
      rw [← e2] at ho
      rcases (ownD_grow h k).1 ho with rfl | rfl
      · exact .inr (.inr (.inr (.inl rfl)))
      · exact .inr (.inr (.inr (.inr rfl)))

theorem get_abs {h : T Blk} {i : Nat} {e : X} (v : (h.get i).map Blk.view = some (.abs e)) : h.get i = some (.abs e) := by
  obtain ⟨B, hB, hv⟩ := Option.map_eq_some_iff.1 v
  unfold Blk.view at hv
  split at hv
  · cases hv
  · cases hv
  · simp only [BV.abs.injEq] at hv
    rw [hB, hv]
  · cases hv
  · cases hv

set_option maxHeartbeats 2000000 in
theorem clo_step (h : Clos w x m S L y my wr Lx Ly left) {n : Int} {t : Nat × Nat × Nat} (ht : Lx n = some t) (hl : left n = true) {c r : Value} (hc : c.oneCell' = true) {nx' : Nat} {E' : Env} {h' : T Blk}
    (hg : Goes (envL [my, y, t.1, t.2.1] (rhoV (ofL (inoV (fun k => (Ly k).map (·.1)) n (S n) [])) (cloO c r))) (memL cloBs) 4 wr E' h' nx' w')
    (v0 : (h'.get 0).map Blk.view = some (.opq (.va 0) [(.va 1, 5), (.li 0, 1)])) (v1 : (h'.get 1).map Blk.view = some (.cells 107 (inoL 0)))
    (v2 : (h'.get 2).map Blk.view = some (.cells 100 (workL (.xi .i64 (.va 1)) (.xi .i64 (.va 3)) (.xi .i64 (.va 4)) (.xi .i64 (.va 5)) (.xi .u64 (.va 6)) 3))) (v3 : (h'.get 3).map Blk.view = some (.abs (.va 2))) (v4 : (h'.get 4).map Blk.view = some (.abs (.va 2)))
    (v5 : (h'.get 5).map Blk.view = some (.cells 100 (workL (.xi .i64 (.va 1)) (.xi .i64 (.va 3)) (.xi .i64 (.va 4)) (.xi .i64 (.va 5)) (.xi .u64 (.va 6)) 4))) :
    (∃ Lx' Ly', Clos w x m S L y my w' Lx' Ly' (fun k => left k && decide (k ≠ n)) ∧ ∀ k, k < wr.heap.size → ¬ ownBlk x m Lx k → ¬ ownBlk y my Ly k → ¬ ownBlk x m Lx' k ∧ ¬ ownBlk y my Ly' k) ∧
      (∀ k, k < wr.heap.size → k = m ∨ (¬ ownBlk x m Lx k ∧ ¬ ownBlk y my Ly k) → w'.heap[k]? = wr.heap[k]?) ∧ wr.heap.size ≤ w'.heap.size := by
  have hρ : E'.ρ = rhoV (ofL (inoV (fun k => (Ly k).map (·.1)) n (S n) [])) (cloO c r) := hg.ext.ρ
  have m0 : E'.m 0 = some ⟨my, 0, 0⟩ := hg.ext.m _ _ (envL_at rfl)
  have m1 : E'.m 1 = some ⟨y, 0, 0⟩ := hg.ext.m _ _ (envL_at rfl)
  have m2 : E'.m 2 = some ⟨t.1, 0, 0⟩ := hg.ext.m _ _ (envL_at rfl)
  have m3 : E'.m 3 = some ⟨t.2.1, 0, 0⟩ := hg.ext.m _ _ (envL_at rfl)
  have hn := h.xs.num n t ht
  have hw := h.xs.work n t ht
  obtain ⟨tg1, tg2, tg3⟩ := h.xs.tag_t ht
  have txx := h.xs.tag_x
  have txm := h.xs.tag_m
  have ty := h.ys.tag_x
  have tmy := h.ys.tag_m
  have o1 : ownBlk x m Lx t.1 := .inr (.inr ⟨n, t, ht, .inl rfl⟩)
  have o2 : ownBlk x m Lx t.2.1 := .inr (.inr ⟨n, t, ht, .inr (.inl rfl)⟩)
  have o3 : ownBlk x m Lx t.2.2 := .inr (.inr ⟨n, t, ht, .inr (.inr rfl)⟩)
  have hLyn : Ly n = none := by
    have := h.seen n
    rw [hl] at this
    simpa using this
  have hown : ∀ k, Owned (envL [my, y, t.1, t.2.1] (rhoV (ofL (inoV (fun k => (Ly k).map (·.1)) n (S n) [])) (cloO c r))) (memL cloBs) wr k → k = my ∨ k = y ∨ k = t.1 ∨ k = t.2.1 ∨ k = t.2.2 := fun k ho => clo_owned hw.grow rfl ho
  have hsame : ∀ k, k < wr.heap.size → k ≠ my → k ≠ y → k ≠ t.1 → k ≠ t.2.1 → k ≠ t.2.2 → w'.heap[k]? = wr.heap[k]? := fun k hk a1 a2 a3 a4 a5 => hg.frame.block k hk fun ho => by
    have := hown k ho
    omega
  obtain ⟨B0, hB0⟩ := live_of v0
  obtain ⟨B1, hB1⟩ := live_of v1
  obtain ⟨B2, hB2⟩ := live_of v2
  obtain ⟨B5, hB5⟩ := live_of v5
  have hB3 := get_abs v3
  have hB4 := get_abs v4
  obtain ⟨p5, q5, hp5, _, _⟩ := hg.rel.at_ 5 B5 hB5
  obtain ⟨p4, q4, hp4, _, hd4⟩ := hg.rel.at_ 4 _ hB4
  have hd4 : p4.dl = 0 := hd4
  have hd5 : p5.dl = 0 := cells_dl hg.rel v5 hp5
  have live : ∀ j, j < [my, y, t.1, t.2.1].length → ∃ C, h'.get j = some C := fun j hj => by
    match j, hj with
    | 0, _ => exact ⟨_, hB0⟩
    | 1, _ => exact ⟨_, hB1⟩
    | 2, _ => exact ⟨_, hB2⟩
    | 3, _ => exact ⟨_, hB3⟩
  have new5 : wr.heap.size ≤ p5.blk := newB hg rfl live (i := 5) (by simp) hB5 hp5
  have new4 : wr.heap.size ≤ p4.blk := newB hg rfl live (i := 4) (by simp) hB4 hp4
  -- the trees
  have g3 := abs_of_view hg.rel v3 m3
  have g4 := abs_of_view hg.rel v4 hp4
  rw [hρ] at g3 g4
  obtain ⟨s3, g3⟩ := g3
  obtain ⟨s4, g4⟩ := g4
  have w3 : E'.ρ.A.own t.2.1 w' s3 := by rw [hρ]; exact (ownD_grow g3 s3).2 (.inr rfl)
  have w4 : E'.ρ.A.own p4.blk w' s4 := by rw [hρ]; exact (ownD_grow g4 s4).2 (.inr rfl)
  have tg4 := g4.tags
  have tgs3 := g3.tags
  have f30 : s3 ≠ my := fun e => hg.rel.abs.far 3 _ _ 0 B0 _ hB3 m3 hB0 m0 (by decide) (show E'.ρ.A.own t.2.1 w' my from e ▸ w3)
  have f31 : s3 ≠ y := fun e => hg.rel.abs.far 3 _ _ 1 B1 _ hB3 m3 hB1 m1 (by decide) (show E'.ρ.A.own t.2.1 w' y from e ▸ w3)
  have f32 : s3 ≠ t.1 := fun e => hg.rel.abs.far 3 _ _ 2 B2 _ hB3 m3 hB2 m2 (by decide) (show E'.ρ.A.own t.2.1 w' t.1 from e ▸ w3)
  have f40 : s4 ≠ my := fun e => hg.rel.abs.far 4 _ _ 0 B0 _ hB4 hp4 hB0 m0 (by decide) (show E'.ρ.A.own p4.blk w' my from e ▸ w4)
  have f41 : s4 ≠ y := fun e => hg.rel.abs.far 4 _ _ 1 B1 _ hB4 hp4 hB1 m1 (by decide) (show E'.ρ.A.own p4.blk w' y from e ▸ w4)
  have f42 : s4 ≠ t.1 := fun e => hg.rel.abs.far 4 _ _ 2 B2 _ hB4 hp4 hB2 m2 (by decide) (show E'.ρ.A.own p4.blk w' t.1 from e ▸ w4)
  have f43 : s4 ≠ t.2.1 := fun e => hg.rel.abs.far 4 _ _ 3 _ _ hB4 hp4 hB3 m3 (by decide) (show E'.ρ.A.own p4.blk w' t.2.1 from e ▸ w4)
  have f33 : t.2.1 ≠ s3 := ne_tag tgs3.1 tgs3.2 (by decide)
  have f34 : s4 ≠ s3 := fun e => hg.rel.abs.apart 4 _ _ 3 _ _ hB4 hp4 hB3 m3 (by decide) s4 w4 (show E'.ρ.A.own t.2.1 w' s4 from e ▸ w3)
  have f35 : s3 ≠ p5.blk := fun e => hg.rel.abs.far 3 _ _ 5 B5 _ hB3 m3 hB5 hp5 (by decide) (show E'.ρ.A.own t.2.1 w' p5.blk from e ▸ w3)
  have f36 : s3 ≠ p4.blk := fun e => hg.rel.abs.far 3 _ _ 4 _ _ hB3 m3 hB4 hp4 (by decide) (show E'.ρ.A.own t.2.1 w' p4.blk from e ▸ w3)
  have c3 : s3 = t.2.2 ∨ wr.heap.size ≤ s3 := by
    rcases hg.uown 3 _ _ hB3 m3 s3 w3 with ho | ho
    · have := hown s3 ho
      omega
    · exact .inr ho
  have c4 : s4 = t.2.2 ∨ wr.heap.size ≤ s4 := by
    rcases hg.uown 4 _ _ hB4 hp4 s4 w4 with ho | ho
    · have := hown s4 ho
      omega
    · exact .inr ho
  -- the rows
  have wl : ∀ g, (workL (.xi .i64 (.va 1)) (.xi .i64 (.va 3)) (.xi .i64 (.va 4)) (.xi .i64 (.va 5)) (.xi .u64 (.va 6)) g).all SV.one = true := fun g => rfl
  have den : ∀ g b, E'.m g = some ⟨b, 0, 0⟩ → (workL (.xi .i64 (.va 1)) (.xi .i64 (.va 3)) (.xi .i64 (.va 4)) (.xi .i64 (.va 5)) (.xi .u64 (.va 6)) g).map (SV.den E') = workCells n (S n) b := fun g b hb => by
    unfold workL
    simp only [List.map_cons, List.map_nil, SV.den, hb, hρ]
    rfl
  have e4 : E'.m 4 = some ⟨p4.blk, 0, 0⟩ ∨ True := .inr trivial
  have r2 := row_of_view hg.rel v2 (wl 3) m2
  rw [den 3 _ m3] at r2
  have r5 := row_of_view hg.rel v5 (wl 4) hp5
  have den4 : (workL (.xi .i64 (.va 1)) (.xi .i64 (.va 3)) (.xi .i64 (.va 4)) (.xi .i64 (.va 5)) (.xi .u64 (.va 6)) 4).map (SV.den E') = workCells n (S n) p4.blk := by
    unfold workL
    simp only [List.map_cons, List.map_nil, SV.den, hp4, hρ, hd4]
    rfl
  rw [den4] at r5
  have r1 := row_of_view hg.rel v1 inoL_one m1
  rw [inoL_den (c := c) (by rw [hρ]; rfl) m0] at r1
  -- the new map
  obtain ⟨ob, hob, _, hoq⟩ := opq_of_view hg.rel v0 m0
  rw [hρ] at hoq
  obtain ⟨hmap, _⟩ := hoq.2 _ _ hob
  have x1 : X.int E'.ρ (.va 1) = n := by rw [hρ]; rfl
  have hmap2 : MapI elPtr Tryz.prog 3 w' my 4096 (fun k => (upd Ly n (p5.blk, p4.blk, s4) k).map (·.1)) := by
    have e1 : (fun k => (upd Ly n (p5.blk, p4.blk, s4) k).map (·.1)) = fun k => if k = 0 then none else (linksOf E' [(.va 1, 5), (.li 0, 1)] k).or ((Ly k).map (·.1)) := by
      funext k
      by_cases hk : k = n
      · subst hk
        rw [upd_at, if_neg (by omega), linksOf_hit hp5 x1]
        rfl
      · rw [upd_ne Ly _ hk, linksOf_skip (k := .va 1) (by rw [x1]; exact fun e => hk e.symm)]
        split
        · rename_i e0
          subst e0
          cases hL : Ly 0 with
          | none => rfl
          | some t2 =>
            have := h.ys.num 0 t2 hL
            omega
        · rename_i e0
          rw [linksOf_skip (k := .li 0) (show (0 : Int) ≠ k from fun e => e0 e.symm)]
          rfl
    rw [e1]
    exact hmap
  -- what is apart
  have xlt : ∀ k, ownBlk x m Lx k → k < wr.heap.size := fun k hk => h.xs.lt hk
  have ylt : ∀ k, ownBlk y my Ly k → k < wr.heap.size := fun k hk => h.ys.lt hk
  have nyx : ∀ k, ownBlk x m Lx k → ¬ ownBlk y my Ly k := fun k h1 h2 => (h.yown k h2).2 h1
  have oy : ownBlk y my Ly y := .inl rfl
  have omy : ownBlk y my Ly my := .inr (.inl rfl)
  have ox : ownBlk x m Lx x := .inl rfl
  have om : ownBlk x m Lx m := .inr (.inl rfl)
  have xne : ∀ k, ownBlk x m Lx k → k ≠ y ∧ k ≠ my := fun k hk => ⟨fun e => nyx k hk (e ▸ oy), fun e => nyx k hk (e ▸ omy)⟩
  have yne : ∀ k, ownBlk y my Ly k → k ≠ t.1 ∧ k ≠ t.2.1 ∧ k ≠ t.2.2 := fun k hk => ⟨fun e => nyx _ o1 (e ▸ hk), fun e => nyx _ o2 (e ▸ hk), fun e => nyx _ o3 (e ▸ hk)⟩
  have other : ∀ k t2, k ≠ n → Lx k = some t2 → ∀ j, (j = t2.1 ∨ j = t2.2.1 ∨ j = t2.2.2) → j ≠ t.1 ∧ j ≠ t.2.1 ∧ j ≠ t.2.2 := fun k t2 hk ht2 j hj => by
    obtain ⟨k1, k2, k3⟩ := h.xs.tag_t ht2
    obtain ⟨i1, i2, i3⟩ := h.xs.inj k n t2 t ht2 ht hk
    rcases hj with rfl | rfl | rfl
    · exact ⟨i1, ne_tag k1 tg2 (by decide), ne_tag k1 tg3 (by decide)⟩
    · exact ⟨ne_tag k2 tg1 (by decide), i2, ne_tag k2 tg3 (by decide)⟩
    · exact ⟨ne_tag k3 tg1 (by decide), ne_tag k3 tg2 (by decide), i3⟩
  have xkeep : ∀ k, ownBlk x m Lx k → k ≠ t.1 → k ≠ t.2.1 → k ≠ t.2.2 → w'.heap[k]? = wr.heap[k]? := fun k hk a1 a2 a3 => hsame k (xlt k hk) (xne k hk).2 (xne k hk).1 a1 a2 a3
  have ykeep : ∀ k, ownBlk y my Ly k → k ≠ my → k ≠ y → w'.heap[k]? = wr.heap[k]? := fun k hk a1 a2 => hsame k (ylt k hk) a1 a2 (yne k hk).1 (yne k hk).2.1 (yne k hk).2.2
  have xo : ∀ k t2, Lx k = some t2 → ∀ j, (j = t2.1 ∨ j = t2.2.1 ∨ j = t2.2.2) → ownBlk x m Lx j := fun k t2 ht2 j hj => .inr (.inr ⟨k, t2, ht2, hj⟩)
  have yo : ∀ k t2, Ly k = some t2 → ∀ j, (j = t2.1 ∨ j = t2.2.1 ∨ j = t2.2.2) → ownBlk y my Ly j := fun k t2 ht2 j hj => .inr (.inr ⟨k, t2, ht2, hj⟩)
  have mne := h.xs.map_ne n t ht
  have x1' := ne_tag txx tg1 (by decide)
  have x2' := ne_tag txx tg2 (by decide)
  have x3' := ne_tag txx tg3 (by decide)
  have m1' := ne_tag txm tg1 (by decide)
  have m2' := ne_tag txm tg2 (by decide)
  obtain ⟨cx, hcx, hrx⟩ := h.xs.cell
  -- x is as it was
  have hX0 : Inos Tryz.prog w' x (updS S n (S n)) m (upd Lx n (t.1, t.2.1, s3)) := by
    refine h.xs.close (h.xs.ok n) hn hcx (hrx.kept (xkeep x ox x1' x2' x3')) ?_ ⟨r2, g3⟩ (fun k t2 hk ht2 => ?_) (fun k t2 hk ht2 => ?_) ?_
    · have e1 : (fun k => (upd Lx n (t.1, t.2.1, s3) k).map (·.1)) = fun k => (Lx k).map (·.1) := by
        funext k
        by_cases hk : k = n
        · subst hk
          rw [upd_at, ht]
          rfl
        · rw [upd_ne Lx _ hk]
      rw [e1]
      exact h.xs.map.kept (xkeep m om m1' m2' (Ne.symm mne))
    · have q := fun j hj => other k t2 hk ht2 j hj
      have a := fun j hj => xkeep j (xo k t2 ht2 j hj) (q j hj).1 (q j hj).2.1 (q j hj).2.2
      exact ⟨a _ (.inl rfl), a _ (.inr (.inl rfl)), a _ (.inr (.inr rfl))⟩
    · have q := other k t2 hk ht2
      refine ⟨fun e => (q t2.1 (.inl rfl)).1 e.symm, fun e => (q t2.2.1 (.inr (.inl rfl))).2.1 e.symm, fun e => ?_⟩
      have e : s3 = t2.2.2 := e
      have := (q t2.2.2 (.inr (.inr rfl))).2.2
      have := xlt _ (xo k t2 ht2 t2.2.2 (.inr (.inr rfl)))
      omega
    · show s3 ≠ m
      have := xlt m om
      omega
  have hX : Inos Tryz.prog w' x S m (upd Lx n (t.1, t.2.1, s3)) := by
    have e1 : updS S n (S n) = S := by
      funext k
      unfold updS
      split
      · rename_i e; rw [e]
      · rfl
    rw [e1] at hX0
    exact hX0
  -- y has one more
  have hY0 : Inos Tryz.prog w' y (updS (seenS S Ly) n (S n)) my (upd Ly n (p5.blk, p4.blk, s4)) := by
    refine h.ys.close (h.xs.ok n) hn hc r1 hmap2 ⟨r5, g4⟩ (fun k t2 hk ht2 => ?_) (fun k t2 hk ht2 => ?_) f40
    · have b1 := h.ys.tag_t ht2
      have b2 := h.ys.map_ne k t2 ht2
      have a := fun j hj h1 h2 => ykeep j (yo k t2 ht2 j hj) h1 h2
      exact ⟨a _ (.inl rfl) (ne_tag b1.1 tmy (by decide)) (ne_tag b1.1 ty (by decide)), a _ (.inr (.inl rfl)) (ne_tag b1.2.1 tmy (by decide)) (ne_tag b1.2.1 ty (by decide)), a _ (.inr (.inr rfl)) b2 (ne_tag b1.2.2 ty (by decide))⟩
    · have l1 := ylt _ (yo k t2 ht2 t2.1 (.inl rfl))
      have l2 := ylt _ (yo k t2 ht2 t2.2.1 (.inr (.inl rfl)))
      have l3 := ylt _ (yo k t2 ht2 t2.2.2 (.inr (.inr rfl)))
      have l4 := (yne _ (yo k t2 ht2 t2.2.2 (.inr (.inr rfl)))).2.2
      refine ⟨?_, ?_, ?_⟩
      · show p5.blk ≠ _
        omega
      · show p4.blk ≠ _
        omega
      · show s4 ≠ _
        omega
  have hY : Inos Tryz.prog w' y (seenS S (upd Ly n (p5.blk, p4.blk, s4))) my (upd Ly n (p5.blk, p4.blk, s4)) := by
    have e1 : updS (seenS S Ly) n (S n) = seenS S (upd Ly n (p5.blk, p4.blk, s4)) := by
      funext k
      unfold updS seenS
      by_cases hk : k = n
      · subst hk
        rw [if_pos rfl, upd_at]
        rfl
      · rw [if_neg hk, upd_ne Ly _ hk]
    rw [e1] at hY0
    exact hY0
  have hxo : ∀ j, ownBlk x m (upd Lx n (t.1, t.2.1, s3)) j → ownBlk x m Lx j ∨ wr.heap.size ≤ j := fun j hj => own_upd (fun i hi => by
    rcases hi with e2 | e2 | e2
    · exact .inl (e2 ▸ o1)
    · exact .inl (e2 ▸ o2)
    · have e2 : i = s3 := e2
      rcases c3 with e | e
      · left
        rw [e2, e]
        exact o3
      · right
        rw [e2]
        exact e) hj
  have hyo : ∀ j, ownBlk y my (upd Ly n (p5.blk, p4.blk, s4)) j → ownBlk y my Ly j ∨ j = p5.blk ∨ j = p4.blk ∨ j = s4 := fun j hj => by
    rcases hj with rfl | rfl | ⟨a, t2, ha, hk⟩
    · exact .inl (.inl rfl)
    · exact .inl (.inr (.inl rfl))
    · by_cases e : a = n
      · subst e
        rw [upd_at] at ha
        obtain rfl := Option.some.inj ha
        exact .inr hk
      · rw [upd_ne Ly _ e] at ha
        exact .inl (.inr (.inr ⟨a, t2, ha, hk⟩))
  have hbase := h.but.size
  have hyx : ∀ j, ownBlk y my (upd Ly n (p5.blk, p4.blk, s4)) j → ¬ ownBlk x m (upd Lx n (t.1, t.2.1, s3)) j := fun j hj hj2 => by
    have hx3 : j = x ∨ j = m ∨ (j = t.1 ∨ j = t.2.1 ∨ j = s3) ∨ ∃ k t2, k ≠ n ∧ Lx k = some t2 ∧ (j = t2.1 ∨ j = t2.2.1 ∨ j = t2.2.2) := by
      rcases hj2 with rfl | rfl | ⟨a, t2, ha, hk⟩
      · exact .inl rfl
      · exact .inr (.inl rfl)
      · by_cases e : a = n
        · subst e
          rw [upd_at] at ha
          obtain rfl := Option.some.inj ha
          exact .inr (.inr (.inl hk))
        · rw [upd_ne Lx _ e] at ha
          exact .inr (.inr (.inr ⟨a, t2, e, ha, hk⟩))
    have lo1 := xlt _ o1
    have lo2 := xlt _ o2
    have lo3 := xlt _ o3
    rcases hyo j hj with hy1 | hy1
    · have q := yne j hy1
      have ql := ylt j hy1
      rcases hx3 with rfl | rfl | hx3 | ⟨k, t2, hk, ht2, hj3⟩
      · exact nyx _ ox hy1
      · exact nyx _ om hy1
      · omega
      · exact nyx _ (xo k t2 ht2 j hj3) hy1
    · have lx := xlt x ox
      have lm := xlt m om
      rcases hx3 with rfl | rfl | hx3 | ⟨k, t2, hk, ht2, hj3⟩
      · omega
      · omega
      · have : s4 ≠ t.1 ∧ s4 ≠ t.2.1 ∧ s4 ≠ s3 := ⟨f42, f43, f34⟩
        omega
      · have q := other k t2 hk ht2 j hj3
        have ql := xlt j (xo k t2 ht2 j hj3)
        omega
  refine ⟨⟨_, _, ⟨hX, fun k => ?_, fun j hj => ?_, hY, fun j hj => ⟨?_, hyx j hj⟩, fun k => ?_, ?_⟩, fun k hk hk1 hk2 => ⟨fun h1 => ?_, fun h1 => ?_⟩⟩, fun k hk hk2 => ?_, hg.frame.size⟩
  · rw [← h.same k]
    by_cases hk : k = n
    · subst hk
      rw [upd_at, ht]
      rfl
    · rw [upd_ne Lx _ hk]
  · rcases hxo j hj with h1 | h1
    · exact h.xown j h1
    · exact .inr (by omega)
  · rcases hyo j hj with h1 | h1
    · exact (h.yown j h1).1
    · have := h.xown _ o3
      by_cases e : j = t.2.2
      · rw [e]; exact this
      · right; omega
  · by_cases hk : k = n
    · subst hk
      have := h.same k
      rw [ht] at this
      rw [upd_at]
      cases hL : L k with
      | none => rw [hL] at this; cases this
      | some t2 => simp
    · rw [upd_ne Ly _ hk, h.seen k]
      simp [hk]
  · refine ⟨hg.frame.os.trans h.but.os, hg.frame.tape.trans h.but.tape, hg.frame.output.trans h.but.output, Nat.le_trans h.but.size hg.frame.size, fun k hk hn2 => ?_⟩
    rw [← h.but.block k hk hn2]
    refine hg.frame.block k (by omega) fun ho => ?_
    rcases hown k ho with rfl | rfl | rfl | rfl | rfl
    · rcases (h.yown _ omy).1 with h1 | h1
      · exact hn2 h1
      · omega
    · rcases (h.yown _ oy).1 with h1 | h1
      · exact hn2 h1
      · omega
    · rcases h.xown _ o1 with h1 | h1
      · exact hn2 h1
      · omega
    · rcases h.xown _ o2 with h1 | h1
      · exact hn2 h1
      · omega
    · rcases h.xown _ o3 with h1 | h1
      · exact hn2 h1
      · omega
  · rcases hxo k h1 with h2 | h2
    · exact hk1 h2
    · omega
  · rcases hyo k h1 with h2 | h2
    · exact hk2 h2
    · have : k ≠ t.2.2 := fun e => hk1 (e ▸ o3)
      omega
  · rcases hk2 with rfl | ⟨h1, h2⟩
    · exact xkeep _ om m1' m2' (Ne.symm mne)
    · exact hsame k hk (fun e => h2 (e ▸ omy)) (fun e => h2 (e ▸ oy)) (fun e => h1 (e ▸ o1)) (fun e => h1 (e ▸ o2)) (fun e => h1 (e ▸ o3))
end
end Go.Proofs.YtcnimekhpnejlaaGreat.Ev

/- Inodes: Clone; file.whole, walked. -/
namespace Go.Proofs.YtcnimekhpnejlaaGreat.Ev
open Go Go.RowKit
set_option linter.unusedVariables false
set_option linter.unusedSimpArgs false
set_option maxRecDepth 100000

theorem arr37 {t : Array Value} (h : t.size = 37) : ∃ g : Nat → Value, (∀ i, t.getD i undef = g i) ∧ t = (g 0 :: g 1 :: g 2 :: g 3 :: g 4 :: g 5 :: g 6 :: g 7 :: g 8 :: g 9 :: g 10 :: g 11 :: g 12 :: g 13 :: g 14 :: g 15 :: g 16 :: g 17 :: g 18 :: g 19 :: g 20 :: g 21 :: g 22 :: g 23 :: g 24 :: g 25 :: g 26 :: g 27 :: g 28 :: g 29 :: g 30 :: g 31 :: g 32 :: g 33 :: g 34 :: g 35 :: g 36 :: []).toArray := ⟨fun i => t.getD i undef, fun _ => rfl, (tmps_eq h).trans rfl⟩
theorem none_ok : Nd.none.Ok := ⟨.inl rfl, ⟨Int.le_refl 0, by show (0 : Int) ≤ 1000; omega⟩, Nat.zero_le _, fun _ => rfl, (fun h => by cases h), ⟨Int.le_refl 0, by show (0 : Int) ≤ 18446744073709551615; omega⟩⟩
theorem row_cell {w : World} {b : Nat} {t : TypeId} {vs : List Value} (h : Row w b t vs) {j : Nat} {v : Value} (hv : vs[j]? = some v) : w.cell? ⟨b, j, none⟩ = some v := by
  obtain ⟨cs, h1, h2⟩ := h
  simp only [World.cell?, h1]
  exact h2 j v hv
theorem row_map {w : World} {b : Nat} {t : TypeId} {c : Value} {m : Nat} (h : Row w b t (inoCells c m)) : w.cell? ⟨b, 36, none⟩ = some (.map (some m)) := row_cell h rfl

theorem inoA_owned {w : World} {x m : Nat} {ρ : Rho} {k : Nat} (ho : Owned (envL [x, m] ρ) inoA w k) : k = x ∨ k = m := by
  have hb : ∀ j B, inoA.get j = some B → j = 0 ∨ j = 1 := fun j B hB => by
    have := memL_get hB
    match j, this with
    | 0, _ => exact .inl rfl
    | 1, _ => exact .inr rfl
    | j + 2, h => simp [inoAs] at h
  rcases ho with ⟨j, B, q, hB, hq, rfl⟩ | ⟨j, e, q, hB, hq, ho⟩
  · have e1 := (envL_inv hq).1
    rcases hb j B hB with rfl | rfl
    · exact .inl (Option.some.inj e1).symm
    · exact .inr (Option.some.inj e1).symm
  · rcases hb j _ hB with rfl | rfl
    · cases memL_get hB
    · cases memL_get hB

/-- Clone, as it begins. -/
theorem clo_begin {w : World} {x m : Nat} {S : Int → Nd} {L : LL} (h : Inos Tryz.prog w x S m L) {c : Value} (hc : c.oneCell' = true) {nx' : Nat} {E' : Env} {h' : T Blk} {w' : World}
    (hg : Goes (envL [x, m] (rhoV (ofL [.st (.works fun k => (L k).map (·.1))]) fun _ => c)) inoA 2 w E' h' nx' w')
    (v0 : (h'.get 0).map Blk.view = some (.cells 107 (inoL 1))) (v1 : (h'.get 1).map Blk.view = some (.opq (.va 0) [(.li 0, 0)])) (v2 : (h'.get 2).map Blk.view = some (.cells 107 (inoL 3))) (v3 : (h'.get 3).map Blk.view = some .empty) :
    ∃ y my p, E'.m 0 = some ⟨x, 0, 0⟩ ∧ E'.m 2 = some p ∧ p.dl = 0 ∧ p.blk = y ∧ w.heap.size ≤ y ∧ w.heap.size ≤ my ∧ Clos w x m S L y my w' L (fun _ => none) (fun k => (L k).isSome) := by
  have hρ : E'.ρ = rhoV (ofL [.st (.works fun k => (L k).map (·.1))]) fun _ => c := hg.ext.ρ
  have m0 : E'.m 0 = some ⟨x, 0, 0⟩ := hg.ext.m _ _ (envL_at rfl)
  have m1 : E'.m 1 = some ⟨m, 0, 0⟩ := hg.ext.m _ _ (envL_at rfl)
  obtain ⟨B0, hB0⟩ := live_of v0
  obtain ⟨B1, hB1⟩ := live_of v1
  obtain ⟨B2, hB2⟩ := live_of v2
  obtain ⟨B3, hB3⟩ := live_of v3
  obtain ⟨p2, q2, hp2, _, _⟩ := hg.rel.at_ 2 B2 hB2
  obtain ⟨p3, q3, hp3, _, _⟩ := hg.rel.at_ 3 B3 hB3
  have hd2 : p2.dl = 0 := cells_dl hg.rel v2 hp2
  have live : ∀ j, j < [x, m].length → ∃ C, h'.get j = some C := fun j hj => by
    match j, hj with
    | 0, _ => exact ⟨_, hB0⟩
    | 1, _ => exact ⟨_, hB1⟩
  have new2 : w.heap.size ≤ p2.blk := newB (bs := inoAs) hg rfl live (i := 2) (by simp) hB2 hp2
  have new3 : w.heap.size ≤ p3.blk := newB (bs := inoAs) hg rfl live (i := 3) (by simp) hB3 hp3
  have r0 := row_of_view hg.rel v0 inoL_one m0
  rw [inoL_den (c := c) (by rw [hρ]; rfl) m1] at r0
  have r2 := row_of_view hg.rel v2 inoL_one hp2
  rw [inoL_den (c := c) (by rw [hρ]; rfl) hp3] at r2
  obtain ⟨ob, hob, _, hoq⟩ := opq_of_view hg.rel v1 m1
  rw [hρ] at hoq
  obtain ⟨hmap, _⟩ := hoq.2 _ _ hob
  have hmap2 : MapI elPtr Tryz.prog 3 w' m 4096 (fun k => (L k).map (·.1)) := by
    have e1 : (fun k => (L k).map (·.1)) = fun k => if k = 0 then none else (linksOf E' [(.li 0, 0)] k).or ((L k).map (·.1)) := by
      funext k
      split
      · rename_i e0
        subst e0
        cases hL : L 0 with
        | none => rfl
        | some t2 =>
          have := h.num 0 t2 hL
          omega
      · rename_i e0
        rw [linksOf_skip (k := .li 0) (show (0 : Int) ≠ k from fun e => e0 e.symm)]
        rfl
    rw [e1]
    exact hmap
  have hm3 := (MapI.of_empty elPtr Tryz.prog 3 (empty_of_view hg.rel v3 hp3)).mono (Nat.zero_le 4096)
  have tx := h.tag_x
  have tm := h.tag_m
  have keep : ∀ n t, L n = some t → ∀ j, (j = t.1 ∨ j = t.2.1 ∨ j = t.2.2) → w'.heap[j]? = w.heap[j]? := fun n t ht j hj => by
    obtain ⟨g1, g2, g3⟩ := h.tag_t ht
    have hm := h.map_ne n t ht
    have hj2 : j ≠ x ∧ j ≠ m := by
      rcases hj with rfl | rfl | rfl
      · exact ⟨ne_tag g1 tx (by decide), ne_tag g1 tm (by decide)⟩
      · exact ⟨ne_tag g2 tx (by decide), ne_tag g2 tm (by decide)⟩
      · exact ⟨ne_tag g3 tx (by decide), hm⟩
    refine hg.frame.block j (h.lt (.inr (.inr ⟨n, t, ht, hj⟩))) fun ho => ?_
    have := inoA_owned ho
    omega
  have xlt : ∀ k, ownBlk x m L k → k < w.heap.size := fun k hk => h.lt hk
  refine ⟨p2.blk, p3.blk, p2, m0, hp2, hd2, rfl, new2, new3,
    ⟨⟨⟨c, hc, r0⟩, hmap2, fun n t ht => (h.work n t ht).kept (keep n t ht _ (.inl rfl)) (keep n t ht _ (.inr (.inl rfl))) (keep n t ht _ (.inr (.inr rfl))), h.off, h.inj, h.map_ne, h.ok, h.num⟩, fun _ => rfl, fun j hj => .inl hj,
      ⟨⟨c, hc, r2⟩, hm3, (fun n t ht => by cases ht), fun n _ => rfl, (fun n n' t t' ht => by cases ht), (fun n t ht => by cases ht), fun n => none_ok, fun n t ht => by cases ht⟩, fun j hj => ?_, fun k => by simp, ?_⟩⟩
  · have hj2 : j = p2.blk ∨ j = p3.blk := by
      rcases hj with rfl | rfl | ⟨n, t, ht, _⟩
      · exact .inl rfl
      · exact .inr rfl
      · cases ht
    exact ⟨.inr (by omega), fun ho => by have := xlt j ho; omega⟩
  · exact ⟨hg.frame.os, hg.frame.tape, hg.frame.output, hg.frame.size, fun k hk hn => hg.frame.block k hk fun ho => by
      rcases inoA_owned ho with rfl | rfl
      · exact hn (.inl rfl)
      · exact hn (.inr (.inl rfl))⟩
end Go.Proofs.YtcnimekhpnejlaaGreat.Ev

/- One handle of inodes, opened for the evaluator and closed again; texts cut. -/
namespace Go.Proofs.YtcnimekhpnejlaaGreat.Ev
open Go Go.RowKit
set_option linter.unusedVariables false
set_option linter.unusedSimpArgs false
set_option maxRecDepth 10000

def oneM : T Blk := memL [.abs (.va 0)]
theorem one_open {w : World} {x : Nat} {d : D} (h : isD Tryz.prog d x w) (l : List D) (o : Nat → Value) : HRel (envL [x] (rhoI (ofL (d :: l)) o)) oneM w :=
  hrel_mk rfl (fun i b B hi hB => by
    match i, hi, hB with
    | 0, hi, hB =>
      obtain rfl := Option.some.inj hi
      obtain rfl := Option.some.inj hB
      exact h
    | i + 1, hi, _ => simp at hi) (fun i j b c B C hi hj hB hC hij k h1 h2 => by
    match i, j, hi, hj with
    | 0, 0, _, _ => exact hij rfl
    | i + 1, _, hi, _ => simp at hi
    | 0, j + 1, _, hj => simp at hj)
theorem one_done {w w' : World} {x : Nat} {d : D} (h : isD Tryz.prog d x w) {v : Nat → D} {o : Nat → Value} {nx nx' : Nat} {E' : Env} {h' : T Blk} (hg : Goes (envL [x] (rhoI v o)) oneM nx w E' h' nx' w') {e : X} (v0 : (h'.get 0).map Blk.view = some (.abs e)) :
    isD Tryz.prog (e.val (rhoI v o)) x w' ∧ (∀ k, ownD Tryz.prog x w' k → ownD Tryz.prog x w k ∨ w.heap.size ≤ k) ∧ But (ownD Tryz.prog x w) w w' := by
  have hρ : E'.ρ = rhoI v o := hg.ext.ρ
  have m0 : E'.m 0 = some ⟨x, 0, 0⟩ := hg.ext.m _ _ (envL_at rfl)
  have his := abs_of_view hg.rel v0 m0
  rw [hρ] at his
  have own : ∀ k, Owned (envL [x] (rhoI v o)) oneM w k → ownD Tryz.prog x w k := fun k ho => by
    have hb : ∀ j B, oneM.get j = some B → j = 0 ∧ B = .abs (.va 0) := fun j B hB => by
      have := memL_get hB
      match j, this with
      | 0, h => exact ⟨rfl, (Option.some.inj h).symm⟩
      | j + 1, h => simp at h
    rcases ho with ⟨j, B, q, hB, hq, rfl⟩ | ⟨j, e, q, hB, hq, ho⟩
    · obtain ⟨rfl, rfl⟩ := hb j B hB
      have e1 := Option.some.inj (envL_inv hq).1
      rw [← e1]
      exact isD_self h
    · obtain ⟨rfl, _⟩ := hb j _ hB
      have e1 := Option.some.inj (envL_inv hq).1
      rw [← e1] at ho
      exact ho
  refine ⟨his, fun k hk => ?_, ⟨hg.frame.os, hg.frame.tape, hg.frame.output, hg.frame.size, fun k hk hn => hg.frame.block k hk fun ho => hn (own k ho)⟩⟩
  have hk2 : E'.ρ.A.own x w' k := by rw [hρ]; exact hk
  exact (hg.uown 0 e _ (get_abs v0) m0 k hk2).imp (own k) id
theorem ba_sub (s : ByteArray) (a b : Nat) : (s.extract a b).data.toList = (s.data.toList.drop a).take (b - a) := by
  rw [ByteArray.data_extract, Array.toList_extract, List.extract_eq_take_drop]
theorem ba_size (s : ByteArray) : s.data.toList.length = s.size := (Lib.size_eq s).symm
end Go.Proofs.YtcnimekhpnejlaaGreat.Ev

/- lay of files: a text, leaf by leaf. -/
namespace Go.Proofs.YtcnimekhpnejlaaGreat.Ev
open Go Go.RowKit
set_option linter.unusedVariables false
set_option linter.unusedSimpArgs false
set_option maxRecDepth 10000

noncomputable def layB : Code := codeAt (Tryz.f36.body.getD .skip) [1, 0, 0, 0]
def layS : S := ⟨((((T.set .nil 0 (EV.a (.s (.ptr 0 0)))).set 1 (.a (.s (.xi .i64 (.va 1))))).set 2 (.a (.s (.xi .i64 (.va 2))))).set 3 (.a (.s (.xs (.va 3))))).set 4 (.a (.s (.xi .u64 (.va 4)))), oneM, 1⟩
theorem lay_ev (ρ : Rho) : ways (fun pc => (evCode (ctx rules0 ρ pc) funT.get (evCall (ctx rules0 ρ pc) funT.get (sumL pc) 100000 1000) Tryz.f36.ntmps 100000 layB layS).map (viewC [0, 1, 2, 3, 4] [0])) layT [] = some layL := by kernel_rfl

theorem quo256 {ρ : Rho} {e : X} {a : Nat} (he : e.int ρ = a) (ha : a ≤ 1048576) : X.int ρ (.bin .quo .i64 e (.li 256)) = (a / 256 : Nat) := by
  show IntKind.i64.wrap ((e.int ρ).tdiv 256) = _
  rw [he, Int.tdiv_eq_ediv_of_nonneg (by omega), wrap_i (by omega) (by omega)]
  omega
theorem rem256 {ρ : Rho} {e : X} {a : Nat} (he : e.int ρ = a) : X.int ρ (.bin .rem .i64 e (.li 256)) = (a % 256 : Nat) := by
  show (e.int ρ).tmod 256 = _
  rw [he, Int.tmod_eq_emod_of_nonneg (by omega)]
  omega
theorem many256 {ρ : Rho} {e s : X} {a : Nat} {t : ByteArray} (he : e.int ρ = a) (hs : s.str ρ = t) : X.int ρ (.mn (.len s) (.bin .sub .i64 (.li 256) (.bin .rem .i64 e (.li 256)))) = (min t.size (256 - a % 256) : Nat) := by
  show (if IntKind.i64.wrap (256 - X.int ρ (.bin .rem .i64 e (.li 256))) < ((s.str ρ).size : Nat) then IntKind.i64.wrap (256 - X.int ρ (.bin .rem .i64 e (.li 256))) else ((s.str ρ).size : Nat)) = _
  rw [rem256 he, hs, wrap_i (by omega) (by omega)]
  split <;> omega

/-- What is laid is of the same kind. -/
theorem layN_bytes (N : Nd) (a : Nat) (s : List UInt8) (st : Int) : (layN N a s st).bytes = overB N.bytes a s := by
  unfold layN
  split
  · rename_i h
    rw [h, overB_nil]
  · rfl
theorem layN_kind (N : Nd) (a : Nat) (s : List UInt8) (st : Int) : (layN N a s st).kind = N.kind := by
  unfold layN
  split <;> rfl
theorem layN_links (N : Nd) (a : Nat) (s : List UInt8) (st : Int) : (layN N a s st).links = N.links := by
  unfold layN
  split <;> rfl
theorem updS_at (S : Int → Nd) (n : Int) (N : Nd) : updS S n N n = N := if_pos rfl
theorem updS_two (S : Int → Nd) (n : Int) (N N' : Nd) : updS (updS S n N) n N' = updS S n N' := by
  funext k
  unfold updS
  split <;> rfl
/-- One more piece. -/
theorem layN_next {N : Nd} {a k m : Nat} {s : List UInt8} {st : Int} (ha : a + s.length ≤ N.bytes.length) (hk : k ≤ s.length) (hk2 : k < s.length) (hm : m = min (s.length - k) (256 - (a + k) % 256)) {b : List UInt8} (hb : b = leafOf (overB N.bytes a (s.take k)) ((a + k) / 256) ∨ (m = 256 ∧ b.length = 256)) :
    setN (layN N a (s.take k) st) ((a + k) / 256) (overB b ((a + k) % 256) ((s.drop k).take m)) st = layN N a (s.take (k + m)) st := by
  have hlk : (s.take k).length = k := by rw [List.length_take]; omega
  have hld : (s.drop k).length = s.length - k := List.length_drop
  have hlo : (overB N.bytes a (s.take k)).length = N.bytes.length := overB_length (by omega)
  have h1 := lay_step (bs := overB N.bytes a (s.take k)) (s := s.drop k) (a := a + k) (m := m) (by rw [hld]; exact hm) (by rw [hlo, hld]; omega) hb
  have hne : s.take (k + m) ≠ [] := fun e => by
    have := congrArg List.length e
    rw [List.length_take, List.length_nil] at this
    omega
  have h2 := overB_two (bs := N.bytes) (s := s.take (k + m)) (a := a) (m := k) (by rw [List.length_take]; omega) (by rw [List.length_take]; omega)
  rw [List.take_take, show min k (k + m) = k by omega, List.drop_take, show k + m - k = m by omega] at h2
  have h3 : layN N a (s.take (k + m)) st = { N with bytes := overB N.bytes a (s.take (k + m)), stamp := st } := if_neg hne
  rw [h3, ← h2, ← h1]
  unfold setN
  rw [layN_bytes]
  have h4 := layN_kind N a (s.take k) st
  have h5 := layN_links N a (s.take k) st
  generalize layN N a (s.take k) st = M at h4 h5 ⊢
  obtain ⟨k1, l1, s1, b1⟩ := M
  simp only at h4 h5
  rw [h4, h5]

theorem lay_round {w : World} {x : Nat} {S : Int → Nd} (h : isD Tryz.prog (.st (.ino S)) x w) {n : Int} (hn : 1 ≤ n ∧ n ≤ 4096) (hk : (S n).kind ≠ 0) {a : Nat} {s : ByteArray} (hs : a + s.size ≤ (S n).bytes.length) {st : Int} (hst : 0 ≤ st ∧ st ≤ 18446744073709551615)
    {act : Act} (t0 : act.tmps.getD 0 undef = .pointer (some ⟨x, 0, none⟩)) (t1 : act.tmps.getD 1 undef = .int .i64 n) (t2 : act.tmps.getD 2 undef = .int .i64 a) (t3 : act.tmps.getD 3 undef = .string s) (t4 : act.tmps.getD 4 undef = .int .u64 st) (hN : 67 ≤ act.tmps.size) (Q : Exit → Act → World → Prop)
    (hQ0 : s.size = 0 → ∀ a' w', a'.tmps.size = act.tmps.size → a'.defers = act.defers → isD Tryz.prog (.st (.ino S)) x w' → (∀ k, ownD Tryz.prog x w' k → ownD Tryz.prog x w k ∨ w.heap.size ≤ k) → But (ownD Tryz.prog x w) w w' → Q (.exit 0) a' w')
    (hQ1 : 0 < s.size → ∀ m b, m = min s.size (256 - a % 256) → (b = leafOf (S n).bytes (a / 256) ∨ (m = 256 ∧ b.length = 256)) → ∀ a' w', a'.tmps.size = act.tmps.size → a'.defers = act.defers →
      a'.tmps.getD 0 undef = .pointer (some ⟨x, 0, none⟩) → a'.tmps.getD 1 undef = .int .i64 n → a'.tmps.getD 2 undef = .int .i64 (a + m : Nat) → a'.tmps.getD 3 undef = .string (s.extract m s.size) → a'.tmps.getD 4 undef = .int .u64 st →
      isD Tryz.prog (.st (.ino (updS S n (setN (S n) (a / 256) (overB b (a % 256) (s.data.toList.take m)) st)))) x w' → (∀ k, ownD Tryz.prog x w' k → ownD Tryz.prog x w k ∨ w.heap.size ≤ k) → But (ownD Tryz.prog x w) w w' → Q .normal a' w') :
    layB.wp Tryz.prog Q act w := by
  obtain ⟨ρ, hρ⟩ : ∃ ρ, ρ = rhoI (ofL [.st (.ino S), .i n, .i a, .s s, .i st]) fun _ => undef := ⟨_, rfl⟩
  have hr : HRel (envL [x] ρ) oneM w := by rw [hρ]; exact one_open h _ _
  have hok : isD Tryz.prog (.st (.ino S)) x w := h
  have hsz : (S n).bytes.length ≤ 1048576 := by
    obtain ⟨m, L, hI⟩ := h
    exact (hI.ok n).size
  have h0 : X.val ρ (.va 0) = .st (.ino S) := by rw [hρ]; rfl
  have h1 : X.int ρ (.va 1) = n := by rw [hρ]; rfl
  have h2 : X.int ρ (.va 2) = a := by rw [hρ]; rfl
  have h3 : X.str ρ (.va 3) = s := by rw [hρ]; rfl
  have h4 : X.int ρ (.va 4) = st := by rw [hρ]; rfl
  have hf : ρ.f = FNi := by rw [hρ]; rfl
  have htm : RelT (envL [x] ρ) layS.tm act.tmps := by
    refine RelT.also (d := 4) (x := EV.a (.s (.xi .u64 (.va 4)))) (RelT.also (d := 3) (x := EV.a (.s (.xs (.va 3)))) (RelT.also (d := 2) (x := EV.a (.s (.xi .i64 (.va 2)))) (RelT.also (d := 1) (x := EV.a (.s (.xi .i64 (.va 1)))) (RelT.also (d := 0) (x := EV.a (.s (.ptr 0 0))) RelT.nil ?_) ?_) ?_) ?_) ?_
    · rw [t0]; exact ⟨⟨x, 0, 0⟩, envL_at rfl, rfl⟩
    · rw [t1]; show _ = Value.int .i64 (X.int ρ (.va 1)); rw [h1]
    · rw [t2]; show _ = Value.int .i64 (X.int ρ (.va 2)); rw [h2]
    · rw [t3]; show _ = Value.string (X.str ρ (.va 3)); rw [h3]
    · rw [t4]; show _ = Value.int .u64 (X.int ρ (.va 4)); rw [h4]
  obtain ⟨y, hy, ht, hcode⟩ := ways_code (R := rules0) (ρ := ρ) (rules0_ok _) (fun pc hpc => by rw [hρ] at hpc ⊢; exact sumL_ok hpc) (lay_ev ρ) hr rfl (envL_fresh _ _) htm hN
  have hq : X.int ρ (.bin .quo .i64 (.va 2) (.li 256)) = (a / 256 : Nat) := quo256 h2 (by omega)
  have hrm : X.int ρ (.bin .rem .i64 (.va 2) (.li 256)) = (a % 256 : Nat) := rem256 h2
  have hmn : X.int ρ (.mn (.len (.va 3)) (.bin .sub .i64 (.li 256) (.bin .rem .i64 (.va 2) (.li 256)))) = (min s.size (256 - a % 256) : Nat) := many256 h2 h3
  have hln : X.int ρ (.len (.va 3)) = (s.size : Nat) := by show (((X.str ρ (.va 3)).size : Nat) : Int) = _; rw [h3]
  have hsb : X.int ρ (.bin .sub .i64 (.li 256) (.bin .rem .i64 (.va 2) (.li 256))) = (256 - a % 256 : Nat) := by
    show IntKind.i64.wrap (256 - X.int ρ (.bin .rem .i64 (.va 2) (.li 256))) = _
    rw [hrm, wrap_i (by omega) (by omega)]
    omega
  have hsub : X.str ρ (.sub (.va 3) (.li 0) (.mn (.len (.va 3)) (.bin .sub .i64 (.li 256) (.bin .rem .i64 (.va 2) (.li 256))))) = s.extract 0 (min s.size (256 - a % 256)) := by
    show (X.str ρ (.va 3)).extract 0 (X.int ρ (.mn (.len (.va 3)) (.bin .sub .i64 (.li 256) (.bin .rem .i64 (.va 2) (.li 256))))).toNat = _
    rw [h3, hmn, Int.toNat_natCast]
  have hls : X.int ρ (.len (.sub (.va 3) (.li 0) (.mn (.len (.va 3)) (.bin .sub .i64 (.li 256) (.bin .rem .i64 (.va 2) (.li 256)))))) = (min s.size (256 - a % 256) : Nat) := by
    show (((X.str ρ _).size : Nat) : Int) = _
    rw [hsub]
    have := ba_size (s.extract 0 (min s.size (256 - a % 256)))
    rw [ba_sub, List.drop_zero, List.length_take, ba_size] at this
    omega
  have q57 : X.bool ρ (.app 57 (.va 0)) = true := by rw [hρ]; rfl
  have q902 : X.bool ρ (.app 902 (.va 1)) = true := by
    rw [hρ]
    exact decide_eq_true (show -9223372036854775808 ≤ n ∧ n ≤ 9223372036854775807 by omega)
  have q902q : X.bool ρ (.app 902 (.bin .quo .i64 (.va 2) (.li 256))) = true := by
    show (ρ.f 902 (X.val ρ _)).bool = true
    rw [hf]
    exact decide_eq_true (show -9223372036854775808 ≤ X.int ρ _ ∧ X.int ρ _ ≤ 9223372036854775807 by rw [hq]; omega)
  have q50 : X.int ρ (.app 50 (.cons (.va 0) (.va 1))) = (S n).kind := by rw [hρ]; rfl
  have q59 : X.bool ρ (.app 59 (.va 4)) = true := by
    rw [hρ]
    exact decide_eq_true (show 0 ≤ st ∧ st ≤ 18446744073709551615 by exact hst)
  have q58 : 0 < s.size → X.bool ρ (.app 58 (.cons (.va 0) (.cons (.va 1) (.bin .quo .i64 (.va 2) (.li 256))))) = true := fun hp => by
    show (ρ.f 58 (.p (X.val ρ (.va 0)) (.p (X.val ρ (.va 1)) (X.val ρ _)))).bool = true
    rw [hf, h0]
    refine decide_eq_true (show 0 ≤ X.int ρ (.bin .quo .i64 (.va 2) (.li 256)) ∧ X.int ρ (.bin .quo .i64 (.va 2) (.li 256)) < (leavesN (S (X.int ρ (.va 1))).bytes.length : Nat) from ?_)
    rw [hq, h1]
    have := leavesN_lt.2 (show 256 * (a / 256) < (S n).bytes.length by omega)
    omega
  have fin : ∀ (m : Nat) (b : List UInt8) (bX : X), 0 < s.size → m = min s.size (256 - a % 256) → pad (bX.str ρ) = b → (b = leafOf (S n).bytes (a / 256) ∨ (m = 256 ∧ b.length = 256)) → b.length = 256 → ∀ (E' : Env) (a' : Act) (w' : World) (s' : Ev.S), Goes (envL [x] ρ) layS.h layS.nx w E' s'.h s'.nx w' → RelT E' s'.tm a'.tmps → a'.tmps.size = act.tmps.size → a'.defers = act.defers →
      [some (EV.a (.s (.ptr 0 0))), some (.a (.s (.xi .i64 (.va 1)))), some (.a (.s (.xi .i64 (.bin .add .i64 (.va 2) (.mn (.len (.va 3)) (.bin .sub .i64 (.li 256) (.bin .rem .i64 (.va 2) (.li 256)))))))), some (.a (.s (.xs (.sub (.va 3) (.mn (.len (.va 3)) (.bin .sub .i64 (.li 256) (.bin .rem .i64 (.va 2) (.li 256)))) (.len (.va 3)))))), some (.a (.s (.xi .u64 (.va 4))))] = ([0, 1, 2, 3, 4].map fun t => s'.tm.get t) →
      [some (BV.abs (.app 55 (.cons (.va 0) (.cons (.va 1) (.cons (.bin .quo .i64 (.va 2) (.li 256)) (.cons (.app 63 (.cons bX (.cons (.bin .rem .i64 (.va 2) (.li 256)) (.sub (.va 3) (.li 0) (.mn (.len (.va 3)) (.bin .sub .i64 (.li 256) (.bin .rem .i64 (.va 2) (.li 256)))))))) (.va 4)))))))] = ([0].map fun i => (s'.h.get i).map Blk.view) → Q .normal a' w' := fun m b bX hp hm hbx hb hb6 E' a' w' s' hg htm' hsz' hdf hv1 hv2 => by
    have hρ' : E'.ρ = ρ := hg.ext.ρ
    have m0 : E'.m 0 = some ⟨x, 0, 0⟩ := hg.ext.m _ _ (envL_at rfl)
    have u0 := (List.cons.inj hv1).1.symm
    have r1 := (List.cons.inj hv1).2
    have u1 := (List.cons.inj r1).1.symm
    have r2 := (List.cons.inj r1).2
    have u2 := (List.cons.inj r2).1.symm
    have r3 := (List.cons.inj r2).2
    have u3 := (List.cons.inj r3).1.symm
    have u4 := (List.cons.inj (List.cons.inj r3).2).1.symm
    have hd := one_done (v := ofL [.st (.ino S), .i n, .i a, .s s, .i st]) (o := fun _ => undef) h (by rw [← hρ]; exact hg) (List.cons.inj hv2).1.symm
    rw [← hρ] at hd
    refine hQ1 hp m b hm hb a' w' hsz' hdf ?_ ?_ ?_ ?_ ?_ ?_ hd.2.1 hd.2.2
    · obtain ⟨q0, hq0, e⟩ := slot_of_view htm' u0
      rw [m0] at hq0
      obtain rfl := Option.some.inj hq0
      exact e
    · have e : _ = Value.int .i64 (X.int E'.ρ (.va 1)) := slot_of_view htm' u1
      rw [e, hρ', h1]
    · have e : _ = Value.int .i64 (IntKind.i64.wrap (X.int E'.ρ (.va 2) + X.int E'.ρ (.mn (.len (.va 3)) (.bin .sub .i64 (.li 256) (.bin .rem .i64 (.va 2) (.li 256)))))) := slot_of_view htm' u2
      rw [e, hρ', h2, hmn, wrap_i (by omega) (by omega), hm]
      rfl
    · have e : _ = Value.string ((X.str E'.ρ (.va 3)).extract (X.int E'.ρ (.mn (.len (.va 3)) (.bin .sub .i64 (.li 256) (.bin .rem .i64 (.va 2) (.li 256))))).toNat (X.int E'.ρ (.len (.va 3))).toNat) := slot_of_view htm' u3
      rw [e, hρ', h3, hmn, hln, Int.toNat_natCast, Int.toNat_natCast, hm]
    · have e : _ = Value.int .u64 (X.int E'.ρ (.va 4)) := slot_of_view htm' u4
      rw [e, hρ', h4]
    · have hv : X.val ρ (.app 55 (.cons (.va 0) (.cons (.va 1) (.cons (.bin .quo .i64 (.va 2) (.li 256)) (.cons (.app 63 (.cons bX (.cons (.bin .rem .i64 (.va 2) (.li 256)) (.sub (.va 3) (.li 0) (.mn (.len (.va 3)) (.bin .sub .i64 (.li 256) (.bin .rem .i64 (.va 2) (.li 256)))))))) (.va 4)))))) = .st (.ino (updS S n (setN (S n) (a / 256) (overB b (a % 256) (s.data.toList.take m)) st))) := by
        show ρ.f 55 (.p (X.val ρ (.va 0)) (.p (X.val ρ (.va 1)) (.p (X.val ρ (.bin .quo .i64 (.va 2) (.li 256))) (.p (ρ.f 63 (.p (X.val ρ bX) (.p (X.val ρ (.bin .rem .i64 (.va 2) (.li 256))) (X.val ρ (.sub (.va 3) (.li 0) (.mn (.len (.va 3)) (.bin .sub .i64 (.li 256) (.bin .rem .i64 (.va 2) (.li 256))))))))) (X.val ρ (.va 4)))))) = _
        rw [hf, h0]
        show D.st (.ino (updS S (X.int ρ (.va 1)) (setN (S (X.int ρ (.va 1))) (X.int ρ (.bin .quo .i64 (.va 2) (.li 256))).toNat (pad ⟨(overB (pad (bX.str ρ)) (X.int ρ (.bin .rem .i64 (.va 2) (.li 256))).toNat (X.str ρ (.sub (.va 3) (.li 0) (.mn (.len (.va 3)) (.bin .sub .i64 (.li 256) (.bin .rem .i64 (.va 2) (.li 256)))))).data.toList).toArray⟩) (X.int ρ (.va 4))))) = _
        rw [h1, hq, hrm, hsub, h4, hbx, Int.toNat_natCast, Int.toNat_natCast, ba_sub, List.drop_zero, Nat.sub_zero, ← hm]
        have hlt : (s.data.toList.take m).length = m := by rw [List.length_take, ba_size]; omega
        rw [pad_of (by rw [overB_length (by omega), hb6])]
      have := hd.1
      rw [hv] at this
      exact this
  simp only [layL, List.mem_cons, List.not_mem_nil, or_false] at hy
  have hm0 : ∀ e : X, X.int ρ (.li 0) = 0 ∧ X.int ρ (.li 256) = 256 ∧ X.int ρ (.li 1) = 1 ∧ X.int ρ (.li 4096) = 4096 := fun _ => ⟨rfl, rfl, rfl, rfl⟩
  rcases hy with rfl | rfl | rfl | rfl | rfl | rfl | rfl | rfl | rfl | rfl | rfl | rfl | rfl | rfl | rfl | rfl | rfl | rfl | rfl | rfl | rfl | rfl | rfl | rfl | rfl | rfl | rfl <;> simp only [told_cons, told_nil, eq_true, eq_false, lt_true, lt_false, h1, h2, hq, hrm, hmn, hln, hsb, hls, q57, q902, q902q, q50, q59, li_int, and_true, true_and, reduceCtorEq, false_and, and_false] at ht
  all_goals first
    | omega
    | (have := q58 (by omega); simp only [this, reduceCtorEq, and_true, true_and, false_and, and_false] at ht; done)
    | skip
  · refine hcode _ rfl _ ?_
    intro q hq' E' a' w' s' hg htm' hsz' hdf hv1 hv2
    obtain rfl := List.mem_singleton.1 hq'
    refine fin _ (leafOf (S n).bytes (a / 256)) _ (by omega) rfl ?_ (.inl rfl) (leafOf_length _ _) E' a' w' s' hg htm' hsz' hdf hv1 hv2
    show pad ((ρ.f 54 (.p (X.val ρ (.va 0)) (.p (X.val ρ (.va 1)) (X.val ρ (.bin .quo .i64 (.va 2) (.li 256)))))).str) = _
    rw [hf, h0]
    show pad ⟨(leafOf (S (X.int ρ (.va 1))).bytes (X.int ρ (.bin .quo .i64 (.va 2) (.li 256))).toNat).toArray⟩ = _
    rw [h1, hq, Int.toNat_natCast, pad_of (leafOf_length _ _)]
  · refine hcode _ rfl _ ?_
    intro q hq' E' a' w' s' hg htm' hsz' hdf hv1 hv2
    obtain rfl := List.mem_singleton.1 hq'
    exact fin _ (zeros 256) (.ls zeroB) (by omega) rfl (pad_of (zeros_length 256)) (.inr ⟨by omega, zeros_length 256⟩) (zeros_length 256) E' a' w' s' hg htm' hsz' hdf hv1 hv2
  · refine hcode _ rfl _ ?_
    intro q hq' E' a' w' s' hg htm' hsz' hdf hv1 hv2
    obtain rfl := List.mem_singleton.1 hq'
    have hd := one_done (v := ofL [.st (.ino S), .i n, .i a, .s s, .i st]) (o := fun _ => undef) h (by rw [← hρ]; exact hg) (List.cons.inj hv2).1.symm
    exact hQ0 (by omega) a' w' hsz' hdf hd.1 hd.2.1 hd.2.2

theorem arr67 {t : Array Value} (h : t.size = 67) : ∃ g : Nat → Value, (∀ i, t.getD i undef = g i) ∧ t = (g 0 :: g 1 :: g 2 :: g 3 :: g 4 :: g 5 :: g 6 :: g 7 :: g 8 :: g 9 :: g 10 :: g 11 :: g 12 :: g 13 :: g 14 :: g 15 :: g 16 :: g 17 :: g 18 :: g 19 :: g 20 :: g 21 :: g 22 :: g 23 :: g 24 :: g 25 :: g 26 :: g 27 :: g 28 :: g 29 :: g 30 :: g 31 :: g 32 :: g 33 :: g 34 :: g 35 :: g 36 :: g 37 :: g 38 :: g 39 :: g 40 :: g 41 :: g 42 :: g 43 :: g 44 :: g 45 :: g 46 :: g 47 :: g 48 :: g 49 :: g 50 :: g 51 :: g 52 :: g 53 :: g 54 :: g 55 :: g 56 :: g 57 :: g 58 :: g 59 :: g 60 :: g 61 :: g 62 :: g 63 :: g 64 :: g 65 :: g 66 :: []).toArray := ⟨fun i => t.getD i undef, fun _ => rfl, (tmps_eq h).trans rfl⟩
def strSize : Value → Nat
  | .string s => s.size
  | _ => 0
set_option maxRecDepth 100000 in
set_option maxHeartbeats 4000000 in
/-- lay. -/
theorem lay_any {w : World} {x : Nat} {S : Int → Nd} (h : isD Tryz.prog (.st (.ino S)) x w) {n : Int} (hn : 1 ≤ n ∧ n ≤ 4096) (hk : (S n).kind ≠ 0) {a : Nat} {s : ByteArray} (hs : a + s.size ≤ (S n).bytes.length) {st : Int} (hst : 0 ≤ st ∧ st ≤ 18446744073709551615) :
    Acts Tryz.prog 36 x [.int .i64 n, .int .i64 a, .string s, .int .u64 st] w fun u d => d = .st (.ino (updS S n (layN (S n) a s.data.toList st))) ∧ u = .int .i64 0 := by
  have hl := ba_size s
  unfold Acts
  go_enter Tryz.func36, Tryz.ntmps36
  go_wp2_with fail
  rename_i K hK
  have HK : Aside _ := hK
  clear hK
  refine wp_loop (fun act wr => ∃ k, k ≤ s.size ∧ act.tmps.size = 67 ∧ act.defers = [] ∧ act.tmps.getD 0 undef = .pointer (some ⟨x, 0, none⟩) ∧ act.tmps.getD 1 undef = .int .i64 n ∧ act.tmps.getD 2 undef = .int .i64 (a + k : Nat) ∧ act.tmps.getD 3 undef = .string (s.extract k s.size) ∧ act.tmps.getD 4 undef = .int .u64 st ∧
      isD Tryz.prog (.st (.ino (updS S n (layN (S n) a (s.data.toList.take k) st)))) x wr ∧ (∀ j, ownD Tryz.prog x wr j → ownD Tryz.prog x w j ∨ w.heap.size ≤ j) ∧ But (ownD Tryz.prog x w) w wr)
    (fun act _ => strSize (act.tmps.getD 3 undef)) ⟨0, Nat.zero_le _, rfl, rfl, rfl, rfl, rfl, ?_, rfl, ?_, fun j hj => .inl hj, But.refl _ _⟩ ?_
  · show Value.string s = _
    congr 1
    apply ByteArray.ext
    apply Array.toList_inj.1
    rw [ba_sub, List.drop_zero, Nat.sub_zero, ← hl, List.take_length]
  · have e : updS S n (layN (S n) a (s.data.toList.take 0) st) = S := by
      funext j
      unfold updS layN
      split
      · rename_i e; rw [e, List.take_zero, if_pos rfl]
      · rfl
    rw [e]
    exact h
  rintro act wr ⟨k, hks, hsz, hdf, t0, t1, t2, t3, t4, his, hown, hbut⟩
  have hkl : (s.extract k s.size).data.toList = s.data.toList.drop k := by
    rw [ba_sub, ← hl, List.take_of_length_le]
    rw [List.length_drop]
    exact Nat.le_refl _
  have hks2 : (s.extract k s.size).size = s.size - k := by
    have := ba_size (s.extract k s.size)
    rw [hkl, List.length_drop] at this
    omega
  have hbl : (overB (S n).bytes a (s.data.toList.take k)).length = (S n).bytes.length := overB_length (by rw [List.length_take]; omega)
  refine lay_round (a := a + k) (s := s.extract k s.size) his hn (by rw [updS_at, layN_kind]; exact hk) (by rw [updS_at, layN_bytes, hbl]; omega) hst t0 t1 t2 t3 t4 (by omega) _ (fun h0 a' w' hsz' hdf' h1 h2 h3 => ?_) fun hp m b hm hb a' w' hsz' hdf' u0 u1 u2 u3 u4 h1 h2 h3 => ?_
  · have hke : k = s.size := by omega
    subst hke
    rw [← hl, List.take_length] at h1
    show K a' w'
    refine HK.out _ _ ?_
    obtain ⟨tm4, df4⟩ := a'
    have hdf4 : df4 = [] := hdf'.trans hdf
    subst hdf4
    obtain ⟨g4, hg4, hte4⟩ := arr67 (t := tm4) (hsz'.trans hsz)
    subst hte4
    clear hg4 HK
    go_wp2_with fail
    go_ret
    refine ⟨_, _, rfl, ⟨rfl, rfl⟩, h1, fun j hj => ?_, ?_⟩
    · rcases h2 j hj with h4 | h4
      · exact hown j h4
      · exact .inr (Nat.le_trans hbut.size h4)
    · exact hbut.trans (h3.mono fun j hj ho => (hown j ho).imp id fun h => ⟨h, hj⟩)
  · rw [hks2] at hm hp
    rw [updS_at, layN_bytes] at hb
    rw [updS_two, updS_at, hkl, layN_next (by omega) (by omega) (by omega) (by rw [hl]; exact hm) hb] at h1
    refine And.intro ⟨k + m, by omega, hsz'.trans hsz, hdf'.trans hdf, u0, u1, by rw [u2, Nat.add_assoc], ?_, u4, h1, fun j hj => ?_, ?_⟩ ?_
    · rw [u3]
      congr 1
      apply ByteArray.ext
      apply Array.toList_inj.1
      rw [ba_sub, hkl, hks2, ba_sub, List.drop_drop]
      congr 1
      omega
    · rcases h2 j hj with h4 | h4
      · exact hown j h4
      · exact .inr (Nat.le_trans hbut.size h4)
    · exact hbut.trans (h3.mono fun j hj ho => (hown j ho).imp id fun h => ⟨h, hj⟩)
    · rw [u3, t3]
      show ((s.extract k s.size).extract m (s.extract k s.size).size).size < (s.extract k s.size).size
      have e := ba_size ((s.extract k s.size).extract m (s.extract k s.size).size)
      rw [ba_sub, List.length_take, List.length_drop, hkl, List.length_drop, hl] at e
      simp only [hks2] at e ⊢
      omega
end Go.Proofs.YtcnimekhpnejlaaGreat.Ev

/- block.Join: the first bytes of blocks. -/
namespace Go.Proofs.YtcnimekhpnejlaaGreat.Ev
open Go Go.RowKit
set_option linter.unusedVariables false
set_option linter.unusedSimpArgs false
set_option maxRecDepth 100000

theorem info_u8 : (Tryz.prog.info? 5).map (fun i => (i.zero, i.size, i.bytes)) = some (some (.int .u8 0), 1, 1) := by kernel_rfl
theorem info_blk : (Tryz.prog.info? 116).map (fun i => (i.zero, i.size, i.bytes)) = some (some (elBlk.val (zeros 256)), 256, 256) := by kernel_rfl
theorem slice_hi (g off m : Nat) (hm : m ≤ 256) (W : World) : (Instr.sliceAt 116 (.pointer (some ⟨g, off, none⟩)) none (some (.int .i64 m)) none).run Tryz.prog W = .ok (.slice (some ⟨g, off, none⟩) m 256) W := by
  have hal : Tryz.prog.arrayLen 116 = 256 := by kernel_rfl
  have hu : Tryz.prog.underlying 116 = some (.array (Tryz.prog.arrayLen 116) (Tryz.prog.elem 116)) := by kernel_rfl
  have h1 : (Go.sizeOf (Tryz.prog.elem 116)).run Tryz.prog W = .ok 1 W := by kernel_rfl
  rw [run_sliceAt_array_h W 116 ⟨g, off, none⟩ hu .i64 m (by omega) (by rw [hal]; omega), h1]
  simp only [Result.andThen_ok, slicedAt, hal, Int.toNat_natCast]
  rw [if_neg (by decide)]
  simp [Addr.add]
theorem conv_own {W : World} {B j : Nat} {v : Value} {l : List UInt8} (h : W.ownsRow B 5 1 v j (l.map byteV)) : (convert 93 9 v).run Tryz.prog W = .ok (.string ⟨l.toArray⟩) W := by
  obtain ⟨hl, h⟩ := h
  rw [List.length_map, Nat.mul_one] at hl
  rcases h with ⟨rfl, rfl⟩ | ⟨g, cap, cur, rfl, _, hg, _, _, _, ht⟩
  · have : l = [] := List.eq_nil_of_length_eq_zero hl
    subst this
    exact run_convert_bytes_nil W 93 5 Tryz.underlying93 Tryz.underlying5 0 0 9 Tryz.underlying9
  · have := run_convert_bytes_arg W 93 5 Tryz.underlying93 Tryz.underlying5 g 0 j cap (l.map fun b => (b.toNat : Int)) (by rw [List.length_map]; exact hl) (fun i hi => by
      have hb : (l.map byteV)[i]? = some (byteV (l[i]'(by omega))) := by rw [List.getElem?_map, List.getElem?_eq_getElem (by omega)]; rfl
      rw [← ht, List.getElem?_take_of_lt (by omega), Array.getElem?_toList] at hb
      simp only [World.cell?, hg, Nat.zero_add]
      rw [hb]
      simp [byteV, List.getD_eq_getElem?_getD, List.getElem?_map, List.getElem?_eq_getElem (show i < l.length by omega)]) 9 Tryz.underlying9
    rw [this]
    congr 2
    apply ByteArray.ext
    apply Array.toList_inj.1
    show (strOfNums _).data.toList = l
    rw [strOfNums_data, List.map_map]
    conv => rhs; rw [← List.map_id l]
    exact List.map_congr_left (fun b _ => by simp)

theorem own_shape {W : World} {B j sz : Nat} {e : TypeId} {v : Value} {xs : List Value} (h : W.ownsRow B e sz v j xs) : ∃ A c, v = .slice A j c := by
  rcases h.2 with ⟨rfl, rfl⟩ | ⟨g, cap, cur, rfl, _⟩
  · exact ⟨_, _, rfl⟩
  · exact ⟨_, _, rfl⟩
theorem own_below {w W W' : World} {e : TypeId} {sz j : Nat} {v : Value} {xs : List Value} (h : W.ownsRow w.heap.size e sz v j xs) (hb : Below w.heap.size w W) (hg : W.grownBy W' v.ownBlock) : Below w.heap.size w W' :=
  ⟨hg.os.trans hb.os, hg.tape.trans hb.tape, hg.output.trans hb.output, Nat.le_trans hb.size hg.size, fun k hk => by
    rw [← hb.block k hk]
    refine hg.block k (Nat.lt_of_lt_of_le hk hb.size) fun e => ?_
    have := (h.lt k e.symm).1
    omega⟩
set_option maxHeartbeats 4000000 in
theorem join_any (g k cap n : Nat) (cur : Array Value) (D : List UInt8) (hD : D.length = 256 * k) (hcur : cur.toList.take (256 * k) = D.map byteV) (hn : n ≤ 256 * k) (hk : k ≤ 4097) (w : World) (hg : w.heap[g]? = some (.cells cur 116 (0, 0))) :
    Calls Tryz.prog 64 #[.slice (some ⟨g, 0, none⟩) k cap, .int .i64 n] w fun e w' => e = .returned (.tuple #[.string ⟨(D.take n).toArray⟩, .int .i64 0]) ∧ Below w.heap.size w w' := by
  have hgl : g < w.heap.size := (Array.getElem?_eq_some_iff.1 hg).1
  obtain ⟨iu, hiu, hiu2⟩ := Option.map_eq_some_iff.1 info_u8
  have hz0 : iu.zero = some (.int .u8 0) := congrArg (·.1) hiu2
  have hz1 : iu.size = 1 := congrArg (·.2.1) hiu2
  have hz2 : iu.bytes = 1 := congrArg (·.2.2) hiu2
  have hd0 : decide ((n : Int) < 0) = false := decide_eq_false (by omega)
  have hw : wrap64 ((k : Int) * 256) = k * 256 := by unfold wrap64; omega
  have hd1 : decide ((k : Int) * 256 < (n : Int)) = false := decide_eq_false (by omega)
  go_enter Tryz.func64, Tryz.ntmps64
  go_wp2_with (first
    | (refine wpList_make_own _ rfl (.const (.int .i64 0)) (.tmp 17) 93 rfl w.heap.size 5 iu (.int .u8 0) 1 Tryz.underlying93 hiu hz0 hz1 .i64 .i64 n n rfl rfl rfl (by rw [hz2]; omega) (by show n ≤ maxLen; unfold maxLen; omega) (Nat.le_refl _) ?_; intro w1 hown1 hgr1))
  have hb1 : Below w.heap.size w w1 := ⟨hgr1.os, hgr1.tape, hgr1.output, hgr1.size, fun k hk => hgr1.block k hk (by simp)⟩
  clear hgr1
  go_loopw [6, 21] (fun vo vi wr => ∃ (i j c : Nat) (A : Option Addr), vi = .int .i64 i ∧ vo = .slice A j c ∧ i ≤ k ∧ j = min (256 * i) n ∧ wr.ownsRow w.heap.size 5 1 vo j ((D.take j).map byteV) ∧ Below w.heap.size w wr)
    (fun _ vi _ => k - (intOf vi).toNat)
  case atStart => exact ⟨0, 0, n, _, rfl, rfl, Nat.zero_le _, by omega, hown1, hb1⟩
  case round =>
    clear hown1 hb1
    clear w1
    obtain ⟨i, j, c, A, rfl, rfl, hik, hj, hown, hb⟩ := hrel
    by_cases hlt : i < k
    · have hd2 : decide ((i : Int) < (k : Int)) = true := decide_eq_true (by omega)
      have hw2 : wrap64 ((n : Int) - (j : Int)) = n - j := by unfold wrap64; omega
      have hgr : wr.heap[g]? = some (.cells cur 116 (0, 0)) := (hb.block g hgl).trans hg
      have hlt2 : (i : Int) < (k : Int) := by omega
      have hsl : j ≤ n → n - j ≤ 256 → ∀ W, (Instr.sliceAt 116 (.pointer (some ⟨g, i * 256, none⟩)) none (some (.int .i64 ((n : Int) - (j : Int)))) none).run Tryz.prog W = .ok (.slice (some ⟨g, i * 256, none⟩) (n - j) 256) W := fun h1 h2 W => by
        rw [show ((n : Int) - (j : Int)) = ((n - j : Nat) : Int) by omega]
        exact slice_hi g (i * 256) (n - j) h2 W
      have cell : ∀ m, m ≤ 256 → 256 * i + m ≤ 256 * k → ∀ (q : Nat) u, (((D.drop (256 * i)).take m).map byteV)[q]? = some u → wr.cell? ((⟨g, i * 256, none⟩ : Addr).add q) = some u := fun m h1 h2 q u hu => by
        have hq : q < m := by
          have := (List.getElem?_eq_some_iff.1 hu).1
          rw [List.length_map, List.length_take] at this
          omega
        rw [add_eq]
        simp only [World.cell?, hgr]
        rw [List.getElem?_map, List.getElem?_take_of_lt hq, List.getElem?_drop] at hu
        have h3 : (D.map byteV)[256 * i + q]? = some u := by rw [List.getElem?_map]; exact hu
        rw [← hcur, List.getElem?_take_of_lt (by omega), Array.getElem?_toList] at h3
        rw [← h3, Nat.mul_comm]
        simp
      have one : ∀ m, ∀ u ∈ ((D.drop (256 * i)).take m).map byteV, u.oneCell' = true := fun m u hu => by
        obtain ⟨b, _, rfl⟩ := List.mem_map.1 hu
        rfl
      have len : ∀ m, 256 * i + m ≤ 256 * k → (((D.drop (256 * i)).take m).map byteV).length = m * 1 := fun m hm => by
        rw [List.length_map, List.length_take, List.length_drop, hD]
        omega
      have next : ∀ m, m = min 256 (n - j) → (D.take j).map byteV ++ ((D.drop (256 * i)).take m).map byteV = (D.take (min (256 * (i + 1)) n)).map byteV := fun m hm => by
        rw [← List.map_append]
        congr 1
        by_cases h : 256 * i ≤ n
        · rw [show j = 256 * i by omega, ← List.take_add, show 256 * i + m = min (256 * (i + 1)) n by omega]
        · rw [show m = 0 by omega, List.take_zero, List.append_nil, show j = min (256 * (i + 1)) n by omega]
      have HJ : Hid (j = min (256 * i) n) := hj
      have HC : Aside _ := cell
      have HO : Aside _ := one
      have HL : Aside _ := len
      have HN : Aside _ := next
      have hjn : j ≤ n := by omega
      have base : wr.heap.size ≥ w.heap.size := hb.size
      have HB : Aside _ := hb
      have HOW : Aside _ := hown
      clear hj cell one len next hb hown
      by_cases hx : (n : Int) - (j : Int) < 256
      · have hsl := hsl hjn (by omega)
        have e2 : j + (n - j) = min (256 * (i + 1)) n := by have := HJ.out; omega
        have E2 : Hid _ := e2
        clear e2
        go_wp2_with (at_builtin; refine wpList_append_own _ rfl (.tmp 24) (.tmp 33) 93 rfl w.heap.size 5 iu (.int .u8 0) 1 1 Tryz.underlying93 hiu hz0 hz1 hz2 rfl (by decide) (.slice A j c) j _ rfl HOW.out ⟨g, i * 256, none⟩ (n - j) 256 _ rfl (HL.out (n - j) (by have := HJ.out; omega)) (HC.out (n - j) (by omega) (by have := HJ.out; omega)) (HO.out _) (by show _ ≤ maxLen; unfold maxLen; omega) (by omega) base ?_; intro v2 w2 hown2 hgr2 _)
        case roundEnd =>
          obtain ⟨A2, c2, rfl⟩ := own_shape hown2
          rw [HN.out (n - j) (by omega), ← E2.out] at hown2
          exact ⟨⟨i + 1, _, c2, A2, by push_cast; rfl, rfl, by omega, E2.out, hown2, own_below HOW.out HB.out hgr2⟩, by simp [intOf]; omega⟩
      · have e2 : j + 256 = min (256 * (i + 1)) n := by have := HJ.out; omega
        have E2 : Hid _ := e2
        clear e2 hsl
        go_wp2_with (at_builtin; refine wpList_append_own _ rfl (.tmp 24) (.tmp 33) 93 rfl w.heap.size 5 iu (.int .u8 0) 1 1 Tryz.underlying93 hiu hz0 hz1 hz2 rfl (by decide) (.slice A j c) j _ rfl HOW.out ⟨g, i * 256, none⟩ 256 256 _ rfl (HL.out 256 (by have := HJ.out; omega)) (HC.out 256 (by omega) (by have := HJ.out; omega)) (HO.out _) (by show _ ≤ maxLen; unfold maxLen; omega) (by omega) base ?_; intro v2 w2 hown2 hgr2 _)
        case roundEnd =>
          obtain ⟨A2, c2, rfl⟩ := own_shape hown2
          rw [HN.out 256 (by omega), ← E2.out] at hown2
          exact ⟨⟨i + 1, _, c2, A2, by push_cast; rfl, rfl, by omega, E2.out, hown2, own_below HOW.out HB.out hgr2⟩, by simp [intOf]; omega⟩
    · have hd2 : decide ((i : Int) < (k : Int)) = false := decide_eq_false (by omega)
      have hke : i = k := by omega
      have hjn : j = n := by omega
      subst hjn
      have hcv := conv_own hown
      have HB : Aside _ := hb
      clear hj hown hb
      go_wp2_with fail
      go_ret2
      exact ⟨rfl, HB.out⟩
end Go.Proofs.YtcnimekhpnejlaaGreat.Ev

/- bytes of files: leaves that are joined. -/
namespace Go.Proofs.YtcnimekhpnejlaaGreat.Ev
open Go Go.RowKit
set_option linter.unusedVariables false
set_option linter.unusedSimpArgs false
set_option maxRecDepth 100000

/-- What inodes own is no row of blocks. -/
theorem own_blk {w : World} {x : Nat} {S : Int → Nd} (h : isD Tryz.prog (.st (.ino S)) x w) {k : Nat} (hk : ownD Tryz.prog x w k) {cs : Array Value} {fr : Nat × Nat} : w.heap[k]? ≠ some (.cells cs 116 fr) := fun e => by
  obtain ⟨m, L, hI⟩ := h
  have ht : tagOf w k = 116 + 1 := by unfold tagOf; rw [e]
  rcases (ownD_ino hI k).1 hk with rfl | rfl | ⟨n, t, hn, hk⟩
  · exact ne_tag hI.tag_x ht (by decide) rfl
  · exact ne_tag hI.tag_m ht (by decide) rfl
  · obtain ⟨t1, t2, t3⟩ := hI.tag_t hn
    rcases hk with rfl | rfl | rfl
    · exact ne_tag t1 ht (by decide) rfl
    · exact ne_tag t2 ht (by decide) rfl
    · exact ne_tag t3 ht (by decide) rfl
/-- Inodes that are as they were. -/
structure Keeps (S : Int → Nd) (x : Nat) (w wr : World) : Prop where
  is : isD Tryz.prog (.st (.ino S)) x wr
  own : ∀ k, ownD Tryz.prog x wr k → ownD Tryz.prog x w k ∨ w.heap.size ≤ k
  but : But (ownD Tryz.prog x w) w wr
theorem Keeps.acts {S S' : Int → Nd} {x : Nat} {w wr w2 : World} (h : Keeps S x w wr) (h1 : isD Tryz.prog (.st (.ino S')) x w2) (h2 : ∀ k, ownD Tryz.prog x w2 k → ownD Tryz.prog x wr k ∨ wr.heap.size ≤ k) (h3 : But (ownD Tryz.prog x wr) wr w2) : Keeps S' x w w2 :=
  ⟨h1, fun j hj => by
    rcases h2 j hj with h4 | h4
    · exact h.own j h4
    · exact .inr (Nat.le_trans h.but.size h4), h.but.trans (h3.mono fun j hj ho => (h.own j ho).imp id fun h => ⟨h, hj⟩)⟩
theorem Keeps.same {S : Int → Nd} {x : Nat} {w wr w2 : World} (h : Keeps S x w wr) (hs : ∀ k, ownD Tryz.prog x wr k → w2.heap[k]? = wr.heap[k]?) (hb : But (fun k => w.heap.size ≤ k) wr w2) : Keeps S x w w2 := by
  have h2 := isD_keep h.is hs
  refine ⟨h2.1, fun k hk => h.own k ((h2.2 k).1 hk), hb.os.trans h.but.os, hb.tape.trans h.but.tape, hb.output.trans h.but.output, Nat.le_trans h.but.size hb.size, fun k hk hn => ?_⟩
  rw [← h.but.block k hk hn]
  exact hb.block k (Nat.lt_of_lt_of_le hk h.but.size) (by omega)
theorem Keeps.below {S : Int → Nd} {x : Nat} {w wr w2 : World} (h : Keeps S x w wr) (hb : Below wr.heap.size wr w2) : Keeps S x w w2 :=
  h.same (fun k hk => hb.block k (ownD_lt hk)) (.new hb)

theorem lit_blk {C : Array Value} (hC : C.size = 256) (W : World) : (Instr.buildSlice 120 1 #[(0, .agg C)]).run Tryz.prog W = .ok (.slice (some ⟨W.heap.size, 0, none⟩) 1 1) (W.alloc (.cells C 116)) := by
  obtain ⟨ib, hib, hib2⟩ := Option.map_eq_some_iff.1 info_blk
  have hz0 : ib.zero = some (elBlk.val (zeros 256)) := congrArg (·.1) hib2
  have hz1 : ib.size = 256 := congrArg (·.2.1) hib2
  refine run_buildSlice W 120 116 1 _ C ib _ Tryz.underlying120 hib hz0 (by rw [hz1]; decide) (by rw [hz1]; decide) ?_
  rw [hz1]
  have h := Go.Great.fill_whole (s := 256) (by decide) [Value.agg C] ((Array.range (1 * 256)).map ((elBlk.val (zeros 256)).cells[· % (elBlk.val (zeros 256)).cells.size]!)) (fun v hv => by
    obtain rfl := List.mem_singleton.1 hv
    exact hC) (by simp)
  have e : ([Value.agg C].flatMap fun v => v.cells.toList).toArray = C := by simp [Value.cells]
  rw [e] at h
  exact h
theorem wp_lit {o : Oper} {a : Act} {w : World} {K : Act → World → Prop} {Q : Exit → Act → World → Prop} {C : Array Value} (hC : C.size = 256) (x : Operand) (ho : o.op = .buildSlice 120 1 #[(0, x)]) (hx : a.eval x = .agg C)
    (h : K (a.put o.dst (.slice (some ⟨w.heap.size, 0, none⟩) 1 1)) (w.alloc (.cells C 116))) : o.wp Tryz.prog a w K Q := by
  unfold Oper.wp execOp
  have e : (#[(0, x)].map fun (i, x) => (i, a.eval x)) = #[(0, Value.agg C)] := by simp [hx]
  simp only [ho, Sem.run_bind, e, lit_blk hC w, Result.andThen_ok]
  exact h
set_option maxHeartbeats 4000000 in
/-- bytes. -/
theorem bytes_any {w : World} {x : Nat} {S : Int → Nd} (h : isD Tryz.prog (.st (.ino S)) x w) {n : Int} (hn : 1 ≤ n ∧ n ≤ 4096) (hk : (S n).kind ≠ 0) {a b : Int} (ha : 0 ≤ a) (hb : b ≤ 1048576) :
    Acts Tryz.prog 37 x [.int .i64 n, .int .i64 a, .int .i64 b] w fun u d => d = .st (.ino S) ∧ u = .tuple #[.string ⟨(rdB (S n).bytes a.toNat b.toNat).toArray⟩, .int .i64 0] := by
  have hsz : (S n).bytes.length ≤ 1048576 := by
    obtain ⟨m, L, hI⟩ := h
    exact (hI.ok n).size
  unfold Acts
  by_cases hab : b ≤ a
  · have hd : decide (b ≤ a) = true := decide_eq_true hab
    rw [rdB_none (show b.toNat ≤ a.toNat by omega)]
    go_enter Tryz.func37, Tryz.ntmps37
    go_wp2_with fail
    go_ret2
    exact ⟨_, _, rfl, ⟨rfl, rfl⟩, h, fun k hk => .inl hk, But.refl _ _⟩
  obtain ⟨a, rfl⟩ : ∃ a' : Nat, a = a' := ⟨a.toNat, by omega⟩
  obtain ⟨b, rfl⟩ : ∃ b' : Nat, b = b' := ⟨b.toNat, by omega⟩
  have hab : a < b := by omega
  have hd : decide ((b : Int) ≤ (a : Int)) = false := decide_eq_false (by omega)
  have hq : ((a : Int)).tdiv 256 = (a / 256 : Nat) := by rw [Int.tdiv_eq_ediv_of_nonneg (by omega)]; omega
  have hwq : wrap64 ((a / 256 : Nat) : Int) = (a / 256 : Nat) := by unfold wrap64; omega
  obtain ⟨f, hf⟩ : ∃ f, a / 256 = f := ⟨_, rfl⟩
  rw [hf] at hq hwq
  rw [Int.toNat_natCast, Int.toNat_natCast]
  obtain ⟨ib, hib, hib2⟩ := Option.map_eq_some_iff.1 info_blk
  have hz0 : ib.zero = some (elBlk.val (zeros 256)) := congrArg (·.1) hib2
  have hz1 : ib.size = 256 := congrArg (·.2.1) hib2
  have hz2 : ib.bytes = 256 := congrArg (·.2.2) hib2
  go_enter Tryz.func37, Tryz.ntmps37
  go_wp2_with fail
  have hLeaf : ∀ (p : Nat), p < 4096 → ∀ wr, Keeps S x w wr → Calls Tryz.prog 52 #[.pointer (some ⟨x, 0, none⟩), .int .i64 n, .int .i64 p] wr fun e w2 => e = .returned (.tuple #[.agg (cellsB (leafOf (S n).bytes p)), .int .i64 0]) ∧ Keeps S x w w2 ∧ But (ownD Tryz.prog x wr) wr w2 := fun p hp wr hK => by
    refine Calls.mono (ino_leaf hK.is (n := n) (p := p) (by unfold i64; omega) (by unfold i64; omega)) ?_
    rintro e w2 ⟨u, d, rfl, ⟨rfl, rfl⟩, h1, h2, h3⟩
    refine ⟨?_, hK.acts h1 h2 h3, h3⟩
    unfold leafV
    rw [if_neg (by omega), if_neg (by omega), if_neg hk, Int.toNat_natCast]
    rfl
  have HLf : Aside _ := hLeaf
  clear hLeaf
  have hz : ∀ w, (zeroValue 116).run Tryz.prog w = .ok (.agg (cellsB (zeros 256))) w := fun w => zero_blk w
  have hZs : (cellsB (zeros 256)).size = 256 := cellsB_size _
  generalize cellsB (zeros 256) = Z at *
  go_loopw [10, 12] (fun vl vp wr => ∃ (q c : Nat) (A : Option Addr), vp = .int .i64 (f + q : Nat) ∧ vl = .slice A q c ∧ 256 * (f + q) < b + 256 ∧ wr.ownsRow w.heap.size 116 256 vl q ((leavesCat (S n).bytes f q).map byteV) ∧ Keeps S x w wr)
    (fun _ vp _ => 4097 - (intOf vp).toNat)
  case atStart => exact ⟨0, 0, none, rfl, rfl, by omega, World.ownsRow_nil _ _ _ _, ⟨h, fun k hk => .inl hk, But.refl _ _⟩⟩
  case round =>
    obtain ⟨q, c, A, rfl, rfl, hqb, hown, hK⟩ := hrel
    have hmul : wrap64 ((f + q : Nat) * (256 : Int)) = ((f + q) * 256 : Nat) := by unfold wrap64; omega
    by_cases hlt : 256 * (f + q) < b
    · have hd2 : decide ((((f + q) * 256 : Nat) : Int) < (b : Int)) = true := decide_eq_true (by omega)
      have hC1 := cellsB_one (leafOf (S n).bytes (f + q))
      have hCs : (cellsB (leafOf (S n).bytes (f + q))).size = 256 := (cellsB_size _).trans (leafOf_length _ _)
      have hcall := HLf.out (f + q) (by omega) wr hK
      have hCl : Hid ((cellsB (leafOf (S n).bytes (f + q))).toList = (leafOf (S n).bytes (f + q)).map byteV) := by unfold cellsB; rfl
      generalize cellsB (leafOf (S n).bytes (f + q)) = C at *
      have hkeep : ∀ w2 : World, ∃ wS, (storeCells ⟨w2.heap.size, 0, none⟩ C.toList).run Tryz.prog (w2.alloc (Obj.cells Z 116)) = .ok () wS ∧ wS.heap[w2.heap.size]? = some (.cells C 116 (0, 0)) ∧ Below w2.heap.size w2 wS := fun w2 => by
        have hg0 : (w2.alloc (Obj.cells Z 116)).heap[w2.heap.size]? = some (.cells Z 116 (0, 0)) := alloc_new w2 _
        exact ⟨_, store_blk w2.heap.size Z C _ hg0 (by omega) hC1, setRow_heap _ _ Z C 116 (0, 0) hg0, below_setRow ((Below.refl _ _).alloc (Nat.le_refl _) _) (Nat.le_refl _) _⟩
      have HC : Aside _ := hcall
      have HKp : Aside _ := hkeep
      have HOW : Aside _ := hown
      clear hcall hkeep hown
      go_wp2_with (go_at_call 52; refine Calls.mono HC.out ?_; rintro e w2 ⟨rfl, hK2, hB2⟩; obtain ⟨wS, hst, hgS, hbS⟩ := HKp.out w2)
      have HST : Aside _ := hst
      refine wp_load_row 116 _ rfl w2.heap.size rfl 116 C (0, 0) _ hgS Tryz.underlying116 rfl (by rw [hCs]; exact iblk) ?_
      go_wp2_with fail
      refine wp_lit hCs (.tmp 40) rfl rfl ?_
      go_wp2_with fail
      have HOS : Aside (wS.ownsRow w.heap.size 116 256 (.slice A q c) q ((leavesCat (S n).bytes f q).map byteV)) := by
        obtain ⟨hxl, hrow⟩ := HOW.out
        refine ⟨hxl, ?_⟩
        rcases hrow with h1 | ⟨g, cap, cur, hv, hg0, hg, r⟩
        · exact .inl h1
        · refine .inr ⟨g, cap, cur, hv, hg0, ?_, r⟩
          have hgl : g < wr.heap.size := (Array.getElem?_eq_some_iff.1 hg).1
          rw [hbS.block g (Nat.lt_of_lt_of_le hgl hB2.size), hB2.block g hgl fun ho => own_blk hK.is ho hg]
          exact hg
      have HKS : Aside (Keeps S x w wS) := hK2.below hbS
      have hbase : w.heap.size ≤ wS.heap.size := HKS.out.but.size
      have hnews : ∀ (j : Nat) u, ((leafOf (S n).bytes (f + q)).map byteV)[j]? = some u → (wS.alloc (Obj.cells C 116)).cell? ((⟨wS.heap.size, 0, none⟩ : Addr).add j) = some u := fun j u hu => by
        have h0 : (wS.alloc (Obj.cells C 116)).heap[wS.heap.size]? = some (.cells C 116 (0, 0)) := alloc_new wS _
        rw [add_eq, Nat.zero_add]
        simp only [World.cell?, h0]
        rw [← Array.getElem?_toList, hCl.out]
        simpa using hu
      refine wp_append_own _ (.tmp 39) (.tmp 41) 120 rfl w.heap.size 116 ib (elBlk.val (zeros 256)) 256 256 Tryz.underlying120 hib hz0 hz1 hz2 (cellsB_size (zeros 256)) (by decide) (.slice A q c) q _ (by rfl) (HOS.out.alloc _) ⟨wS.heap.size, 0, none⟩ 1 1 ((leafOf (S n).bytes (f + q)).map byteV) (by rfl) (by rw [List.length_map, leafOf_length]) hnews (fun u hu => by obtain ⟨b, _, rfl⟩ := List.mem_map.1 hu; rfl) (by show _ ≤ maxLen; unfold maxLen; omega) (by omega) (by simp; omega) ?_
      intro v5 w5 hown5 hgr5 _
      go_wp2_with fail
      obtain ⟨A2, c2, rfl⟩ := own_shape hown5
      rw [← List.map_append] at hown5
      have hal : ∀ k, k < wS.heap.size → (wS.alloc (Obj.cells C 116)).heap[k]? = wS.heap[k]? := fun k hk => Below.heap_alloc _ _ _ hk
      have hro : ∀ k, (Value.slice A q c).ownBlock = some k → w.heap.size ≤ k ∧ ∃ cs, wS.heap[k]? = some (.cells cs 116 (0, 0)) := fun k hk => by
        refine ⟨(HOS.out.lt k hk).1, ?_⟩
        obtain ⟨_, hrow⟩ := HOS.out
        rcases hrow with ⟨hv, _⟩ | ⟨g, cap, cur, hv, _, hg, _⟩
        · rw [hv] at hk; cases hk
        · rw [hv] at hk
          obtain rfl := Option.some.inj hk
          exact ⟨cur, hg⟩
      refine ⟨⟨q + 1, c2, A2, by congr 1, rfl, by omega, hown5, HKS.out.same (fun k hk2 => ?_) ⟨hgr5.os, hgr5.tape, hgr5.output, Nat.le_trans (by simp) hgr5.size, fun k hk2 hk3 => ?_⟩⟩, by simp [intOf]; omega⟩
      · have hkl := ownD_lt hk2
        rw [hgr5.block k (by simp; omega) fun e => ?_]
        · exact hal k hkl
        · obtain ⟨_, cs, hcs⟩ := hro k e.symm
          exact own_blk HKS.out.is hk2 hcs
      · rw [hgr5.block k (by simp; omega) fun e => ?_]
        · exact hal k hk2
        · exact hk3 (hro k e.symm).1
    · have hd2 : decide ((((f + q) * 256 : Nat) : Int) < (b : Int)) = false := decide_eq_false (by omega)
      obtain ⟨hxl, hrow⟩ := hown
      rcases hrow with ⟨_, hq0⟩ | ⟨g, cap, cur, hv, hg0, hg, hqc, _, _, hcur⟩
      · omega
      obtain ⟨rfl, rfl⟩ : A = some ⟨g, 0, none⟩ ∧ c = cap := by
        simp only [Value.slice.injEq] at hv
        exact ⟨hv.1, hv.2.2⟩
      clear hv
      have hDl := leavesCat_length (S n).bytes f q
      have hjoin := join_any g q c (b - 256 * f) cur (leavesCat (S n).bytes f q) hDl (by rw [Nat.mul_comm]; exact hcur) (by omega) (by omega) wr hg
      have hrd := leavesCat_rd (bs := (S n).bytes) (a := a) (b := b) (k := q) (by rw [hf]; omega)
      rw [hf] at hrd
      rw [show (((b - 256 * f : Nat)) : Int) = (b : Int) - (f : Int) * 256 by omega] at hjoin
      have HJ : Aside _ := hjoin
      clear hjoin
      have hlenS : ((leavesCat (S n).bytes f q).take (b - 256 * f)).length = b - 256 * f := by rw [List.length_take, hDl]; omega
      have HR : Hid _ := hrd
      have HL : Hid _ := hlenS
      have HK : Aside _ := hK
      clear hrd hlenS hcur hg hxl hDl hK
      generalize (leavesCat (S n).bytes f q).take (b - 256 * f) = T at *
      obtain ⟨tx, htx⟩ : ∃ tx : ByteArray, tx = ⟨T.toArray⟩ := ⟨_, rfl⟩
      rw [← htx] at HJ
      have hts : tx.size = b - 256 * f := by rw [htx]; show T.toArray.size = _; rw [List.size_toArray]; exact HL.out
      have hle : (a : Int) - (f : Int) * 256 ≤ (tx.size : Int) := by omega
      have hge : (0 : Int) ≤ (a : Int) - (f : Int) * 256 := by omega
      have htx2 : Hid (tx = ⟨T.toArray⟩) := htx
      clear htx
      go_wp2_with (go_at_call 64; refine Calls.mono HJ.out ?_; rintro e w2 ⟨rfl, hB2⟩)
      go_ret2
      have hK2 := HK.out.below hB2
      refine ⟨_, _, rfl, ⟨rfl, ?_⟩, hK2.is, hK2.own, hK2.but⟩
      have e1 : tx.extract (a - f * 256) (b - 256 * f) = ⟨(rdB (S n).bytes a b).toArray⟩ := by
        apply ByteArray.ext
        apply Array.toList_inj.1
        have h3 := HR.out
        have h4 : tx.data.toList = T := by rw [htx2.out]
        rw [ba_sub, h4, Nat.mul_comm f 256, h3, List.take_of_length_le]
        have h5 := congrArg List.length h3
        rw [List.length_drop, HL.out] at h5
        omega
      rw [← e1]
      rfl
end Go.Proofs.YtcnimekhpnejlaaGreat.Ev

/- The rules of lay and bytes of files hold. -/
namespace Go.Proofs.YtcnimekhpnejlaaGreat.Ev
open Go Go.RowKit
set_option linter.unusedVariables false
set_option linter.unusedSimpArgs false
set_option maxRecDepth 10000
theorem rFile_lay {v : Nat → D} {o : Nat → Value} {pc : List (X × Bool)} (hpc : Told (rhoI v o) pc) {e : X} {args : List EV} {r : EV × X} (h : rFile pc 36 e args = some r) : AOk Tryz.prog (rhoI v o) 36 e args r.1 r.2 := by
  intro E hρ a w vs his hargs
  unfold rFile at h
  split at h
  · rename_i h57
    obtain ⟨S, he⟩ := told57 hpc h57
    have his2 : isD Tryz.prog (e.val (rhoI v o)) a w := his
    rw [he] at his2
    rw [if_pos rfl] at h
    split at h
    · rename_i y z u t
      obtain ⟨⟨k, n⟩, hn, h⟩ := Option.bind_eq_some_iff.1 h
      obtain ⟨⟨k2, p⟩, hp, h⟩ := Option.bind_eq_some_iff.1 h
      obtain ⟨s, hs, h⟩ := Option.bind_eq_some_iff.1 h
      obtain ⟨⟨k3, st⟩, hst, h⟩ := Option.bind_eq_some_iff.1 h
      split at h
      · rename_i hk
        obtain ⟨hk, hk2, hk3, hu64, c1, c4, c5⟩ := hk
        have hk : k = .i64 := hk
        have hk2 : k2 = .i64 := hk2
        have hk3 : k3 = .u64 := hk3
        subst hk
        subst hk2
        subst hk3
        obtain rfl := Option.some.inj h
        have c1 := of_decide_eq_true (rNum_ok hpc c1).symm
        have c4 : (0 : Int) = if (S (n.int (rhoI v o))).kind = 0 then 151 else 0 := rUsed_ok hpc he c4
        have ck : (S (n.int (rhoI v o))).kind ≠ 0 := fun e2 => by rw [if_pos e2] at c4; cases c4
        have c5 : (FNi 62 (.p (e.val (rhoI v o)) (.p (n.val (rhoI v o)) (.p (p.val (rhoI v o)) (s.val (rhoI v o)))))).bool = true := truL_ok hpc c5
        rw [he] at c5
        have c5 : decide (0 ≤ p.int (rhoI v o) ∧ p.int (rhoI v o) + ((s.str (rhoI v o)).size : Nat) ≤ ((S (n.int (rhoI v o))).bytes.length : Nat)) = true := c5
        have c5 := of_decide_eq_true c5
        match vs, hargs with
        | [u, u2, u3, u4], hargs =>
          have hu : u = .int .i64 (n.int (rhoI v o)) := by rw [← hρ]; exact asI_rel hn hargs.1
          have hu2 : u2 = .int .i64 (p.int (rhoI v o)) := by rw [← hρ]; exact asI_rel hp hargs.2.1
          have hu3 : u3 = .string (s.str (rhoI v o)) := by rw [← hρ]; exact asS_rel hs hargs.2.2.1
          have hu4 : u4 = .int .u64 (st.int (rhoI v o)) := by rw [← hρ]; exact asI_rel hst hargs.2.2.2.1
          subst hu
          subst hu2
          subst hu3
          subst hu4
          have hlay := lay_any his2 (n := n.int (rhoI v o)) (a := (p.int (rhoI v o)).toNat) c1 ck (s := s.str (rhoI v o)) (by omega) (st := st.int (rhoI v o)) (inU64_oki hpc hu64)
          rw [Int.toNat_of_nonneg c5.1] at hlay
          refine acts_aoi hlay fun u d ⟨hd, hu⟩ => ?_
          subst hd
          subst hu
          refine ⟨rfl, ?_⟩
          show _ = FNi 60 (.p (e.val (rhoI v o)) (.p (n.val (rhoI v o)) (.p (p.val (rhoI v o)) (.p (s.val (rhoI v o)) (st.val (rhoI v o))))))
          rw [he]
          rfl
      · cases h
    · cases h
  · cases h
theorem rFile_bytes {v : Nat → D} {o : Nat → Value} {pc : List (X × Bool)} (hpc : Told (rhoI v o) pc) {e : X} {args : List EV} {r : EV × X} (h : rFile pc 37 e args = some r) : AOk Tryz.prog (rhoI v o) 37 e args r.1 r.2 := by
  intro E hρ a w vs his hargs
  unfold rFile at h
  split at h
  · rename_i h57
    obtain ⟨S, he⟩ := told57 hpc h57
    have his2 : isD Tryz.prog (e.val (rhoI v o)) a w := his
    rw [he] at his2
    rw [if_neg (by decide), if_pos rfl] at h
    split at h
    · rename_i y z u
      obtain ⟨⟨k, n⟩, hn, h⟩ := Option.bind_eq_some_iff.1 h
      obtain ⟨⟨k2, p⟩, hp, h⟩ := Option.bind_eq_some_iff.1 h
      obtain ⟨⟨k3, q⟩, hq, h⟩ := Option.bind_eq_some_iff.1 h
      split at h
      · rename_i hk
        obtain ⟨hk, hk2, hk3, c1, c4, c5, c6⟩ := hk
        have hk : k = .i64 := hk
        have hk2 : k2 = .i64 := hk2
        have hk3 : k3 = .i64 := hk3
        subst hk
        subst hk2
        subst hk3
        obtain rfl := Option.some.inj h
        have c1 := of_decide_eq_true (rNum_ok hpc c1).symm
        have c4 : (0 : Int) = if (S (n.int (rhoI v o))).kind = 0 then 151 else 0 := rUsed_ok hpc he c4
        have ck : (S (n.int (rhoI v o))).kind ≠ 0 := fun e2 => by rw [if_pos e2] at c4; cases c4
        have c5 : decide (p.int (rhoI v o) < 0) = false := truL_ok hpc c5
        have c6 : decide (1048576 < q.int (rhoI v o)) = false := truL_ok hpc c6
        have c5 := of_decide_eq_false c5
        have c6 := of_decide_eq_false c6
        match vs, hargs with
        | [u, u2, u3], hargs =>
          have hu : u = .int .i64 (n.int (rhoI v o)) := by rw [← hρ]; exact asI_rel hn hargs.1
          have hu2 : u2 = .int .i64 (p.int (rhoI v o)) := by rw [← hρ]; exact asI_rel hp hargs.2.1
          have hu3 : u3 = .int .i64 (q.int (rhoI v o)) := by rw [← hρ]; exact asI_rel hq hargs.2.2.1
          subst hu
          subst hu2
          subst hu3
          refine acts_aoi (bytes_any his2 (n := n.int (rhoI v o)) c1 ck (a := p.int (rhoI v o)) (b := q.int (rhoI v o)) (by omega) (by omega)) fun u d ⟨hd, hu⟩ => ?_
          subst hd
          subst hu
          refine ⟨tup2_mk ?_ rfl, he.symm⟩
          show _ = Value.string ((E.ρ.f 61 (.p (e.val E.ρ) (.p (n.val E.ρ) (.p (p.val E.ρ) (q.val E.ρ))))).str)
          rw [hρ, he]
          rfl
      · cases h
    · cases h
  · cases h
theorem rFile_ok {v : Nat → D} {o : Nat → Value} {pc : List (X × Bool)} (hpc : Told (rhoI v o) pc) : ∀ g e args r, rFile pc g e args = some r → AOk Tryz.prog (rhoI v o) g e args r.1 r.2 := by
  intro g e args r h
  by_cases h1 : g = 36
  · subst h1; exact rFile_lay hpc h
  by_cases h2 : g = 37
  · subst h2; exact rFile_bytes hpc h
  exfalso
  unfold rFile at h
  split at h
  · first
      | (cases h; done)
      | (rw [if_neg h1, if_neg h2] at h; cases h)
  · cases h
theorem sumFi_ok {v : Nat → D} {o : Nat → Value} {pc : List (X × Bool)} (hpc : Told (rhoI v o) pc) {R : Rules} : CallOk (ctx R (rhoI v o) pc) (sumFi pc) := sumOr_ok (sumA_ok (rIno_ok hpc)) (sumA_ok (rFile_ok hpc))
end Go.Proofs.YtcnimekhpnejlaaGreat.Ev
