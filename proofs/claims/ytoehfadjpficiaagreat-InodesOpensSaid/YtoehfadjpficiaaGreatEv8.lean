/- The evaluator: append, copy, len, min, max. -/
import Derived.Test.YtoehfadjpficiaaGreatEv7
namespace Go.Proofs.YtoehfadjpficiaaGreat.Ev
open Go Go.RowKit
set_option linter.unusedVariables false
set_option linter.unusedSimpArgs false

theorem goes_drawn {E E' : Env} {h h' : T Blk} {nx nx' : Nat} {w w' : World} {k : Nat} (g : Goes E h nx { w with drawn := k } E' h' nx' w') : Goes E h nx w E' h' nx' w' :=
  { ext := g.ext, out := g.out, le := g.le, rel := g.rel, frame := ⟨g.frame.os, g.frame.tape, g.frame.output, g.frame.size, g.frame.block⟩, ids := g.ids, own := g.own }
theorem hrel_heap {E : Env} {h : T Blk} {w w2 : World} (hr : HRel E h w) (hw : w2.heap = w.heap) : HRel E h w2 := ⟨fun i b hb => by rw [hw]; exact hr.at_ i b hb, hr.inj⟩

/-- The way of an append that grows, from what was there and what is new. -/
theorem grow_run {C : Ctx} (hC : C.Ok) {ts : Array TypeId} {A : AppT} (hA : evAppT C ts = some A) {E : Env} {h : T Blk} {nx : Nat} {w : World} (hr : HRel E h w) (hn : E.m nx = none) {ty : TypeId} {base : Option Addr} {len cap n : Nat} {vx : Value}
    (hl : (Builtin.lenOf vx).run C.P w = .ok n w) (hg : cap < len + n) (hcap : Builtin.nextslicecap (len + n) cap * A.ee.bytes ≤ 2 ^ 48) {old new : List SV} {ov nv : List Value} (hov : Rels (SV.rel E) old ov) (hnv : Rels (SV.rel E) new nv) (hol : old.length = len * A.ee.size) (hnl : new.length = n * A.ee.size)
    (ho : ∀ w2 : World, w2.heap = w.heap → (Builtin.firstCells A.ee.size len (.slice base len cap)).run C.P w2 = .ok ov.toArray w2) (hf : ∀ w2 : World, w2.heap = w.heap → (Builtin.firstCells A.ee.size n vx).run C.P w2 = .ok nv.toArray w2) :
    RunsV C.P E h nx w (Builtin.append_ ts ty #[.slice base len cap, vx]) (evGrow h nx A (len + n) (old ++ new)).1 (evGrow h nx A (len + n) (old ++ new)).2.1 (evGrow h nx A (len + n) (old ++ new)).2.2 := by
  obtain ⟨newCap, hc, hrun⟩ := append_grow hC hA (ty := ty) hl hg hcap ho hf
  obtain ⟨t0, t1, e0, e1, h0, h1, g0, g1, hu, hint, g2, hz, hsz0, hb, hzl⟩ := run_appT hC hA
  have hzv : A.ee.zero.cells.size = A.ee.size := by
    have := (AV.cells_rel (litAV_rel (E := E) hz)).length
    rw [Array.length_toList] at this
    omega
  obtain ⟨E', hgo, hrel⟩ := grow_row (C := C) (w := { w with drawn := w.drawn + 1 }) (hrel_heap hr rfl) hn A (hov.app hnv) (by rw [List.length_append, hol, hnl, Nat.add_mul]) hc (rest := Builtin.zeroCells A.ee.zero.cells (newCap - (len + n))) (by simp [Builtin.zeroCells, hzv]) (arr := ov.toArray ++ nv.toArray ++ Builtin.zeroCells A.ee.zero.cells (newCap - (len + n))) (by simp) rfl
  exact ⟨_, _, E', hrun, goes_drawn hgo, hrel⟩

theorem take_all {α : Type} {l : List α} {n : Nat} (h : l.length = n) : l.take n = l := List.take_of_length_le (by omega)

/-- A block of which no cell bears a mark, told as one of which some may. -/
theorem Goes.flag {E E' : Env} {h h1 : T Blk} {nx nx' : Nat} {w w' : World} {j : Nat} {t : TypeId} {o : Option Nat} {c : Cells} (fz : Bool) (g : Goes E h nx w E' (h1.set j (.cells t o c false)) nx' w') : Goes E h nx w E' (h1.set j (.cells t o c fz)) nx' w' := by
  have some_of : ∀ i b, (h1.set j (.cells t o c fz)).get i = some b → ∃ b', (h1.set j (.cells t o c false)).get i = some b' := fun i b hb => by
    rw [T.get_set] at hb ⊢
    by_cases e : i = j
    · rw [if_pos e]; exact ⟨_, rfl⟩
    · rw [if_neg e] at hb ⊢; exact ⟨b, hb⟩
  exact {
    ext := g.ext
    out := g.out
    le := g.le
    frame := g.frame
    rel := ⟨fun i b hb => by
        rw [T.get_set] at hb
        by_cases e : i = j
        · subst e
          rw [if_pos rfl] at hb
          obtain rfl := Option.some.inj hb
          obtain ⟨p, ob, h2, h3, cs, lo, hi, rfl, hc⟩ := g.rel.at_ i (.cells t o c false) (by rw [T.get_set, if_pos rfl])
          exact ⟨p, _, h2, h3, cs, lo, hi, rfl, { hc with fz := fun _ => hc.fz rfl }⟩
        · rw [if_neg e] at hb
          exact g.rel.at_ i b (by rw [T.get_set, if_neg e]; exact hb),
      fun i k b d p q hb hd hp hq e => by
        obtain ⟨b', hb'⟩ := some_of i b hb
        obtain ⟨d', hd'⟩ := some_of k d hd
        exact g.rel.inj i k b' d' p q hb' hd' hp hq e⟩
    ids := fun i b hb => by
      obtain ⟨b', hb'⟩ := some_of i b hb
      exact g.ids i b' hb'
    own := fun i b p hb hp => by
      obtain ⟨b', hb'⟩ := some_of i b hb
      exact g.own i b' p hb' hp }
theorem evAppend_run {C : Ctx} (hC : C.Ok) {E : Env} {h : T Blk} {nx : Nat} {w : World} {ts : Array TypeId} {ty : TypeId} {s x : EV} {vs vx : Value} {r : Res} (he : evAppend C h nx ts s x = some r) (hs : s.rel E vs) (hx : x.rel E vx) :
    Runs C E h nx w (Builtin.append_ ts ty #[vs, vx]) r := by
  intro hr _ hf
  unfold evAppend at he
  replace he := Option.bind_eq_some_iff.1 he
  obtain ⟨A, hA, he⟩ := he
  replace he := Option.bind_eq_some_iff.1 he
  obtain ⟨⟨n, cs⟩, hq, he⟩ := he
  simp only at he
  obtain ⟨hl, hcl, hfc⟩ := evSrc_run (C := C) hq hr hx
  have hnew : ∃ nv : List Value, Rels (SV.rel E) cs nv ∧ ∀ w2 : World, w2.heap = w.heap → (Builtin.firstCells A.ee.size n vx).run C.P w2 = .ok nv.toArray w2 := by
    obtain ⟨nv, h1, h2⟩ := hfc n (Nat.le_refl _)
    rw [take_all hcl] at h1
    exact ⟨nv, h1, h2⟩
  clear hfc
  obtain ⟨nv, hnv, hnr⟩ := hnew
  split at he
  · obtain rfl := hs
    split at he
    · rename_i h0
      subst h0
      obtain rfl := Option.some.inj he
      have hcs0 : cs = [] := List.eq_nil_of_length_eq_zero (by rw [hcl, Nat.zero_mul])
      subst hcs0
      cases nv with
      | cons _ _ => exact hnv.elim
      | nil => exact ⟨_, w, E, append_room hC hA hl (Nat.le_refl _) (hnr w rfl) rfl, Goes.refl hr, rfl⟩
    · split at he
      · rename_i h0 hc
        obtain rfl := Option.some.inj he
        have := grow_run hC hA hr (fresh1 hf) (ty := ty) (base := none) (len := 0) (cap := 0) hl (by omega) (by simpa using hc) (old := []) (ov := []) trivial hnv (by simp) hcl (fun w2 _ => by simp [Builtin.firstCells]) hnr
        simpa using this
      · cases he
  · obtain ⟨a, rfl⟩ := hs
    split at he
    · rename_i h0
      subst h0
      obtain rfl := Option.some.inj he
      have hcs0 : cs = [] := List.eq_nil_of_length_eq_zero (by rw [hcl, Nat.zero_mul])
      subst hcs0
      cases nv with
      | cons _ _ => exact hnv.elim
      | nil => exact ⟨_, w, E, append_room hC hA (base := some a) (news := []) hl (Nat.le_refl _) (hnr w rfl) rfl, Goes.refl hr, a, rfl⟩
    · split at he
      · rename_i h0 hc
        obtain rfl := Option.some.inj he
        have := grow_run hC hA hr (fresh1 hf) (ty := ty) (base := some a) (len := 0) (cap := 0) hl (by omega) (by simpa using hc) (old := []) (ov := []) trivial hnv (by simp) hcl (fun w2 _ => by simp [Builtin.firstCells]; rfl) hnr
        simpa using this
      · cases he
  · split at he
    · rename_i h0
      subst h0
      obtain rfl := Option.some.inj he
      obtain ⟨a, c, rfl⟩ := SV.slz_form hs
      have hcs0 : cs = [] := List.eq_nil_of_length_eq_zero (by rw [hcl, Nat.zero_mul])
      subst hcs0
      cases nv with
      | cons _ _ => exact hnv.elim
      | nil => exact ⟨_, w, E, append_room hC hA (base := some a) (news := []) hl (by omega) (hnr w rfl) rfl, Goes.refl hr, by simpa using hs⟩
    · cases he
  · rename_i i o len c k
    obtain ⟨p, hp, hlc, rfl⟩ := hs
    split at he
    · rename_i t opn cl fz hb
      split at he
      · rename_i hroom
        split at he
        · rename_i hfit
          obtain rfl := Option.some.inj he
          obtain ⟨w', h1, h2⟩ := HRel.run_store (P := C.P) (nx := nx) hr hb hp (o + len * A.ee.size) hnv (by omega)
          refine ⟨_, w', E, append_room hC hA (base := some ⟨p.blk, p.dl + o, none⟩) hl hroom (hnr w rfl) ?_, h2, p, hp, hroom, rfl⟩
          simp only [add_eq]
          rw [Nat.add_assoc]
          exact h1
        · cases he
      · rename_i hroom
        split at he
        · rename_i hfit
          obtain rfl := Option.some.inj he
          obtain ⟨ov, h1, h2, h3⟩ := hr.read hb hp o (len * A.ee.size) hfit.1
          refine grow_run hC hA hr (fresh1 hf) (ty := ty) hl (by omega) hfit.2 h2 hnv (by rw [Cells.list_length]) hcl (fun w2 hw => ?_) hnr
          have h4 := run_loadCells_list (P := C.P) w2 ⟨p.blk, p.dl + o, none⟩ ov (fun j v hv => by
            rw [add_eq]
            have := h3 j v hv
            unfold World.cell? at this ⊢
            rw [hw]
            exact this)
          rw [h1] at h4
          exact h4
        · cases he
    · cases he
  · rename_i i o len k
    obtain ⟨p, hp, hlc, rfl⟩ := hs
    split at he
    · rename_i h0
      subst h0
      obtain rfl := Option.some.inj he
      have hcs0 : cs = [] := List.eq_nil_of_length_eq_zero (by rw [hcl, Nat.zero_mul])
      subst hcs0
      cases nv with
      | cons _ _ => exact hnv.elim
      | nil => exact ⟨_, w, E, append_room hC hA (base := some ⟨p.blk, p.dl + o, none⟩) (news := []) hl (by omega) (hnr w rfl) rfl, Goes.refl hr, p, hp, hlc, rfl⟩
    · rename_i h0
      split at he
      · rename_i t sz cl fz hb
        split at he
        · rename_i hc
          obtain ⟨rfl, rfl, ho, hfit, hcap, hine⟩ := hc
          obtain rfl := Option.some.inj he
          obtain ⟨ov, h1, h2, h3⟩ := hr.read hb hp o (len * A.ee.size) hfit
          have hold : ∀ w2 : World, w2.heap = w.heap → (Builtin.firstCells A.ee.size len (.slice (some ⟨p.blk, p.dl + o, none⟩) len (p.cap - k))).run C.P w2 = .ok ov.toArray w2 := fun w2 hw => by
            have h4 := run_loadCells_list (P := C.P) w2 ⟨p.blk, p.dl + o, none⟩ ov (fun j v hv => by
              rw [add_eq]
              have := h3 j v hv
              unfold World.cell? at this ⊢
              rw [hw]
              exact this)
            rw [h1] at h4
            exact h4
          by_cases hroom : len + n ≤ p.cap - k
          · obtain ⟨ob, hob, cs0, lo, hi, rfl, hcr⟩ := hr.blk hb hp
            have hsize := hcr.room _ rfl
            have hmul : (len + n) * A.ee.size ≤ (p.cap - k) * A.ee.size := Nat.mul_le_mul_right _ hroom
            have hmul2 : (p.cap - k) * A.ee.size + k * A.ee.size = p.cap * A.ee.size := by rw [← Nat.add_mul]; congr 1; omega
            have hmul3 : (len + n) * A.ee.size = len * A.ee.size + n * A.ee.size := Nat.add_mul _ _ _
            have hnl := hnv.length
            have hone : ∀ v ∈ nv, v.oneCell' = true := fun v hv => by
              obtain ⟨j, hj⟩ := List.getElem?_of_mem hv
              have hjl : j < cs.length := by
                have := (List.getElem?_eq_some_iff.1 hj).1
                omega
              obtain ⟨b, hb2, hrel⟩ := hnv.get j cs[j] (List.getElem?_eq_getElem hjl)
              rw [hj] at hb2
              obtain rfl := Option.some.inj hb2
              exact SV.oneCell hrel
            obtain ⟨w', cs', hrun, ht, hg, hs', hget⟩ := run_puts C.P p.blk (p.dl + o + len * A.ee.size) A.el lo hi nv 0 cs0 w hob (by omega) hcr.free hone
            have hrelL := h2.app hnv
            refine ⟨_, w', _, append_room hC hA (base := some ⟨p.blk, p.dl + o, none⟩) hl hroom (hnr w rfl) ?_, Goes.take hr (fresh1 hf) hb hp hine (p' := ⟨p.blk, p.dl + o, p.cap - k⟩) rfl ht hg ⟨cs', lo, hi, rfl, {
              fz := hcr.fz
              free := fun j hj => hcr.free j (by omega)
              room := fun sz hsz => by
                obtain rfl := Option.some.inj hsz
                rw [hs']
                show p.dl + o + (p.cap - k) * A.ee.size ≤ _
                omega
              fits := by
                rw [Cells.ofList_n, List.length_append, Cells.list_length, hcl, hs']
                show p.dl + o + _ ≤ _
                omega
              dl := fun h => by cases h
              get := fun j hj => by
                obtain ⟨_, h5⟩ := Cells.ofList_rel hrelL
                obtain ⟨v, hv, hrel⟩ := h5 j hj
                rw [Cells.ofList_n, List.length_append, Cells.list_length, hcl] at hj
                refine ⟨v, ?_, SV.ext (Env.ext_put (fresh1 hf)) hrel⟩
                show cs'[p.dl + o + j]? = some v
                rw [List.getElem?_toArray] at hv
                rw [hget]
                by_cases hjo : j < len * A.ee.size
                · rw [if_neg (by omega)]
                  rw [List.getElem?_append_left (by omega)] at hv
                  have h6 := h3 j v hv
                  simp only [World.cell?, hob] at h6
                  exact h6
                · rw [if_pos (by omega)]
                  rw [List.getElem?_append_right (by omega), h1] at hv
                  rw [show p.dl + o + j - (p.dl + o + len * A.ee.size + 0) = j - len * A.ee.size by omega]
                  exact hv }⟩, ⟨p.blk, p.dl + o, p.cap - k⟩, Env.put_at _ _ _, by show len + n + 0 ≤ p.cap - k; omega, rfl⟩
            simp only [add_eq]
            exact hrun
          · have hnc := nextcap_le (need := len + n) (old := p.cap - k) (by omega)
            have hcap2 : Builtin.nextslicecap (len + n) (p.cap - k) * A.ee.bytes ≤ 2 ^ 48 := Nat.le_trans (Nat.mul_le_mul_right _ hnc) hcap
            obtain ⟨v', w', E', e1, e2, e3⟩ := grow_run hC hA hr (fresh1 hf) (ty := ty) (base := some ⟨p.blk, p.dl + o, none⟩) hl (by omega) hcap2 h2 hnv (by rw [Cells.list_length]) hcl hold hnr
            refine ⟨v', w', E', e1, Goes.flag fz ?_, e3⟩
            have e4 := e2.drop i
            have hcomm : ∀ j, (((h.del i).set nx (Blk.cells A.el (some A.ee.size) (Cells.ofList (cl.list o (len * A.ee.size) ++ cs)) false))).get j = ((evGrow h nx A (len + n) (cl.list o (len * A.ee.size) ++ cs)).2.1.del i).get j := fun j => by
              simp only [evGrow, T.get_set, T.get_del]
              by_cases e : j = nx
              · rw [if_pos e, if_neg (by omega), if_pos e]
              · rw [if_neg e, if_neg e]
            exact { ext := e4.ext, out := e4.out, le := e4.le, frame := e4.frame, rel := ⟨fun j b hb => e4.rel.at_ j b (by rw [← hcomm]; exact hb), fun j k b c p q hb hc => e4.rel.inj j k b c p q (by rw [← hcomm]; exact hb) (by rw [← hcomm]; exact hc)⟩, ids := fun j b hb => e4.ids j b (by rw [← hcomm]; exact hb), own := fun j b p hb => e4.own j b p (by rw [← hcomm]; exact hb) }
        · cases he
      · cases he
  · cases he

end Go.Proofs.YtoehfadjpficiaaGreat.Ev
