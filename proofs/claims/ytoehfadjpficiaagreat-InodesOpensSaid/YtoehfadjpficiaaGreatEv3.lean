/- The evaluator: operations on values, and on memory. -/
import Derived.Test.YtoehfadjpficiaaGreatEv2
namespace Go.Proofs.YtoehfadjpficiaaGreat.Ev
open Go Go.RowKit
set_option linter.unusedVariables false
set_option linter.unusedSimpArgs false

abbrev Res := EV × T Blk × Nat
/-- The computation s ends in what r tells. -/
def Runs (C : Ctx) (E : Env) (h : T Blk) (nx : Nat) (w : World) (s : Sem Value) (r : Res) : Prop :=
  HRel E h w → E.ρ = C.ρ → Fresh E nx r.2.2 → RunsV C.P E h nx w s r.1 r.2.1 r.2.2

theorem run_newVar {P : Program} {E : Env} {h : T Blk} {nx : Nat} {w : World} (hr : HRel E h w) (hn : E.m nx = none) (t : TypeId) {x : AV} {v : Value} (hx : x.rel E v) :
    ∃ w' E', (newVar t v).run P w = .ok ⟨w.heap.size, 0, none⟩ w' ∧ Goes E h nx w E' (h.set nx (.cells t none (Cells.ofList x.cells) false)) (nx + 1) w' ∧ E'.m nx = some ⟨w.heap.size, 0, 0⟩ := by
  have hc := AV.cells_rel hx
  obtain ⟨h1, h2⟩ := Cells.ofList_rel hc
  rw [Array.toArray_toList] at h1 h2
  obtain ⟨h3, h4⟩ := HRel.run_row (P := P) hr hn t h1 h2
  exact ⟨_, _, h3, h4, Env.put_at _ _ _⟩
theorem fresh1 {E : Env} {nx : Nat} (h : Fresh E nx (nx + 1)) : E.m nx = none := h nx (Nat.le_refl _) (Nat.lt_succ_self _)

def evNew (h : T Blk) (nx : Nat) (t : TypeId) (x : AV) : Res := (.a (.s (.ptr nx 0)), h.set nx (.cells t none (Cells.ofList x.cells) false), nx + 1)
def evAlloc (C : Ctx) (h : T Blk) (nx : Nat) (t : TypeId) : Option Res := (C.tab t).bind fun e => (litAV e.zero).bind fun z => some (evNew h nx t z)
theorem evAlloc_run {C : Ctx} (hC : C.Ok) {E : Env} {h : T Blk} {nx : Nat} {w : World} {t : TypeId} {r : Res} (he : evAlloc C h nx t = some r) : Runs C E h nx w (Instr.alloc t true (.tuple #[])) r := by
  intro hr _ hf
  obtain ⟨e, h1, he⟩ := Option.bind_eq_some_iff.1 he
  obtain ⟨z, h2, he⟩ := Option.bind_eq_some_iff.1 he
  obtain rfl := Option.some.inj he
  obtain ⟨w', E', hrun, hg, hm⟩ := run_newVar (P := C.P) hr (fresh1 hf) t (litAV_rel (E := E) h2)
  exact ⟨_, w', E', by simp [Instr.alloc, (hC.tab t e h1).run_zero, hrun], hg, _, hm, rfl⟩
def evBox (h : T Blk) (nx : Nat) (t : TypeId) : EV → Option Res
  | .a x => some (evNew h nx t x)
  | _ => none
theorem evBox_run {C : Ctx} {E : Env} {h : T Blk} {nx : Nat} {w : World} {t : TypeId} {x : EV} {v : Value} {r : Res} (he : evBox h nx t x = some r) (hx : x.rel E v) : Runs C E h nx w (Instr.box t v) r := by
  intro hr _ hf
  unfold evBox at he
  split at he
  · obtain rfl := Option.some.inj he
    obtain ⟨w', E', hrun, hg, hm⟩ := run_newVar (P := C.P) hr (fresh1 hf) t hx
    exact ⟨_, w', E', by simp [Instr.box, hrun], hg, _, hm, rfl⟩
  · cases he

/-! ### Loads and stores -/
def evLoadAt (C : Ctx) (h : T Blk) (t : TypeId) (i o : Nat) : Option AV :=
  (C.tab t).bind fun e =>
    match h.get i with
    | some (.cells _ _ c _) => if aggD e.und = true then (if o + e.size ≤ c.n then some (.agg (c.list o e.size)) else none) else if o < c.n then some (.s (c.get o)) else none
    | _ => none
theorem evLoadAt_run {C : Ctx} (hC : C.Ok) {E : Env} {h : T Blk} {w : World} {t : TypeId} {i o : Nat} {x : AV} (he : evLoadAt C h t i o = some x) (hr : HRel E h w) {p : Pl} (hp : E.m i = some p) :
    ∃ v, (loadVar t ⟨p.blk, p.dl + o, none⟩).run C.P w = .ok v w ∧ x.rel E v := by
  obtain ⟨e, h1, he⟩ := Option.bind_eq_some_iff.1 he
  have ht := hC.tab t e h1
  split at he
  · rename_i t' opn c fz hb
    unfold loadVar
    simp only [Sem.run_bind, ht.run_agg w, Result.andThen_ok, Sem.run_ite]
    split at he
    · rename_i ha
      split at he
      · rename_i hn
        obtain rfl := Option.some.inj he
        obtain ⟨vs, _, h2, h3⟩ := HRel.run_load (P := C.P) hr hb hp o e.size hn
        exact ⟨.agg vs.toArray, by simp [ha, ht.run_size w, h3], vs, rfl, h2⟩
      · cases he
    · rename_i ha
      split at he
      · rename_i hn
        obtain rfl := Option.some.inj he
        obtain ⟨vs, hl, h2, h3⟩ := hr.read hb hp o 1 (by omega)
        obtain ⟨v, hv, hrel⟩ := h2.get 0 (c.get o) rfl
        have h4 := h3 0 v hv
        rw [Nat.add_zero] at h4
        exact ⟨v, by simp [ha, run_load, h4], hrel⟩
      · cases he
  · cases he
def evLoad (C : Ctx) (h : T Blk) (t : TypeId) : EV → Option EV
  | .a (.s (.ptr i o)) => (evLoadAt C h t i o).map .a
  | _ => none
theorem evLoad_run {C : Ctx} (hC : C.Ok) {E : Env} {h : T Blk} {w : World} {t : TypeId} {x r : EV} {v : Value} (he : evLoad C h t x = some r) (hr : HRel E h w) (hx : x.rel E v) :
    ∃ v', (Instr.loadAt t v).run C.P w = .ok v' w ∧ r.rel E v' := by
  unfold evLoad at he
  split at he
  · obtain ⟨y, hy, rfl⟩ := Option.map_eq_some_iff.1 he
    obtain ⟨p, hp, rfl⟩ := hx
    obtain ⟨v, h1, h2⟩ := evLoadAt_run hC hy hr hp
    exact ⟨v, by simp [Instr.loadAt, Instr.sureAddr, h1], h2⟩
  · cases he

def evStore (C : Ctx) (h : T Blk) (t : TypeId) : EV → EV → Option (T Blk)
  | .a (.s (.ptr i o)), .a x =>
    (C.tab t).bind fun e =>
      match h.get i with
      | some (.cells t' opn c fz) => if x.cells.length = e.size ∧ o + e.size ≤ c.n then some (h.set i (.cells t' opn (c.puts o x.cells) fz)) else none
      | _ => none
  | _, _ => none
theorem evStore_run {C : Ctx} (hC : C.Ok) {E : Env} {h h' : T Blk} {nx : Nat} {w : World} {t : TypeId} {a x : EV} {va vx : Value} (he : evStore C h t a x = some h') (hr : HRel E h w) (ha : a.rel E va) (hx : x.rel E vx) :
    ∃ w', (Instr.storeAt t va vx).run C.P w = .ok () w' ∧ Goes E h nx w E h' nx w' := by
  unfold evStore at he
  split at he
  · rename_i i o x
    obtain ⟨e, h1, he⟩ := Option.bind_eq_some_iff.1 he
    have ht := hC.tab t e h1
    split at he
    · rename_i t' opn c fz hb
      split at he
      · rename_i hn
        obtain rfl := Option.some.inj he
        obtain ⟨p, hp, rfl⟩ := ha
        have hc := AV.cells_rel hx
        obtain ⟨w', h2, h3⟩ := HRel.run_store (P := C.P) (nx := nx) hr hb hp o hc (by omega)
        refine ⟨w', ?_, h3⟩
        have hl : vx.cells.size = e.size := by rw [← hn.1, ← hc.length, Array.length_toList]
        simp [Instr.storeAt, Instr.sureAddr, storeVar, ht.run_size w, hl, h2]
      · cases he
    · cases he
  · cases he

/-! ### Addresses -/
def evFieldAddr (C : Ctx) (s : TypeId) (f : Nat) : EV → Option EV
  | .a (.s (.ptr i o)) => (C.tab s).bind fun e =>
    match e.und with
    | .struct fs => (fs[f]?).bind fun fd => (C.tab fd.type).bind fun ef => if ef.size = 0 then none else some (.a (.s (.ptr i (o + fd.offset))))
    | _ => none
  | _ => none
theorem evFieldAddr_run {C : Ctx} (hC : C.Ok) {E : Env} {w : World} {s : TypeId} {f : Nat} {x r : EV} {v : Value} (he : evFieldAddr C s f x = some r) (hx : x.rel E v) :
    ∃ v', (Instr.fieldAt s v f).run C.P w = .ok v' w ∧ r.rel E v' := by
  unfold evFieldAddr at he
  split at he
  · obtain ⟨e, h1, he⟩ := Option.bind_eq_some_iff.1 he
    split at he
    · rename_i fs hu
      obtain ⟨fd, h2, he⟩ := Option.bind_eq_some_iff.1 he
      obtain ⟨ef, h3, he⟩ := Option.bind_eq_some_iff.1 he
      split at he
      · cases he
      · rename_i hz
        obtain rfl := Option.some.inj he
        obtain ⟨p, hp, rfl⟩ := hx
        have hru := (hC.tab s e h1).run_und w
        rw [hu] at hru
        refine ⟨.pointer (some ⟨p.blk, p.dl + (_ + fd.offset), none⟩), ?_, p, hp, rfl⟩
        simp [Instr.fieldAt, hru, h2, Instr.sureAddr, fieldPlace, (hC.tab _ _ h3).run_size w, hz, add_eq, Nat.add_assoc]
    · cases he
  · cases he

def evIndexAddr (C : Ctx) (t : TypeId) : EV → EV → Option EV
  | .a (.s (.ptr i o)), .a (.s (.int k j)) => (C.tab t).bind fun e =>
    match e.und with
    | .array n el => (C.tab el).bind fun ee => if 0 ≤ j ∧ j < n then some (.a (.s (.ptr i (o + j.toNat * ee.size)))) else none
    | _ => none
  | .a (.s (.sl i o len c q)), .a (.s (.int k j)) => (C.tab t).bind fun e =>
    match e.und with
    | .slice el => (C.tab el).bind fun ee => if 0 ≤ j ∧ j < len then some (.a (.s (.ptr i (o + j.toNat * ee.size)))) else none
    | _ => none
  | _, _ => none
theorem evIndexAddr_run {C : Ctx} (hC : C.Ok) {E : Env} {w : World} {t : TypeId} {x y r : EV} {v u : Value} (he : evIndexAddr C t x y = some r) (hx : x.rel E v) (hy : y.rel E u) :
    ∃ v', (Instr.indexAt t v u).run C.P w = .ok v' w ∧ r.rel E v' := by
  unfold evIndexAddr at he
  split at he
  · rename_i i o k j
    obtain ⟨e, h1, he⟩ := Option.bind_eq_some_iff.1 he
    split at he
    · rename_i n el hu
      obtain ⟨ee, h2, he⟩ := Option.bind_eq_some_iff.1 he
      split at he
      · rename_i hj
        obtain rfl := Option.some.inj he
        obtain ⟨p, hp, rfl⟩ := hx
        obtain rfl := hy
        have hru := (hC.tab t e h1).run_und w
        rw [hu] at hru
        refine ⟨_, by simp [Instr.indexAt, hru, asIntOf, Instr.sureAddr, hj, (hC.tab _ _ h2).run_size w, add_eq]; rfl, p, hp, by rw [Nat.add_assoc]⟩
      · cases he
    · cases he
  · rename_i i o len c q k j
    obtain ⟨e, h1, he⟩ := Option.bind_eq_some_iff.1 he
    split at he
    · rename_i el hu
      obtain ⟨ee, h2, he⟩ := Option.bind_eq_some_iff.1 he
      split at he
      · rename_i hj
        obtain rfl := Option.some.inj he
        obtain ⟨p, cp, hp, _, rfl⟩ := SV.sl_form hx
        obtain rfl := hy
        have hru := (hC.tab t e h1).run_und w
        rw [hu] at hru
        refine ⟨_, by simp [Instr.indexAt, hru, asIntOf, hj, (hC.tab _ _ h2).run_size w, add_eq]; rfl, p, hp, by rw [Nat.add_assoc]⟩
      · cases he
    · cases he
  · cases he

end Go.Proofs.YtoehfadjpficiaaGreat.Ev
