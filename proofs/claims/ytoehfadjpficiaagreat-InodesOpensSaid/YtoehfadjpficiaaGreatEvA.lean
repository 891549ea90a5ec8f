/- The evaluator: one operation. -/
import Derived.Test.YtoehfadjpficiaaGreatEvM
import Derived.Tactics
namespace Go.Proofs.YtoehfadjpficiaaGreat.Ev
open Go Go.RowKit
set_option linter.unusedVariables false
set_option linter.unusedSimpArgs false

/-! ### Temporaries -/
/-- What is known of the temporaries is so. -/
def RelT (E : Env) (tm : T EV) (tmps : Array Value) : Prop := ∀ t x, tm.get t = some x → x.rel E (tmps.getD t undef)
theorem RelT.ext {E E' : Env} (h : Ext E E') {tm : T EV} {tmps : Array Value} (hr : RelT E tm tmps) : RelT E' tm tmps := fun t x hx => EV.ext h (hr t x hx)
theorem RelT.set {E : Env} {tm : T EV} {tmps : Array Value} (hr : RelT E tm tmps) {d : Nat} (hd : d < tmps.size) {x : EV} {v : Value} (hx : x.rel E v) : RelT E (tm.set d x) (tmps.setIfInBounds d v) := fun t y hy => by
  rw [T.get_set] at hy
  by_cases h : t = d
  · subst h
    rw [if_pos rfl] at hy
    obtain rfl := Option.some.inj hy
    rw [Array.getD_eq_getD_getElem?, Array.getElem?_setIfInBounds_self_of_lt hd]
    exact hx
  · rw [if_neg h] at hy
    rw [Array.getD_eq_getD_getElem?, Array.getElem?_setIfInBounds_ne (Ne.symm h), ← Array.getD_eq_getD_getElem?]
    exact hr t y hy

def opnd (tm : T EV) : Operand → Option EV
  | .tmp t => tm.get t
  | .const v => (litAV v).map .a
  | .func f => some (.a (.s (.func f [])))
  | .global _ => none
theorem opnd_rel {E : Env} {tm : T EV} {a : Act} (hr : RelT E tm a.tmps) {x : Operand} {y : EV} (h : opnd tm x = some y) : y.rel E (a.eval x) := by
  cases x with
  | tmp t => exact hr t y h
  | const v =>
    obtain ⟨z, hz, rfl⟩ := Option.map_eq_some_iff.1 h
    exact litAV_rel hz
  | func f =>
    obtain rfl := Option.some.inj h
    exact ⟨[], rfl, trivial⟩
  | global g => cases h

def opL (tm : T EV) : List Operand → Option (List EV)
  | [] => some []
  | x :: xs => (opnd tm x).bind fun y => (opL tm xs).map fun ys => y :: ys
theorem opL_rel {E : Env} {tm : T EV} {a : Act} (hr : RelT E tm a.tmps) : ∀ {xs : List Operand} {ys : List EV}, opL tm xs = some ys → Rels (EV.rel E) ys (xs.map a.eval)
  | [], ys, h => by
    obtain rfl := Option.some.inj h
    trivial
  | x :: xs, ys, h => by
    replace h := Option.bind_eq_some_iff.1 h
    obtain ⟨y, hy, h⟩ := h
    obtain ⟨zs, hz, rfl⟩ := Option.map_eq_some_iff.1 h
    exact ⟨opnd_rel hr hy, opL_rel hr hz⟩
def opP (tm : T EV) : List (Nat × Operand) → Option (List (Nat × EV))
  | [] => some []
  | (i, x) :: xs => (opnd tm x).bind fun y => (opP tm xs).map fun ys => (i, y) :: ys
theorem opP_rel {E : Env} {tm : T EV} {a : Act} (hr : RelT E tm a.tmps) : ∀ {xs : List (Nat × Operand)} {ys : List (Nat × EV)}, opP tm xs = some ys → Rels (fun (x : Nat × EV) (y : Nat × Value) => x.1 = y.1 ∧ x.2.rel E y.2) ys (xs.map fun (i, x) => (i, a.eval x))
  | [], ys, h => by
    obtain rfl := Option.some.inj h
    trivial
  | (i, x) :: xs, ys, h => by
    replace h := Option.bind_eq_some_iff.1 h
    obtain ⟨y, hy, h⟩ := h
    obtain ⟨zs, hz, rfl⟩ := Option.map_eq_some_iff.1 h
    exact ⟨⟨rfl, opnd_rel hr hy⟩, opP_rel hr hz⟩
def opO (tm : T EV) : Option Operand → Option (Option EV)
  | none => some none
  | some x => (opnd tm x).map some
theorem opO_rel {E : Env} {tm : T EV} {a : Act} (hr : RelT E tm a.tmps) {x : Option Operand} {y : Option EV} (h : opO tm x = some y) : relO E y (x.map a.eval) := by
  cases x with
  | none => obtain rfl := Option.some.inj h; trivial
  | some x =>
    obtain ⟨z, hz, rfl⟩ := Option.map_eq_some_iff.1 h
    exact opnd_rel hr hz

/-! ### One operation that is no call of a function -/
def evNil : EV → Option EV
  | .a (.s (.ptr i o)) => some (.a (.s (.ptr i o)))
  | .a (.s (.func f cs)) => some (.a (.s (.func f cs)))
  | _ => none
def caps : List EV → Option (List (Nat × Nat))
  | [] => some []
  | .a (.s (.ptr i o)) :: r => (caps r).map fun l => (i, o) :: l
  | _ => none
theorem caps_rel {E : Env} : ∀ {xs : List EV} {vs : List Value} {l : List (Nat × Nat)}, caps xs = some l → Rels (EV.rel E) xs vs → Rels (relP E) l vs
  | [], [], l, h, _ => by
    obtain rfl := Option.some.inj h
    trivial
  | .a (.s (.ptr i o)) :: r, v :: vs, l, h, hr => by
    obtain ⟨l, hl, rfl⟩ := Option.map_eq_some_iff.1 h
    exact ⟨hr.1, caps_rel hl hr.2⟩
  | x :: r, v :: vs, l, h, hr => by
    unfold caps at h
    split at h
    · rename_i heq; cases heq
    · rename_i heq
      simp only [List.cons.injEq] at heq
      obtain ⟨rfl, rfl⟩ := heq
      obtain ⟨l, hl, rfl⟩ := Option.map_eq_some_iff.1 h
      exact ⟨hr.1, caps_rel hl hr.2⟩
    · cases h
  | [], _ :: _, _, _, hr => hr.elim
  | _ :: _, [], _, _, hr => hr.elim

/-- A value, the memory as it was. -/
def same (h : T Blk) (nx : Nat) (x : Option EV) : Option Res := x.map fun v => (v, h, nx)
def evOp (C : Ctx) (h : T Blk) (nx : Nat) (tm : T EV) (o : Oper) : Option Res :=
  match o.op with
  | .move x | .assign x => same h nx (opnd tm x)
  | .pick c a b => (opnd tm c).bind fun c =>
    match c with
    | .a (.s (.bool q)) => same h nx (if q = true then opnd tm a else opnd tm b)
    | _ => none
  | .alloc t => evAlloc C h nx t
  | .box t x => (opnd tm x).bind fun x => evBox h nx t x
  | .build t ps => (opP tm ps.toList).bind fun ps => same h nx (evBuild C t ps)
  | .buildSlice t n ps => (opP tm ps.toList).bind fun ps => evBuildSlice C h nx t n ps
  | .load t x => (opnd tm x).bind fun x => same h nx (evLoad C h t x)
  | .store t x y => (opnd tm x).bind fun x => (opnd tm y).bind fun y => (evStore C h t x y).map fun h' => (.tup [], h', nx)
  | .nilCheck x => (opnd tm x).bind fun x => same h nx (evNil x)
  | .binOp op t x y _ => (opnd tm x).bind fun x => (opnd tm y).bind fun y => same h nx (evBin C h op t x y)
  | .unOp op _ x => (opnd tm x).bind fun x => same h nx (evUn op x)
  | .convert s d x => (opnd tm x).bind fun x => same h nx (evConv C h s d x)
  | .range t x => (opnd tm x).bind fun x => evRange C h nx t x
  | .entry x => (opnd tm x).bind fun x => same h nx (evEntry h x)
  | .makeFunc (.func f) first cs => if first.toList.length = 0 then (opL tm cs.toList).bind fun l => (caps l).bind fun l => same h nx (some (.a (.s (.func f l)))) else none
  | .makeMap t none => some (evMakeMap h nx)
  | .makeSlice t l c => (opnd tm l).bind fun l => (opnd tm c).bind fun c => evMakeSlice C h nx t l c
  | .slice t x lo hi mx => (opnd tm x).bind fun x => (opO tm lo).bind fun lo => (opO tm hi).bind fun hi => (opO tm mx).bind fun mx => same h nx (evSlice C t x lo hi mx)
  | .fieldAddr t x f => (opnd tm x).bind fun x => same h nx (evFieldAddr C t f x)
  | .field t x f => (opnd tm x).bind fun x => same h nx (evField C t f x)
  | .indexAddr t x y => (opnd tm x).bind fun x => (opnd tm y).bind fun y => same h nx (evIndexAddr C t x y)
  | .index t x y => (opnd tm x).bind fun x => (opnd tm y).bind fun y => same h nx (evIndex C t x y)
  | .extract x i => (opnd tm x).bind fun x => same h nx (evExtract i x)
  | .lookup t x k ok => (opnd tm x).bind fun x => (opnd tm k).bind fun k => same h nx (evLookup C h t ok x k)
  | .mapUpdate t m k x | .insert t m k x => (opnd tm m).bind fun m => (opnd tm k).bind fun k => (opnd tm x).bind fun x => (evMapUpdate C h nx t m k x).map fun r => (.tup [], r.1, r.2)
  | .call { callee := .builtin b, args, argTypes } => (opL tm args.toList).bind fun xs =>
    match b, xs with
    | .len, [x] => same h nx (evLen C h argTypes x)
    | .append, [s, x] => evAppend C h nx argTypes s x
    | .copy, [d, x] => (evCopy C h argTypes d x).map fun r => (r.1, r.2, nx)
    | .min, xs => same h nx (evMM false xs)
    | .max, xs => same h nx (evMM true xs)
    | _, _ => none
  | _ => none

/-- The operation runs to its end, and what it leaves is what r tells. -/
def OpRuns (C : Ctx) (E : Env) (h : T Blk) (nx : Nat) (a : Act) (w : World) (o : Oper) (r : Res) : Prop :=
  ∃ v' w' E', ((execOp a.eval o).run C.P w = .ok (.value v') w' ∨ ((execOp a.eval o).run C.P w = .ok .skip w' ∧ v' = undef)) ∧ Goes E h nx w E' r.2.1 r.2.2 w' ∧ r.1.rel E' v'

section
variable {C : Ctx} {E : Env} {h : T Blk} {nx : Nat} {a : Act} {w : World} {o : Oper} {r : Res}
theorem opRuns_reads {s : Sem Value} (he : execOp a.eval o = (do pure (.value (← s)))) {x : Option EV} {y : EV} (hx : same h nx x = some r) (hr : HRel E h w) (hrd : x = some y → Reads C E w s y) (hy : x = some y) : OpRuns C E h nx a w o r := by
  subst hy
  obtain rfl := Option.some.inj hx
  obtain ⟨v, h1, h2⟩ := hrd rfl
  exact ⟨v, w, E, .inl (by rw [he]; simp [h1]), Goes.refl hr, h2⟩
theorem opRuns_same {s : Sem Value} (he : execOp a.eval o = (do pure (.value (← s)))) {x : Option EV} (hx : same h nx x = some r) (hr : HRel E h w) (hrd : ∀ y, x = some y → Reads C E w s y) : OpRuns C E h nx a w o r := by
  cases hq : x with
  | none => rw [hq] at hx; cases hx
  | some y => exact opRuns_reads he hx hr (fun _ => hrd y hq) hq
theorem opRuns_v {s : Sem Value} (he : execOp a.eval o = (do pure (.value (← s)))) (hrd : RunsV C.P E h nx w s r.1 r.2.1 r.2.2) : OpRuns C E h nx a w o r := by
  obtain ⟨v, w', E', h1, h2, h3⟩ := hrd
  exact ⟨v, w', E', .inl (by rw [he]; simp [h1]), h2, h3⟩
theorem opRuns_u {s : Sem Unit} (he : execOp a.eval o = (do s; pure .skip)) {w' : World} {E' : Env} {h' : T Blk} {nx' : Nat} (hs : s.run C.P w = .ok () w') (hg : Goes E h nx w E' h' nx' w') : OpRuns C E h nx a w o (.tup [], h', nx') :=
  ⟨undef, w', E', .inr ⟨by rw [he]; simp [hs], rfl⟩, hg, ⟨[], rfl, trivial⟩⟩
theorem opRuns_b {b : Builtin} {args : Array Operand} {ts : Array TypeId} {s : Sem Value} (ho : o.op = .call { callee := .builtin b, args := args, argTypes := ts }) (hb : ∀ cs, builtin b ts o.type cs (args.map a.eval) = (do pure (.value (← s))))
    (hrd : RunsV C.P E h nx w s r.1 r.2.1 r.2.2) : OpRuns C E h nx a w o r := by
  obtain ⟨v, w', E', h1, h2, h3⟩ := hrd
  refine ⟨v, w', E', .inl ?_, h2, h3⟩
  unfold execOp
  rw [ho]
  simp only [resolve, Sem.run_bind, Sem.run_pure, Result.andThen_ok, invoke, hb, h1]
end

theorem reads_runs {C : Ctx} {E : Env} {h : T Blk} {nx : Nat} {w : World} {s : Sem Value} {x : Option EV} {r : Res} (hx : same h nx x = some r) (hr : HRel E h w) (hrd : ∀ y, x = some y → Reads C E w s y) : RunsV C.P E h nx w s r.1 r.2.1 r.2.2 := by
  cases hq : x with
  | none => rw [hq] at hx; cases hx
  | some y =>
    rw [hq] at hx
    obtain rfl := Option.some.inj hx
    obtain ⟨v, h1, h2⟩ := hrd y hq
    exact ⟨v, w, E, h1, Goes.refl hr, h2⟩

theorem two_args {E : Env} {x y : EV} {l : List Value} (h : Rels (EV.rel E) [x, y] l) : ∃ u v, l = [u, v] ∧ x.rel E u ∧ y.rel E v := by
  match l, h with
  | [u, v], h => exact ⟨u, v, rfl, h.1, h.2.1⟩
theorem one_arg {E : Env} {x : EV} {l : List Value} (h : Rels (EV.rel E) [x] l) : ∃ u, l = [u] ∧ x.rel E u := by
  match l, h with
  | [u], h => exact ⟨u, rfl, h.1⟩

set_option maxHeartbeats 2000000 in
theorem evOp_run {C : Ctx} (hC : C.Ok) {E : Env} (hρ : E.ρ = C.ρ) {h : T Blk} {nx : Nat} {tm : T EV} {a : Act} {w : World} {o : Oper} {r : Res} (he : evOp C h nx tm o = some r) (hr : HRel E h w) (ht : RelT E tm a.tmps) (hf : Fresh E nx r.2.2) :
    OpRuns C E h nx a w o r := by
  obtain ⟨dst, op, type, pos, after, guard⟩ := o
  unfold evOp at he
  split at he <;> rename_i hop <;> simp only at hop <;> first | (cases he; done) | subst hop
  · -- move
    obtain ⟨y, hy, rfl⟩ := Option.map_eq_some_iff.1 he
    exact ⟨_, w, E, .inl rfl, Goes.refl hr, opnd_rel ht hy⟩
  · -- assign
    obtain ⟨y, hy, rfl⟩ := Option.map_eq_some_iff.1 he
    exact ⟨_, w, E, .inl rfl, Goes.refl hr, opnd_rel ht hy⟩
  · -- pick
    rename_i c0 x0 y0
    replace he := Option.bind_eq_some_iff.1 he
    obtain ⟨c, hc, he⟩ := he
    split at he
    · rename_i q
      have hcr : a.eval c0 = .bool q := opnd_rel ht hc
      obtain ⟨y, hy, rfl⟩ := Option.map_eq_some_iff.1 he
      have hy2 : opnd tm (if q = true then x0 else y0) = some y := by rw [← hy]; cases q <;> rfl
      refine ⟨a.eval (if q = true then x0 else y0), w, E, .inl ?_, Goes.refl hr, opnd_rel ht hy2⟩
      simp only [execOp, Sem.run_bind, hcr, asBool, Sem.run_pure, Result.andThen_ok]
      cases q <;> rfl
    · cases he
  · -- alloc
    exact opRuns_v rfl (evAlloc_run hC he hr hρ hf)
  · -- box
    replace he := Option.bind_eq_some_iff.1 he
    obtain ⟨x, hx, he⟩ := he
    exact opRuns_v rfl (evBox_run (C := C) he (opnd_rel ht hx) hr hρ hf)
  · -- build
    replace he := Option.bind_eq_some_iff.1 he
    obtain ⟨ps, hps, he⟩ := he
    exact opRuns_same rfl he hr fun y hy => evBuild_run hC hy (by rw [Array.toList_map]; exact opP_rel ht hps)
  · -- buildSlice
    replace he := Option.bind_eq_some_iff.1 he
    obtain ⟨ps, hps, he⟩ := he
    exact opRuns_v rfl (evBuildSlice_run hC he (by rw [Array.toList_map]; exact opP_rel ht hps) hr hρ hf)
  · -- load
    replace he := Option.bind_eq_some_iff.1 he
    obtain ⟨x, hx, he⟩ := he
    exact opRuns_same rfl he hr fun y hy => evLoad_run hC hy hr (opnd_rel ht hx)
  · -- store
    replace he := Option.bind_eq_some_iff.1 he
    obtain ⟨x, hx, he⟩ := he
    replace he := Option.bind_eq_some_iff.1 he
    obtain ⟨y, hy, he⟩ := he
    obtain ⟨h', h1, rfl⟩ := Option.map_eq_some_iff.1 he
    obtain ⟨w', h2, h3⟩ := evStore_run hC (nx := nx) h1 hr (opnd_rel ht hx) (opnd_rel ht hy)
    exact opRuns_u rfl h2 h3
  · -- nilCheck
    replace he := Option.bind_eq_some_iff.1 he
    obtain ⟨x, hx, he⟩ := he
    obtain ⟨y, hy, rfl⟩ := Option.map_eq_some_iff.1 he
    have hxr := opnd_rel ht hx
    unfold evNil at hy
    split at hy
    · obtain rfl := Option.some.inj hy
      have hxr' := hxr
      obtain ⟨p, hp, hv⟩ := hxr'
      refine ⟨_, w, E, .inl ?_, Goes.refl hr, hxr⟩
      simp only [execOp, hv, Sem.run_pure]
    · obtain rfl := Option.some.inj hy
      have hxr' := hxr
      obtain ⟨vs, hv, _⟩ := hxr'
      refine ⟨_, w, E, .inl ?_, Goes.refl hr, hxr⟩
      simp only [execOp, hv, Sem.run_pure]
    · cases hy
  · -- binOp
    replace he := Option.bind_eq_some_iff.1 he
    obtain ⟨x, hx, he⟩ := he
    replace he := Option.bind_eq_some_iff.1 he
    obtain ⟨y, hy, he⟩ := he
    exact opRuns_same rfl he hr fun z hz => evBin_run hC hρ _ _ hz (opnd_rel ht hx) (opnd_rel ht hy)
  · -- unOp
    replace he := Option.bind_eq_some_iff.1 he
    obtain ⟨x, hx, he⟩ := he
    exact opRuns_same rfl he hr fun z hz => evUn_run hz (opnd_rel ht hx)
  · -- convert
    replace he := Option.bind_eq_some_iff.1 he
    obtain ⟨x, hx, he⟩ := he
    exact opRuns_same rfl he hr fun z hz => evConv_run hC hz hr (opnd_rel ht hx)
  · -- range
    replace he := Option.bind_eq_some_iff.1 he
    obtain ⟨x, hx, he⟩ := he
    exact opRuns_v rfl (evRange_run hC he (opnd_rel ht hx) hr hρ hf)
  · -- entry
    replace he := Option.bind_eq_some_iff.1 he
    obtain ⟨x, hx, he⟩ := he
    exact opRuns_same rfl he hr fun y hy => evEntry_run hy hr (opnd_rel ht hx)
  · -- makeFunc
    split at he
    · rename_i f first cs h0
      replace he := Option.bind_eq_some_iff.1 he
      obtain ⟨l, hl, he⟩ := he
      replace he := Option.bind_eq_some_iff.1 he
      obtain ⟨q, hq, he⟩ := he
      obtain rfl := Option.some.inj he
      have hfe : first = #[] := Array.toList_inj.1 (List.eq_nil_of_length_eq_zero h0)
      subst hfe
      refine ⟨.func (.func f) #[] (cs.map a.eval), w, E, .inl ?_, Goes.refl hr, (cs.map a.eval).toList, by rw [Array.toArray_toList], caps_rel hq (by rw [Array.toList_map]; exact opL_rel ht hl)⟩
      simp only [execOp, Instr.makeFunc, Sem.run_bind, Sem.run_pure, Result.andThen_ok]
      simp
    · cases he
  · -- makeMap
    obtain rfl := Option.some.inj he
    exact opRuns_v rfl (evMakeMap_run hr hρ hf)
  · -- makeSlice
    replace he := Option.bind_eq_some_iff.1 he
    obtain ⟨x, hx, he⟩ := he
    replace he := Option.bind_eq_some_iff.1 he
    obtain ⟨y, hy, he⟩ := he
    exact opRuns_v rfl (evMakeSlice_run hC he (opnd_rel ht hx) (opnd_rel ht hy) hr hρ hf)
  · -- slice
    replace he := Option.bind_eq_some_iff.1 he
    obtain ⟨x, hx, he⟩ := he
    replace he := Option.bind_eq_some_iff.1 he
    obtain ⟨lo, hlo, he⟩ := he
    replace he := Option.bind_eq_some_iff.1 he
    obtain ⟨hi, hhi, he⟩ := he
    replace he := Option.bind_eq_some_iff.1 he
    obtain ⟨mx, hmx, he⟩ := he
    exact opRuns_same rfl he hr fun z hz => evSlice_run hC hz (opnd_rel ht hx) (opO_rel ht hlo) (opO_rel ht hhi) (opO_rel ht hmx)
  · -- fieldAddr
    replace he := Option.bind_eq_some_iff.1 he
    obtain ⟨x, hx, he⟩ := he
    exact opRuns_same rfl he hr fun z hz => evFieldAddr_run hC hz (opnd_rel ht hx)
  · -- field
    replace he := Option.bind_eq_some_iff.1 he
    obtain ⟨x, hx, he⟩ := he
    exact opRuns_same rfl he hr fun z hz => evField_run hC hz (opnd_rel ht hx)
  · -- indexAddr
    replace he := Option.bind_eq_some_iff.1 he
    obtain ⟨x, hx, he⟩ := he
    replace he := Option.bind_eq_some_iff.1 he
    obtain ⟨y, hy, he⟩ := he
    exact opRuns_same rfl he hr fun z hz => evIndexAddr_run hC hz (opnd_rel ht hx) (opnd_rel ht hy)
  · -- index
    replace he := Option.bind_eq_some_iff.1 he
    obtain ⟨x, hx, he⟩ := he
    replace he := Option.bind_eq_some_iff.1 he
    obtain ⟨y, hy, he⟩ := he
    exact opRuns_same rfl he hr fun z hz => evIndex_run hC hz (opnd_rel ht hx) (opnd_rel ht hy)
  · -- extract
    replace he := Option.bind_eq_some_iff.1 he
    obtain ⟨x, hx, he⟩ := he
    exact opRuns_same rfl he hr fun z hz => evExtract_run (C := C) hz (opnd_rel ht hx)
  · -- lookup
    replace he := Option.bind_eq_some_iff.1 he
    obtain ⟨x, hx, he⟩ := he
    replace he := Option.bind_eq_some_iff.1 he
    obtain ⟨k, hk, he⟩ := he
    exact opRuns_same rfl he hr fun z hz => evLookup_run hC hρ hz hr (opnd_rel ht hx) (opnd_rel ht hk)
  · -- mapUpdate
    replace he := Option.bind_eq_some_iff.1 he
    obtain ⟨m, hm, he⟩ := he
    replace he := Option.bind_eq_some_iff.1 he
    obtain ⟨k, hk, he⟩ := he
    replace he := Option.bind_eq_some_iff.1 he
    obtain ⟨x, hx, he⟩ := he
    obtain ⟨h', h1, rfl⟩ := Option.map_eq_some_iff.1 he
    obtain ⟨w', E', h2, h3⟩ := evMapUpdate_run hC (nx := nx) h1 hr (opnd_rel ht hm) (opnd_rel ht hk) (opnd_rel ht hx) hf
    exact opRuns_u rfl h2 h3
  · -- insert
    replace he := Option.bind_eq_some_iff.1 he
    obtain ⟨m, hm, he⟩ := he
    replace he := Option.bind_eq_some_iff.1 he
    obtain ⟨k, hk, he⟩ := he
    replace he := Option.bind_eq_some_iff.1 he
    obtain ⟨x, hx, he⟩ := he
    obtain ⟨h', h1, rfl⟩ := Option.map_eq_some_iff.1 he
    obtain ⟨w', E', h2, h3⟩ := evMapUpdate_run hC (nx := nx) h1 hr (opnd_rel ht hm) (opnd_rel ht hk) (opnd_rel ht hx) hf
    exact opRuns_u rfl h2 h3
  · -- call
    rename_i b args ts
    replace he := Option.bind_eq_some_iff.1 he
    obtain ⟨xs, hxs, he⟩ := he
    have hl := opL_rel ht hxs
    have hlist : (args.map a.eval).toList = args.toList.map a.eval := Array.toList_map
    rw [← hlist] at hl
    split at he
    · obtain ⟨u, hu, hx⟩ := one_arg hl
      have hu' : args.map a.eval = #[u] := Array.toList_inj.1 hu
      refine opRuns_b (s := Builtin.len_ ts type (args.map a.eval)) rfl (fun _ => rfl) ?_
      rw [hu']
      exact reads_runs he hr fun y hy => evLen_run hC hρ hy hr hx
    · obtain ⟨u, v, hu, hs, hx⟩ := two_args hl
      have hu' : args.map a.eval = #[u, v] := Array.toList_inj.1 hu
      refine opRuns_b (s := Builtin.append_ ts type (args.map a.eval)) rfl (fun _ => rfl) ?_
      rw [hu']
      exact evAppend_run hC he hs hx hr hρ hf
    · obtain ⟨u, v, hu, hs, hx⟩ := two_args hl
      have hu' : args.map a.eval = #[u, v] := Array.toList_inj.1 hu
      obtain ⟨⟨z, h'⟩, h1, rfl⟩ := Option.map_eq_some_iff.1 he
      refine opRuns_b (s := Builtin.copy_ ts type (args.map a.eval)) rfl (fun _ => rfl) ?_
      rw [hu']
      exact evCopy_run hC h1 hr hs hx
    · refine opRuns_b (s := Builtin.min_ ts type (args.map a.eval)) rfl (fun _ => rfl) ?_
      exact reads_runs he hr fun y hy => evMM_run (C := C) (mx := false) (ts := ts) (ty := type) hy hl
    · refine opRuns_b (s := Builtin.max_ ts type (args.map a.eval)) rfl (fun _ => rfl) ?_
      exact reads_runs he hr fun y hy => evMM_run (C := C) (mx := true) (ts := ts) (ty := type) hy hl
    · cases he

/-! ### Operations that read only, and operations that only make a block -/
def isRd : Op → Bool
  | .move _ | .assign _ | .pick _ _ _ | .build _ _ | .load _ _ | .nilCheck _ | .binOp _ _ _ _ _ | .unOp _ _ _ | .convert _ _ _ | .makeFunc _ _ _ | .slice _ _ _ _ _ | .fieldAddr _ _ _ | .field _ _ _ | .indexAddr _ _ _ | .index _ _ _ | .extract _ _ | .lookup _ _ _ _ | .entry _ => true
  | .call { callee := .builtin .len, .. } | .call { callee := .builtin .min, .. } | .call { callee := .builtin .max, .. } => true
  | _ => false
def isAl : Op → Bool
  | .alloc _ | .box _ _ | .buildSlice _ _ _ | .makeMap _ _ | .makeSlice _ _ _ => true
  | _ => false
theorem same_eq {h : T Blk} {nx : Nat} {x : Option EV} {r : Res} (hx : same h nx x = some r) : r.2.1 = h ∧ r.2.2 = nx := by
  obtain ⟨y, _, rfl⟩ := Option.map_eq_some_iff.1 hx
  exact ⟨rfl, rfl⟩
set_option maxHeartbeats 1000000 in
theorem evOp_rd {C : Ctx} {h : T Blk} {nx : Nat} {tm : T EV} {o : Oper} {r : Res} (hi : isRd o.op = true) (he : evOp C h nx tm o = some r) : r.2.1 = h ∧ r.2.2 = nx := by
  obtain ⟨dst, op, type, pos, after, guard⟩ := o
  unfold evOp at he
  simp only at hi
  split at he <;> rename_i hop <;> simp only at hop <;> first | (cases he; done) | subst hop
  all_goals first
    | exact same_eq he
    | (cases hi; done)
    | (replace he := Option.bind_eq_some_iff.1 he
       obtain ⟨x1, _, he⟩ := he
       first
         | exact same_eq he
         | (replace he := Option.bind_eq_some_iff.1 he
            obtain ⟨x2, _, he⟩ := he
            first
              | exact same_eq he
              | (replace he := Option.bind_eq_some_iff.1 he
                 obtain ⟨x3, _, he⟩ := he
                 replace he := Option.bind_eq_some_iff.1 he
                 obtain ⟨x4, _, he⟩ := he
                 exact same_eq he))
         | (split at he <;> first | exact same_eq he | (cases he; done) | (simp [isRd] at hi; done)))
    | (split at he
       · replace he := Option.bind_eq_some_iff.1 he
         obtain ⟨x1, _, he⟩ := he
         replace he := Option.bind_eq_some_iff.1 he
         obtain ⟨x2, _, he⟩ := he
         exact same_eq he
       · cases he)

end Go.Proofs.YtoehfadjpficiaaGreat.Ev
