/- The evaluator: copy, len, min, max, maps. -/
import Derived.Test.YtoehfadjpficiaaGreatEv8
namespace Go.Proofs.YtoehfadjpficiaaGreat.Ev
open Go Go.RowKit
set_option linter.unusedVariables false
set_option linter.unusedSimpArgs false

def evLen (C : Ctx) (h : T Blk) (ts : Array TypeId) (x : EV) : Option EV :=
  (ts[0]?).bind fun t => (C.tab t).bind fun e =>
    match e.und, x with
    | .string, .a (.s (.str s)) => some (.a (.s (.int .i64 s.size)))
    | .array n _, _ => some (.a (.s (.int .i64 n)))
    | .slice _, .a (.s .nils) => some (.a (.s (.int .i64 0)))
    | .slice _, .a (.s (.slz _)) => some (.a (.s (.int .i64 0)))
    | .slice _, .a (.s (.sl _ _ len _ _)) => some (.a (.s (.int .i64 len)))
    | .map _ _, .a (.s .nilm) => some (.a (.s (.int .i64 0)))
    | .map _ _, .a (.s (.map i)) =>
      match h.get i with
      | some (.mp es _) => some (.a (.s (.int .i64 es.length)))
      | _ => none
    | _, _ => none
theorem evLen_run {C : Ctx} (hC : C.Ok) {E : Env} {h : T Blk} {w : World} {ts : Array TypeId} {ty : TypeId} {x r : EV} {v : Value} (he : evLen C h ts x = some r) (hr : HRel E h w) (hx : x.rel E v) : Reads C E w (Builtin.len_ ts ty #[v]) r := by
  unfold evLen at he
  replace he := Option.bind_eq_some_iff.1 he
  obtain ⟨t, h0, he⟩ := he
  replace he := Option.bind_eq_some_iff.1 he
  obtain ⟨e, h1, he⟩ := he
  have hru := (hC.tab t e h1).run_und w
  split at he
  · rename_i s hu
    rw [hu] at hru
    obtain rfl := Option.some.inj he
    obtain rfl := hx
    exact ⟨_, by simp [Builtin.len_, h0, hru, goInt], rfl⟩
  · rename_i n el hu
    rw [hu] at hru
    obtain rfl := Option.some.inj he
    exact ⟨_, by simp [Builtin.len_, h0, hru, goInt], rfl⟩
  · rename_i el hu
    rw [hu] at hru
    obtain rfl := Option.some.inj he
    obtain rfl := hx
    exact ⟨_, by simp [Builtin.len_, h0, hru, goInt], rfl⟩
  · rename_i el c hu
    rw [hu] at hru
    obtain rfl := Option.some.inj he
    obtain ⟨a, cp, rfl⟩ := SV.slz_form hx
    exact ⟨_, by simp [Builtin.len_, h0, hru, goInt], rfl⟩
  · rename_i el i o len c k hu
    rw [hu] at hru
    obtain rfl := Option.some.inj he
    obtain ⟨p, cp, _, _, rfl⟩ := SV.sl_form hx
    exact ⟨_, by simp [Builtin.len_, h0, hru, goInt], rfl⟩
  · rename_i k el hu
    rw [hu] at hru
    obtain rfl := Option.some.inj he
    obtain rfl := hx
    exact ⟨_, by simp [Builtin.len_, h0, hru, goInt], rfl⟩
  · rename_i k el i hu
    rw [hu] at hru
    split at he
    · rename_i es clock hb
      obtain rfl := Option.some.inj he
      obtain ⟨p, hp, rfl⟩ := hx
      obtain ⟨o, ho, ents, rfl, hrel⟩ := hr.blk hb hp
      have hl := hrel.length
      rw [Array.length_toList] at hl
      refine ⟨.int .i64 ents.size, ?_, by show Value.int .i64 _ = _; rw [hl]⟩
      simp [Builtin.len_, h0, hru, getObj, Sem.run, ho, goInt]
    · cases he
  · cases he

/-! ### min, max -/
def evMM (mx : Bool) : List EV → Option EV
  | .a (.s (.int k x)) :: rest => rest.foldlM (fun (acc : EV) (y : EV) => match acc, y with
      | .a (.s (.int k x)), .a (.s (.int _ y)) => some (.a (.s (.int k (if mx = true then (if y > x then y else x) else if y < x then y else x))))
      | _, _ => none) (.a (.s (.int k x)))
  | _ => none
theorem evMM_fold {P : Program} {E : Env} {mx : Bool} : ∀ {rest : List EV} {vs : List Value} {acc : EV} {va : Value} {r : EV} {w : World},
    rest.foldlM (fun (acc : EV) (y : EV) => match acc, y with
      | .a (.s (.int k x)), .a (.s (.int _ y)) => some (.a (.s (.int k (if mx = true then (if y > x then y else x) else if y < x then y else x))))
      | _, _ => none) acc = some r → acc.rel E va → Rels (EV.rel E) rest vs →
    ∃ v, (vs.foldlM (if mx = true then Builtin.max2 else Builtin.min2) va).run P w = .ok v w ∧ r.rel E v
  | [], [], acc, va, r, w, h, ha, _ => by
    obtain rfl := Option.some.inj h
    exact ⟨va, by simp, ha⟩
  | y :: rest, u :: vs, acc, va, r, w, h, ha, hr => by
    rw [List.foldlM_cons] at h
    replace h := Option.bind_eq_some_iff.1 h
    obtain ⟨acc2, h1, h2⟩ := h
    split at h1
    · obtain rfl := Option.some.inj h1
      obtain rfl := ha
      obtain rfl := hr.1
      have hs : ∀ (k q : IntKind) (x y : Int), ((if mx = true then Builtin.max2 else Builtin.min2) (.int k x) (.int q y)).run P w = .ok (.int k (if mx = true then (if y > x then y else x) else if y < x then y else x)) w := fun k q x y => by cases mx <;> rfl
      obtain ⟨v, h3, h4⟩ := evMM_fold (va := .int _ _) h2 rfl hr.2
      exact ⟨v, by rw [List.foldlM_cons, Sem.run_bind, hs, Result.andThen_ok]; exact h3, h4⟩
    · cases h1
  | [], _ :: _, _, _, _, _, _, _, hr => hr.elim
  | _ :: _, [], _, _, _, _, _, _, hr => hr.elim
theorem evMM_run {C : Ctx} {E : Env} {mx : Bool} {w : World} {xs : List EV} {vs : Array Value} {r : EV} {ts : Array TypeId} {ty : TypeId} (he : evMM mx xs = some r) (hx : Rels (EV.rel E) xs vs.toList) :
    Reads C E w (if mx = true then Builtin.max_ ts ty vs else Builtin.min_ ts ty vs) r := by
  unfold evMM at he
  split at he
  · rename_i k x rest
    obtain ⟨l⟩ := vs
    cases l with
    | nil => exact hx.elim
    | cons v l =>
      obtain ⟨h1, h2⟩ := hx
      obtain ⟨z, h3, h4⟩ := evMM_fold (P := C.P) (w := w) he h1 h2
      refine ⟨z, ?_, h4⟩
      cases mx
      · simpa [Builtin.min_] using h3
      · simpa [Builtin.max_] using h3
  · cases he

/-! ### copy -/
def evCopy (C : Ctx) (h : T Blk) (ts : Array TypeId) (d x : EV) : Option (EV × T Blk) :=
  (ts[0]?).bind fun t => (ts[1]?).bind fun _ => (C.tab t).bind fun e =>
    match e.und, d with
    | .slice el, .a (.s (.sl i o len _ _)) => (C.tab el).bind fun ee => (evSrc h ee.size x).bind fun q =>
      match h.get i with
      | some (.cells t' opn cl fz) =>
        if o + (min q.1 len) * ee.size ≤ cl.n then some (.a (.s (.int .i64 (min q.1 len : Nat))), h.set i (.cells t' opn (cl.puts o (q.2.take (min q.1 len * ee.size))) fz)) else none
      | _ => none
    | _, _ => none
theorem evCopy_run {C : Ctx} (hC : C.Ok) {E : Env} {h h' : T Blk} {nx : Nat} {w : World} {ts : Array TypeId} {ty : TypeId} {d x r : EV} {vd vx : Value} (he : evCopy C h ts d x = some (r, h')) (hr : HRel E h w) (hd : d.rel E vd) (hx : x.rel E vx) :
    RunsV C.P E h nx w (Builtin.copy_ ts ty #[vd, vx]) r h' nx := by
  unfold evCopy at he
  replace he := Option.bind_eq_some_iff.1 he
  obtain ⟨t, h0, he⟩ := he
  replace he := Option.bind_eq_some_iff.1 he
  obtain ⟨t1, h1, he⟩ := he
  replace he := Option.bind_eq_some_iff.1 he
  obtain ⟨e, h2, he⟩ := he
  split at he
  · rename_i el i o len c k hu
    replace he := Option.bind_eq_some_iff.1 he
    obtain ⟨ee, h3, he⟩ := he
    replace he := Option.bind_eq_some_iff.1 he
    obtain ⟨⟨n, cs⟩, hq, he⟩ := he
    simp only at he
    split at he
    · rename_i t' opn cl fz hb
      split at he
      · rename_i hfit
        simp only [Option.some.injEq, Prod.mk.injEq] at he
        obtain ⟨rfl, rfl⟩ := he
        obtain ⟨p, cp, hp, _, rfl⟩ := SV.sl_form hd
        obtain ⟨hl, hcl, hfc⟩ := evSrc_run (C := C) hq hr hx
        obtain ⟨nv, hnv, hnr⟩ := hfc (min n len) (Nat.min_le_left _ _)
        obtain ⟨w', hs, hg⟩ := HRel.run_store (P := C.P) (nx := nx) hr hb hp o hnv (by rw [List.length_take]; have : min n len * ee.size ≤ n * ee.size := Nat.mul_le_mul_right _ (Nat.min_le_left _ _); omega)
        have hru := (hC.tab t e h2).run_und w
        rw [hu] at hru
        refine ⟨.int .i64 (min n len : Nat), w', E, ?_, hg, rfl⟩
        unfold Builtin.copy_
        have hm : Nat.min n len = min n len := rfl
        simp only [h0, h1, List.getElem?_toArray, List.getElem?_cons_zero, List.getElem?_cons_succ, Sem.run_bind, hru, Result.andThen_ok, hl, (hC.tab _ _ h3).run_size w, hm, hnr w rfl, hs, Sem.run_pure, goInt]
      · cases he
    · cases he
  · cases he

/-! ### Maps -/
def evMakeMap (h : T Blk) (nx : Nat) : Res := (.a (.s (.map nx)), h.set nx (.mp [] 0), nx + 1)
theorem evMakeMap_run {C : Ctx} {E : Env} {h : T Blk} {nx : Nat} {w : World} {t : TypeId} : Runs C E h nx w (Instr.makeMap t none) (evMakeMap h nx) := by
  intro hr _ hf
  refine ⟨.map (some w.heap.size), _, _, ?_, Goes.new (o := .map #[] 0) hr (fresh1 hf) ⟨w.heap.size, 0, 0⟩ rfl ⟨#[], rfl, trivial⟩, _, Env.put_at _ _ _, rfl⟩
  simp [Instr.makeMap]

def keyKind : TypeDesc → Bool
  | .int _ | .string | .bool => true
  | _ => false
def keySame (u : TypeDesc) (a b : AV) : Option Bool :=
  match u, a, b with
  | .int _, .s (.int k a), .s (.int q b) => if k = q then some (a == b) else none
  | .string, .s (.str a), .s (.str b) => some (a == b)
  | .bool, .s (.bool a), .s (.bool b) => some (a == b)
  | _, _, _ => none
def evFind (u : TypeDesc) (k : AV) : List (AV × AV × Nat) → Nat → Option (Option (Nat × AV))
  | [], _ => some none
  | e :: es, i => (keySame u k e.1).bind fun b => if b = true then some (some (i, e.2.1)) else evFind u k es (i + 1)
theorem evFind_run {E : Env} {u : TypeDesc} {k : AV} {vk : Value} (hk : k.rel E vk) : ∀ {es : List (AV × AV × Nat)} {ents : List MapEntry} {i : Nat} {r : Option (Nat × AV)}, evFind u k es i = some r → Rels (entryRel E) es ents →
    (r = none → Instr.findNow u vk ents i = some none) ∧ ∀ j x, r = some (j, x) → ∃ v, Instr.findNow u vk ents i = some (some (j, v)) ∧ x.rel E v ∧ i ≤ j ∧ ∃ e, es[j - i]? = some e ∧ keySame u k e.1 = some true
  | [], [], i, r, h, _ => by
    obtain rfl := Option.some.inj h
    exact ⟨fun _ => rfl, fun j x e => by cases e⟩
  | e :: es, f :: ents, i, r, h, hr => by
    obtain ⟨⟨r1, r2, r3⟩, hr⟩ := hr
    unfold evFind at h
    replace h := Option.bind_eq_some_iff.1 h
    obtain ⟨b, hb, h⟩ := h
    have hsame : Instr.sameNow u vk f.key = some b := by
      unfold keySame at hb
      split at hb
      · rename_i heq
        obtain rfl := hk
        rw [heq] at r1
        have r1' : f.key = _ := r1
        rw [r1']
        exact hb
      · rename_i heq
        obtain rfl := hk
        rw [heq] at r1
        have r1' : f.key = _ := r1
        rw [r1']
        exact hb
      · rename_i heq
        obtain rfl := hk
        rw [heq] at r1
        have r1' : f.key = _ := r1
        rw [r1']
        exact hb
      · cases hb
    unfold Instr.findNow
    rw [hsame]
    cases b with
    | true =>
      simp only [if_true] at h
      obtain rfl := Option.some.inj h
      exact ⟨(fun e => by cases e), fun j x e' => by
        simp only [Option.some.injEq, Prod.mk.injEq] at e'
        obtain ⟨rfl, rfl⟩ := e'
        exact ⟨f.val, rfl, r2, Nat.le_refl _, e, by rw [Nat.sub_self]; rfl, hb⟩⟩
    | false =>
      simp only [Bool.false_eq_true, if_false] at h
      obtain ⟨h1, h2⟩ := evFind_run hk h hr
      refine ⟨h1, fun j x e' => ?_⟩
      obtain ⟨v, h3, h4, h5, e5, h6, h7⟩ := h2 j x e'
      exact ⟨v, h3, h4, by omega, e5, by rw [show j - i = (j - (i + 1)) + 1 by omega]; exact h6, h7⟩
  | [], _ :: _, _, _, _, hr => hr.elim
  | _ :: _, [], _, _, _, hr => hr.elim

def evLookup (C : Ctx) (h : T Blk) (t : TypeId) (ok : Bool) (m k : EV) : Option EV :=
  (C.tab t).bind fun e =>
    match e.und, m, k with
    | .map kt et, .a (.s m), .a k => (C.tab kt).bind fun ke => (C.tab et).bind fun ee => (litAV ee.zero).bind fun z =>
      if keyKind ke.und = false then none else
      (match m with
        | .nilm => some []
        | .map i => (match h.get i with | some (.mp es _) => some es | _ => none)
        | _ => none : Option (List (AV × AV × Nat))).bind fun es => (evFind ke.und k es 0).map fun r =>
        match r with
        | some (_, v) => if ok = true then .tup [v, .s (.bool true)] else .a v
        | none => if ok = true then .tup [z, .s (.bool false)] else .a z
    | _, _, _ => none
theorem run_checkKey {C : Ctx} (hC : C.Ok) {kt : TypeId} {ke : TE} (hk : C.tab kt = some ke) (hu : keyKind ke.und = true) (b : Bool) (v : Value) (w : World) : (Instr.checkKey b 10000 kt v).run C.P w = .ok () w := by
  have hru := (hC.tab _ _ hk).run_und w
  unfold Instr.checkKey
  simp only [Sem.run_bind, hru, Result.andThen_ok]
  cases hv : ke.und <;> rw [hv] at hu <;> first | (cases hu; done) | rfl
theorem run_getMap {P : Program} {w : World} {r : Nat} {ents : Array MapEntry} {clock : Nat} (h : w.heap[r]? = some (.map ents clock)) : (getObj r).run P w = .ok (.map ents clock) w := by
  simp only [getObj, Sem.run, h]
theorem run_findKey {C : Ctx} (hC : C.Ok) {kt : TypeId} {ke : TE} (hk : C.tab kt = some ke) {v : Value} {ents : List MapEntry} {r : Option (Nat × Value)} (h : Instr.findNow ke.und v ents 0 = some r) (w : World) : (Instr.findKey kt v ents).run C.P w = .ok r w := by
  simp only [Instr.findKey, Sem.run_bind, (hC.tab _ _ hk).run_und w, Result.andThen_ok, h, Sem.run_pure]

theorem evLookup_run {C : Ctx} (hC : C.Ok) {E : Env} {h : T Blk} {w : World} {t : TypeId} {ok : Bool} {m k r : EV} {vm vk : Value} (he : evLookup C h t ok m k = some r) (hr : HRel E h w) (hm : m.rel E vm) (hk : k.rel E vk) : Reads C E w (Instr.lookup t vm vk ok) r := by
  unfold evLookup at he
  replace he := Option.bind_eq_some_iff.1 he
  obtain ⟨e, h0, he⟩ := he
  split at he
  · rename_i kt et m k hu
    replace he := Option.bind_eq_some_iff.1 he
    obtain ⟨ke, h1, he⟩ := he
    replace he := Option.bind_eq_some_iff.1 he
    obtain ⟨ee, h2, he⟩ := he
    replace he := Option.bind_eq_some_iff.1 he
    obtain ⟨z, h3, he⟩ := he
    split at he
    · cases he
    rename_i hkk
    have hkk' : keyKind ke.und = true := by simpa using hkk
    replace he := Option.bind_eq_some_iff.1 he
    obtain ⟨es, h4, he⟩ := he
    obtain ⟨q, h5, rfl⟩ := Option.map_eq_some_iff.1 he
    have hru := (hC.tab t e h0).run_und w
    rw [hu] at hru
    have hz := litAV_rel (E := E) h3
    have hform : (vm = .map none ∧ es = []) ∨ ∃ b ents clock, vm = .map (some b) ∧ w.heap[b]? = some (.map ents clock) ∧ Rels (entryRel E) es ents.toList := by
      split at h4
      · obtain rfl := Option.some.inj h4
        exact .inl ⟨hm, rfl⟩
      · split at h4
        · rename_i i _ es' clock hb
          obtain rfl := Option.some.inj h4
          obtain ⟨p, hp, rfl⟩ := hm
          obtain ⟨o, ho, ents, rfl, hrel⟩ := hr.blk hb hp
          exact .inr ⟨p.blk, ents, clock, rfl, ho, hrel⟩
        · cases h4
      · cases h4
    have hzr := (hC.tab _ _ h2).run_zero w
    rcases hform with ⟨rfl, rfl⟩ | ⟨b, ents, clock, rfl, ho, hrel⟩
    · obtain rfl := Option.some.inj h5
      have hck := run_checkKey hC h1 hkk' true vk w
      have hf := run_findKey hC h1 (v := vk) (ents := []) (r := none) rfl w
      refine ⟨if ok = true then .tuple #[ee.zero, .bool false] else ee.zero, ?_, ?_⟩
      · simp [Instr.lookup, hru, hck, hf, hzr]
      · cases ok
        · exact hz
        · exact ⟨[ee.zero, .bool false], rfl, hz, rfl, trivial⟩
    · obtain ⟨f1, f2⟩ := evFind_run hk h5 hrel
      have hck := run_checkKey hC h1 hkk' ents.isEmpty vk w
      have hgm := run_getMap (P := C.P) ho
      cases q with
      | none =>
        have hf := run_findKey hC h1 (f1 rfl) w
        refine ⟨if ok = true then .tuple #[ee.zero, .bool false] else ee.zero, ?_, ?_⟩
        · simp [Instr.lookup, hru, hgm, hck, hf, hzr]
        · cases ok
          · exact hz
          · exact ⟨[ee.zero, .bool false], rfl, hz, rfl, trivial⟩
      | some x =>
        obtain ⟨j, x⟩ := x
        obtain ⟨v, h6, h7, _⟩ := f2 j x rfl
        have hf := run_findKey hC h1 h6 w
        refine ⟨if ok = true then .tuple #[v, .bool true] else v, ?_, ?_⟩
        · simp [Instr.lookup, hru, hgm, hck, hf]
        · cases ok
          · exact h7
          · exact ⟨[v, .bool true], rfl, h7, rfl, trivial⟩
  · cases he

/-! An entry that is laid. -/
def setEntry (es : List (AV × AV × Nat)) (i : Nat) (k v : AV) : List (AV × AV × Nat) :=
  match es, i with
  | [], _ => []
  | e :: r, 0 => (k, v, e.2.2) :: r
  | e :: r, i + 1 => e :: setEntry r i k v
def evMapUpdate (C : Ctx) (h : T Blk) (t : TypeId) (m k v : EV) : Option (T Blk) :=
  (C.tab t).bind fun e =>
    match e.und, m, k, v with
    | .map kt _, .a (.s (.map i)), .a k, .a v => (C.tab kt).bind fun ke =>
      if keyKind ke.und = false then none else
      match h.get i with
      | some (.mp es clock) => (evFind ke.und k es 0).map fun r =>
        match r with
        | some (j, _) => h.set i (.mp (setEntry es j k v) clock)
        | none => h.set i (.mp (es ++ [(k, v, clock)]) (clock + 1))
      | _ => none
    | _, _, _, _ => none
theorem setEntry_rel {E : Env} {k v : AV} {vk vv : Value} (hk : k.rel E vk) (hv : v.rel E vv) : ∀ {es : List (AV × AV × Nat)} {ents : List MapEntry} (i : Nat), Rels (entryRel E) es ents → Rels (entryRel E) (setEntry es i k v) (ents.modify i fun e => { e with key := vk, val := vv })
  | [], [], _, _ => by simp [setEntry, Rels]
  | e :: r, f :: fs, 0, h => by
    rw [List.modify_cons]
    exact ⟨⟨hk, hv, h.1.2.2⟩, h.2⟩
  | e :: r, f :: fs, i + 1, h => by
    rw [List.modify_cons]
    exact ⟨h.1, setEntry_rel hk hv i h.2⟩
  | [], _ :: _, _, h => h.elim
  | _ :: _, [], _, h => h.elim
theorem sameBits_key {E : Env} {u : TypeDesc} {a b : AV} {va vb : Value} (h : keySame u a b = some true) (ha : a.rel E va) (hb : b.rel E vb) : Instr.sameBits 10000 vb va = true ∧ va = vb := by
  unfold keySame at h
  split at h
  · obtain rfl := ha
    obtain rfl := hb
    split at h
    · rename_i hk
      have := Option.some.inj h
      rw [beq_iff_eq] at this
      subst hk
      subst this
      exact ⟨by simp [Instr.sameBits], rfl⟩
    · cases h
  · obtain rfl := ha
    obtain rfl := hb
    have := Option.some.inj h
    rename_i x y
    have e : x.toList = y.toList := by
      rw [beq_toListBytes, beq_iff_eq] at this
      exact this
    have e2 : x = y := by
      rw [ByteArray.toList_eq, ByteArray.toList_eq] at e
      obtain ⟨⟨x⟩⟩ := x
      obtain ⟨⟨y⟩⟩ := y
      simp only at e
      rw [e]
    subst e2
    exact ⟨by unfold Instr.sameBits; rw [beq_toListBytes]; exact beq_self_eq_true _, rfl⟩
  · obtain rfl := ha
    obtain rfl := hb
    have := Option.some.inj h
    rw [beq_iff_eq] at this
    subst this
    exact ⟨by simp [Instr.sameBits], rfl⟩
  · cases h
theorem set_heap (w : World) (b : Nat) (o o' : Obj) (h : w.heap[b]? = some o) : Touch b w { w with heap := w.heap.setIfInBounds b o' } ∧ ({ w with heap := w.heap.setIfInBounds b o' } : World).heap[b]? = some o' :=
  ⟨⟨rfl, rfl, rfl, by simp, fun k hk => by simp [Array.getElem?_setIfInBounds_ne (Ne.symm hk)]⟩, by simp [Array.getElem?_setIfInBounds_self_of_lt (lt_of_heap h)]⟩
theorem run_setMap {P : Program} {w : World} {r : Nat} {ents : Array MapEntry} {clock : Nat} (h : w.heap[r]? = some (.map ents clock)) (o : Obj) : (setObj r o).run P w = .ok () { w with heap := w.heap.setIfInBounds r o } := by
  simp only [setObj, Sem.run, h]
theorem evMapUpdate_run {C : Ctx} (hC : C.Ok) {E : Env} {h h' : T Blk} {nx : Nat} {w : World} {t : TypeId} {m k v : EV} {vm vk vv : Value} (he : evMapUpdate C h t m k v = some h') (hr : HRel E h w) (hm : m.rel E vm) (hk : k.rel E vk) (hv : v.rel E vv) :
    ∃ w', (Instr.mapUpdate t vm vk vv).run C.P w = .ok () w' ∧ Goes E h nx w E h' nx w' := by
  unfold evMapUpdate at he
  replace he := Option.bind_eq_some_iff.1 he
  obtain ⟨e, h0, he⟩ := he
  split at he
  · rename_i kt et i k v hu
    replace he := Option.bind_eq_some_iff.1 he
    obtain ⟨ke, h1, he⟩ := he
    split at he
    · cases he
    rename_i hkk
    have hkk' : keyKind ke.und = true := by simpa using hkk
    have hru := (hC.tab t e h0).run_und w
    rw [hu] at hru
    split at he
    · rename_i es clock hb
      obtain ⟨q, h5, rfl⟩ := Option.map_eq_some_iff.1 he
      obtain ⟨p, hp, rfl⟩ := hm
      obtain ⟨o, ho, ents, rfl, hrel⟩ := hr.blk hb hp
      obtain ⟨f1, f2⟩ := evFind_run hk h5 hrel
      have hck := run_checkKey hC h1 hkk' false vk w
      have hgm := run_getMap (P := C.P) ho
      cases q with
      | none =>
        have hf := run_findKey hC h1 (f1 rfl) w
        obtain ⟨ht, hs⟩ := set_heap w p.blk _ (.map (ents.push { key := vk, val := vv, born := clock }) (clock + 1)) ho
        refine ⟨_, ?_, Goes.write hr hb hp ht hs ⟨_, rfl, ?_⟩⟩
        · simp [Instr.mapUpdate, hru, hgm, hck, hf, run_setMap ho]
        · rw [Array.toList_push]
          exact hrel.app ⟨⟨hk, hv, rfl⟩, trivial⟩
      | some x =>
        obtain ⟨j, x⟩ := x
        obtain ⟨u, h6, h7, _, e5, h8, h9⟩ := f2 j x rfl
        rw [Nat.sub_zero] at h8
        have hf := run_findKey hC h1 h6 w
        obtain ⟨f, hfe, hfr⟩ := hrel.get j e5 h8
        rw [Array.getElem?_toList] at hfe
        obtain ⟨hsb, hke⟩ := sameBits_key h9 hk hfr.1
        obtain ⟨ht, hs⟩ := set_heap w p.blk _ (.map (ents.modify j fun e => { e with key := vk, val := vv }) clock) ho
        refine ⟨_, ?_, Goes.write hr hb hp ht hs ⟨_, rfl, ?_⟩⟩
        · simp [Instr.mapUpdate, hru, hgm, hck, hf, hfe, Instr.keyThatStays, hsb, run_setMap ho]
        · rw [Array.toList_modify]
          exact setEntry_rel hk hv j hrel
    · cases he
  · cases he

end Go.Proofs.YtoehfadjpficiaaGreat.Ev
