/- Texts of this seat joined into one: Ev9, EvM, EvA, EvB. -/
import Derived.Test.YtcnimekhpnejlaaGreatVB1
import Derived.Laws.BytesString
import Derived.Laws.IdiomRangeMap
import Derived.Tactics
import Derived.Laws.IdiomStrings

/- The evaluator: copy, len, min, max, maps. -/
namespace Go.Proofs.YtcnimekhpnejlaaGreat.Ev
open Go Go.RowKit
set_option linter.unusedVariables false
set_option linter.unusedSimpArgs false

def evLen (C : Ctx) (h : T Blk) (ts : Array TypeId) (x : EV) : Option EV :=
  (ts[0]?).bind fun t => (C.tab t).bind fun e =>
    match e.und, x with
    | .string, .a (.s (.str s)) => some (.a (.s (.int .i64 s.size)))
    | .array n _, _ => some (.a (.s (.int .i64 n)))
    | .slice _, .a (.s .nils) => some (.a (.s (.int .i64 0)))
    | .string, .a (.s (.xs e)) => some (.a (.s (.xi .i64 (.len e))))
    | .slice _, .a (.s (.slz _)) => some (.a (.s (.int .i64 0)))
    | .slice _, .a (.s (.sl _ _ len _ _)) => some (.a (.s (.int .i64 len)))
    | .map _ _, .a (.s .nilm) => some (.a (.s (.int .i64 0)))
    | .map _ _, .a (.s (.map i)) =>
      match h.get i with
      | some (.mp es _) => some (.a (.s (.int .i64 es.length)))
      | _ => none
    | _, _ => none
theorem evLen_run {C : Ctx} (hC : C.Ok) {E : Env} {h : T Blk} {w : World} {ts : Array TypeId} {ty : TypeId} {x r : EV} {v : Value} (hρ : E.ρ = C.ρ) (he : evLen C h ts x = some r) (hr : HRel E h w) (hx : x.rel E v) : Reads C E w (Builtin.len_ ts ty #[v]) r := by
  unfold evLen at he
  replace he := Option.bind_eq_some_iff.1 he
  obtain ⟨t, h0, he⟩ := he
  replace he := Option.bind_eq_some_iff.1 he
  obtain ⟨e, h1, he⟩ := he
  have hru := (hC.tab t e h1).run_und w
  split at he
  · rename_i s hu
    rw [hu] at hru
    obtain rfl := Option.some.inj he
    obtain rfl := hx
    exact ⟨_, by simp [Builtin.len_, h0, hru, goInt], rfl⟩
  · rename_i n el hu
    rw [hu] at hru
    obtain rfl := Option.some.inj he
    exact ⟨_, by simp [Builtin.len_, h0, hru, goInt], rfl⟩
  · rename_i el hu
    rw [hu] at hru
    obtain rfl := Option.some.inj he
    obtain rfl := hx
    exact ⟨_, by simp [Builtin.len_, h0, hru, goInt], rfl⟩
  · rename_i s hu
    rw [hu] at hru
    obtain rfl := Option.some.inj he
    obtain rfl := hx
    exact ⟨.int .i64 ((s.str E.ρ).size : Nat), by simp [Builtin.len_, h0, hru, goInt], rfl⟩
  · rename_i el c hu
    rw [hu] at hru
    obtain rfl := Option.some.inj he
    obtain ⟨a, cp, rfl⟩ := SV.slz_form hx
    exact ⟨_, by simp [Builtin.len_, h0, hru, goInt], rfl⟩
  · rename_i el i o len c k hu
    rw [hu] at hru
    obtain rfl := Option.some.inj he
    obtain ⟨p, cp, _, _, rfl⟩ := SV.sl_form hx
    exact ⟨_, by simp [Builtin.len_, h0, hru, goInt], rfl⟩
  · rename_i k el hu
    rw [hu] at hru
    obtain rfl := Option.some.inj he
    obtain rfl := hx
    exact ⟨_, by simp [Builtin.len_, h0, hru, goInt], rfl⟩
  · rename_i k el i hu
    rw [hu] at hru
    split at he
    · rename_i es clock hb
      obtain rfl := Option.some.inj he
      obtain ⟨p, hp, rfl⟩ := hx
      obtain ⟨o, ho, ents, rfl, hrel⟩ := hr.blk hb hp
      obtain ⟨l, hperm, hrel, _⟩ := hrel
      have hl := hrel.length
      rw [hperm.length_eq, Array.length_toList] at hl
      refine ⟨.int .i64 ents.size, ?_, by show Value.int .i64 _ = _; rw [hl]⟩
      simp [Builtin.len_, h0, hru, getObj, Sem.run, ho, goInt]
    · cases he
  · cases he

/-! ### min, max -/
def evMMC (mx : Bool) : List EV → Option EV
  | .a (.s (.int k x)) :: rest => rest.foldlM (fun (acc : EV) (y : EV) => match acc, y with
      | .a (.s (.int k x)), .a (.s (.int _ y)) => some (.a (.s (.int k (if mx = true then (if y > x then y else x) else if y < x then y else x))))
      | _, _ => none) (.a (.s (.int k x)))
  | _ => none
theorem evMM_fold {P : Program} {E : Env} {mx : Bool} : ∀ {rest : List EV} {vs : List Value} {acc : EV} {va : Value} {r : EV} {w : World},
    rest.foldlM (fun (acc : EV) (y : EV) => match acc, y with
      | .a (.s (.int k x)), .a (.s (.int _ y)) => some (.a (.s (.int k (if mx = true then (if y > x then y else x) else if y < x then y else x))))
      | _, _ => none) acc = some r → acc.rel E va → Rels (EV.rel E) rest vs →
    ∃ v, (vs.foldlM (if mx = true then Builtin.max2 else Builtin.min2) va).run P w = .ok v w ∧ r.rel E v
  | [], [], acc, va, r, w, h, ha, _ => by
    obtain rfl := Option.some.inj h
    exact ⟨va, by simp, ha⟩
  | y :: rest, u :: vs, acc, va, r, w, h, ha, hr => by
    rw [List.foldlM_cons] at h
    replace h := Option.bind_eq_some_iff.1 h
    obtain ⟨acc2, h1, h2⟩ := h
    split at h1
    · obtain rfl := Option.some.inj h1
      obtain rfl := ha
      obtain rfl := hr.1
      have hs : ∀ (k q : IntKind) (x y : Int), ((if mx = true then Builtin.max2 else Builtin.min2) (.int k x) (.int q y)).run P w = .ok (.int k (if mx = true then (if y > x then y else x) else if y < x then y else x)) w := fun k q x y => by cases mx <;> rfl
      obtain ⟨v, h3, h4⟩ := evMM_fold (va := .int _ _) h2 rfl hr.2
      exact ⟨v, by rw [List.foldlM_cons, Sem.run_bind, hs, Result.andThen_ok]; exact h3, h4⟩
    · cases h1
  | [], _ :: _, _, _, _, _, _, _, hr => hr.elim
  | _ :: _, [], _, _, _, _, _, _, hr => hr.elim
theorem evMMC_run {C : Ctx} {E : Env} {mx : Bool} {w : World} {xs : List EV} {vs : Array Value} {r : EV} {ts : Array TypeId} {ty : TypeId} (he : evMMC mx xs = some r) (hx : Rels (EV.rel E) xs vs.toList) :
    Reads C E w (if mx = true then Builtin.max_ ts ty vs else Builtin.min_ ts ty vs) r := by
  unfold evMMC at he
  split at he
  · rename_i k x rest
    obtain ⟨l⟩ := vs
    cases l with
    | nil => exact hx.elim
    | cons v l =>
      obtain ⟨h1, h2⟩ := hx
      obtain ⟨z, h3, h4⟩ := evMM_fold (P := C.P) (w := w) he h1 h2
      refine ⟨z, ?_, h4⟩
      cases mx
      · simpa [Builtin.min_] using h3
      · simpa [Builtin.max_] using h3
  · cases he

/-- The lesser or the greater of two open ones. -/
def evMM (mx : Bool) (xs : List EV) : Option EV :=
  match evMMC mx xs with
  | some r => some r
  | none =>
    match xs with
    | [.a (.s x), .a (.s y)] => (asI x).bind fun a => (asI y).map fun b => .a (.s (.xi a.1 (if mx = true then .mx a.2 b.2 else .mn a.2 b.2)))
    | _ => none
theorem evMM_run {C : Ctx} {E : Env} {mx : Bool} {w : World} {xs : List EV} {vs : Array Value} {r : EV} {ts : Array TypeId} {ty : TypeId} (he : evMM mx xs = some r) (hx : Rels (EV.rel E) xs vs.toList) :
    Reads C E w (if mx = true then Builtin.max_ ts ty vs else Builtin.min_ ts ty vs) r := by
  unfold evMM at he
  split at he
  · rename_i r' hs
    obtain rfl := Option.some.inj he
    exact evMMC_run hs hx
  · split at he
    · rename_i x y
      obtain ⟨⟨k, a⟩, ha, he⟩ := Option.bind_eq_some_iff.1 he
      obtain ⟨⟨q, b⟩, hb, rfl⟩ := Option.map_eq_some_iff.1 he
      obtain ⟨l⟩ := vs
      match l, hx with
      | [u, v], hx =>
        have h1 : u = .int k (a.int E.ρ) := asI_rel ha hx.1
        have h2 : v = .int q (b.int E.ρ) := asI_rel hb hx.2.1
        subst h1
        subst h2
        cases mx
        · exact ⟨_, by simp only [Builtin.min_]; rfl, rfl⟩
        · exact ⟨_, by simp only [Builtin.max_]; rfl, rfl⟩
    · cases he

/-! ### copy -/
def evCopy (C : Ctx) (h : T Blk) (ts : Array TypeId) (d x : EV) : Option (EV × T Blk) :=
  (ts[0]?).bind fun t => (ts[1]?).bind fun _ => (C.tab t).bind fun e =>
    match e.und, d with
    | .slice el, .a (.s (.sl i o len _ _)) => (C.tab el).bind fun ee => (evSrc h ee.size x).bind fun q =>
      match h.get i with
      | some (.cells t' opn cl fz) =>
        if o + (min q.1 len) * ee.size ≤ cl.n then some (.a (.s (.int .i64 (min q.1 len : Nat))), h.set i (.cells t' opn (cl.puts o (q.2.take (min q.1 len * ee.size))) fz)) else none
      | _ => none
    | _, _ => none
theorem evCopy_run {C : Ctx} (hC : C.Ok) {E : Env} {h h' : T Blk} {nx : Nat} {w : World} {ts : Array TypeId} {ty : TypeId} {d x r : EV} {vd vx : Value} (he : evCopy C h ts d x = some (r, h')) (hr : HRel E h w) (hd : d.rel E vd) (hx : x.rel E vx) :
    RunsV C.P E h nx w (Builtin.copy_ ts ty #[vd, vx]) r h' nx := by
  unfold evCopy at he
  replace he := Option.bind_eq_some_iff.1 he
  obtain ⟨t, h0, he⟩ := he
  replace he := Option.bind_eq_some_iff.1 he
  obtain ⟨t1, h1, he⟩ := he
  replace he := Option.bind_eq_some_iff.1 he
  obtain ⟨e, h2, he⟩ := he
  split at he
  · rename_i el i o len c k hu
    replace he := Option.bind_eq_some_iff.1 he
    obtain ⟨ee, h3, he⟩ := he
    replace he := Option.bind_eq_some_iff.1 he
    obtain ⟨⟨n, cs⟩, hq, he⟩ := he
    simp only at he
    split at he
    · rename_i t' opn cl fz hb
      split at he
      · rename_i hfit
        simp only [Option.some.injEq, Prod.mk.injEq] at he
        obtain ⟨rfl, rfl⟩ := he
        obtain ⟨p, cp, hp, _, rfl⟩ := SV.sl_form hd
        obtain ⟨hl, hcl, hfc⟩ := evSrc_run (C := C) hq hr hx
        obtain ⟨nv, hnv, hnr⟩ := hfc (min n len) (Nat.min_le_left _ _)
        obtain ⟨w', hs, hg⟩ := HRel.run_store (P := C.P) (nx := nx) hr hb hp o hnv (by rw [List.length_take]; have : min n len * ee.size ≤ n * ee.size := Nat.mul_le_mul_right _ (Nat.min_le_left _ _); omega)
        have hru := (hC.tab t e h2).run_und w
        rw [hu] at hru
        refine ⟨.int .i64 (min n len : Nat), w', E, ?_, hg, rfl⟩
        unfold Builtin.copy_
        have hm : Nat.min n len = min n len := rfl
        simp only [h0, h1, List.getElem?_toArray, List.getElem?_cons_zero, List.getElem?_cons_succ, Sem.run_bind, hru, Result.andThen_ok, hl, (hC.tab _ _ h3).run_size w, hm, hnr w rfl, hs, Sem.run_pure, goInt]
      · cases he
    · cases he
  · cases he

/-! ### Maps -/
def evMakeMap (h : T Blk) (nx : Nat) : Res := (.a (.s (.map nx)), h.set nx (.mp [] 0), nx + 1)
theorem evMakeMap_run {C : Ctx} {E : Env} {h : T Blk} {nx : Nat} {w : World} {t : TypeId} : Runs C E h nx w (Instr.makeMap t none) (evMakeMap h nx) := by
  intro hr _ hf
  refine ⟨.map (some w.heap.size), _, _, ?_, Goes.new (o := .map #[] 0) hr (fresh1 hf) ⟨w.heap.size, 0, 0⟩ rfl ⟨#[], rfl, [], List.Perm.refl _, trivial, List.nodup_nil, fun _ h => by simp at h⟩, _, Env.put_at _ _ _, rfl⟩
  simp [Instr.makeMap]

def keyKind : TypeDesc → Bool
  | .int _ | .string | .bool => true
  | _ => false
def keySame (u : TypeDesc) (a b : AV) : Option Bool :=
  match u, a, b with
  | .int _, .s (.int k a), .s (.int q b) => if k = q then some (a == b) else none
  | .string, .s (.str a), .s (.str b) => some (a == b)
  | .bool, .s (.bool a), .s (.bool b) => some (a == b)
  | _, _, _ => none
def evHits (u : TypeDesc) (k : AV) : List (AV × AV × Nat) → Option (List (AV × AV × Nat))
  | [] => some []
  | e :: es => (keySame u k e.1).bind fun b => (evHits u k es).map fun hs => if b = true then e :: hs else hs
def hitB (u : TypeDesc) (vk : Value) (f : MapEntry) : Bool := Instr.sameNow u vk f.key == some true
theorem sameNow_rel {E : Env} {u : TypeDesc} {k e : AV} {vk v : Value} {b : Bool} (hk : k.rel E vk) (he : e.rel E v) (hb : keySame u k e = some b) : Instr.sameNow u vk v = some b := by
  unfold keySame at hb
  split at hb
  · obtain rfl := hk
    have e2 : v = _ := he
    rw [e2]
    exact hb
  · obtain rfl := hk
    have e2 : v = _ := he
    rw [e2]
    exact hb
  · obtain rfl := hk
    have e2 : v = _ := he
    rw [e2]
    exact hb
  · cases hb
theorem evHits_rel {E : Env} {u : TypeDesc} {k : AV} {vk : Value} (hk : k.rel E vk) : ∀ {es hs : List (AV × AV × Nat)} {l : List MapEntry}, evHits u k es = some hs → Rels (entryRel E) es l →
    (∀ f ∈ l, ∃ b, Instr.sameNow u vk f.key = some b) ∧ Rels (entryRel E) hs (l.filter (hitB u vk)) ∧ (∀ x ∈ hs, keySame u k x.1 = some true) ∧ Rels (fun x f => entryRel E x f ∧ (decide (keySame u k x.1 = some true)) = hitB u vk f) es l
  | [], hs, [], h, _ => by
    obtain rfl := Option.some.inj h
    exact ⟨fun f hf => by simp at hf, trivial, fun x hx => by simp at hx, trivial⟩
  | e :: es, hs, f :: l, h, hr => by
    replace h := Option.bind_eq_some_iff.1 h
    obtain ⟨b, hb, h⟩ := h
    obtain ⟨hs2, h2, rfl⟩ := Option.map_eq_some_iff.1 h
    obtain ⟨i1, i2, i3, i4⟩ := evHits_rel hk h2 hr.2
    have hsame := sameNow_rel hk hr.1.1 hb
    refine ⟨fun g hg => ?_, ?_, ?_, ⟨hr.1, ?_⟩, i4⟩
    · rcases List.mem_cons.1 hg with rfl | hg
      · exact ⟨b, hsame⟩
      · exact i1 g hg
    · rw [List.filter_cons]
      cases b with
      | true => rw [if_pos rfl, if_pos (by unfold hitB; rw [hsame]; rfl)]; exact ⟨hr.1, i2⟩
      | false => rw [if_neg (by simp), if_neg (by unfold hitB; rw [hsame]; simp)]; exact i2
    · cases b with
      | true =>
        intro x hx
        rcases List.mem_cons.1 hx with rfl | hx
        · exact hb
        · exact i3 x hx
      | false => exact i3
    · unfold hitB
      rw [hsame, hb]
      cases b <;> simp
  | [], _, _ :: _, _, hr => hr.elim
  | _ :: _, _, [], _, hr => hr.elim
theorem find_none {u : TypeDesc} {vk : Value} : ∀ {ents : List MapEntry} {i : Nat}, (∀ f ∈ ents, ∃ b, Instr.sameNow u vk f.key = some b) → ents.filter (hitB u vk) = [] → Instr.findNow u vk ents i = some none
  | [], _, _, _ => rfl
  | x :: ents, i, h, hf => by
    obtain ⟨b, hb⟩ := h x (by simp)
    rw [List.filter_cons] at hf
    unfold Instr.findNow
    cases b with
    | true => rw [if_pos (by unfold hitB; rw [hb]; rfl)] at hf; cases hf
    | false =>
      rw [if_neg (by unfold hitB; rw [hb]; simp)] at hf
      rw [hb]
      exact find_none (fun f hf => h f (by simp [hf])) hf
theorem map_id_of {u : TypeDesc} {vk : Value} (g : MapEntry → MapEntry) : ∀ {ents : List MapEntry}, ents.filter (hitB u vk) = [] → ents.map (fun y => if hitB u vk y = true then g y else y) = ents
  | [], _ => rfl
  | x :: ents, h => by
    rw [List.filter_cons] at h
    by_cases hx : hitB u vk x = true
    · rw [if_pos hx] at h; cases h
    · rw [if_neg hx] at h
      rw [List.map_cons, if_neg hx, map_id_of g h]
theorem find_one {u : TypeDesc} {vk : Value} (g : MapEntry → MapEntry) : ∀ {ents : List MapEntry} {i : Nat} {f : MapEntry}, (∀ f ∈ ents, ∃ b, Instr.sameNow u vk f.key = some b) → ents.filter (hitB u vk) = [f] →
    ∃ j, ents[j]? = some f ∧ Instr.findNow u vk ents i = some (some (i + j, f.val)) ∧ ents.modify j g = ents.map (fun y => if hitB u vk y = true then g y else y)
  | [], _, _, _, h => by cases h
  | x :: ents, i, f, h, hf => by
    obtain ⟨b, hb⟩ := h x (by simp)
    rw [List.filter_cons] at hf
    cases b with
    | true =>
      have hx : hitB u vk x = true := by unfold hitB; rw [hb]; rfl
      rw [if_pos hx] at hf
      obtain ⟨rfl, hr⟩ := List.cons.inj hf
      refine ⟨0, rfl, ?_, ?_⟩
      · unfold Instr.findNow
        rw [hb]
        rfl
      · rw [List.modify_cons, if_pos rfl, List.map_cons, if_pos hx, map_id_of g hr]
    | false =>
      have hx : ¬ hitB u vk x = true := by unfold hitB; rw [hb]; simp
      rw [if_neg hx] at hf
      obtain ⟨j, j1, j2, j3⟩ := find_one g (i := i + 1) (fun f hf => h f (by simp [hf])) hf
      refine ⟨j + 1, by simpa using j1, ?_, ?_⟩
      · unfold Instr.findNow
        rw [hb]
        simp only
        rw [j2, show i + 1 + j = i + (j + 1) by omega]
      · rw [List.modify_cons, if_neg (by omega), List.map_cons, if_neg hx, Nat.add_sub_cancel, j3]
theorem mp_find {E : Env} {u : TypeDesc} {k : AV} {vk : Value} {es hs : List (AV × AV × Nat)} {clock : Nat} {ents : Array MapEntry} (hm : mpRel E es clock ents) (hk : k.rel E vk) (hh : evHits u k es = some hs) (g : MapEntry → MapEntry) :
    (hs = [] → Instr.findNow u vk ents.toList 0 = some none) ∧ ∀ x, hs = [x] → ∃ j f, ents[j]? = some f ∧ Instr.findNow u vk ents.toList 0 = some (some (j, f.val)) ∧ entryRel E x f ∧ keySame u k x.1 = some true ∧ ents.toList.modify j g = ents.toList.map (fun y => if hitB u vk y = true then g y else y) := by
  obtain ⟨l, hp, hr, hn, hc⟩ := hm
  obtain ⟨h1, h2, h3, _⟩ := evHits_rel hk hh hr
  have h1' : ∀ f ∈ ents.toList, ∃ b, Instr.sameNow u vk f.key = some b := fun f hf => h1 f (hp.mem_iff.2 hf)
  have hpf := hp.filter (hitB u vk)
  constructor
  · rintro rfl
    have e : l.filter (hitB u vk) = [] := by
      cases hq : l.filter (hitB u vk) with
      | nil => rfl
      | cons a b => rw [hq] at h2; exact h2.elim
    rw [e] at hpf
    exact find_none h1' (List.Perm.nil_eq hpf).symm
  · rintro x rfl
    obtain ⟨f, hf, hxf⟩ : ∃ f, l.filter (hitB u vk) = [f] ∧ entryRel E x f := by
      match hq : l.filter (hitB u vk), h2 with
      | [f], h2 => exact ⟨f, rfl, h2.1⟩
      | [], h2 => exact h2.elim
      | _ :: _ :: _, h2 => exact h2.2.elim
    rw [hf] at hpf
    have e : ents.toList.filter (hitB u vk) = [f] := (List.singleton_perm.1 hpf).symm
    obtain ⟨j, j1, j2, j3⟩ := find_one g (i := 0) h1' e
    rw [Nat.zero_add] at j2
    exact ⟨j, f, by rw [← Array.getElem?_toList]; exact j1, j2, hxf, h3 x (by simp), j3⟩

/-- A key of which it is known that it is none of those that are there. -/
def isIntD : TypeDesc → Bool
  | .int _ => true
  | _ => false
def evHitsX (C : Ctx) (u : TypeDesc) (k : AV) (es : List (AV × AV × Nat)) : Option (List (AV × AV × Nat)) :=
  match k with
  | .s (.xi q e) => if (isIntD u && es.all fun x => match x.1 with | .s y => (match asI y with | some b => decide (b.1 = q) && decide (C.tru (.eq e b.2) = some false) | none => false) | _ => false) = true then some [] else none
  | k => evHits u k es
theorem mp_findX {C : Ctx} (hC : C.Ok) {E : Env} (hρ : E.ρ = C.ρ) {u : TypeDesc} {k : AV} {vk : Value} {es hs : List (AV × AV × Nat)} {clock : Nat} {ents : Array MapEntry} (hm : mpRel E es clock ents) (hk : k.rel E vk) (hh : evHitsX C u k es = some hs) :
    (hs = [] → Instr.findNow u vk ents.toList 0 = some none) ∧ ∀ x, hs = [x] → ∃ j f, Instr.findNow u vk ents.toList 0 = some (some (j, f.val)) ∧ entryRel E x f := by
  unfold evHitsX at hh
  split at hh
  · rename_i q e
    split at hh
    · rename_i hc
      obtain rfl := Option.some.inj hh
      refine ⟨fun _ => ?_, fun x hx => by cases hx⟩
      rw [Bool.and_eq_true] at hc
      obtain ⟨l, hp, hr, _⟩ := hm
      have hvk : vk = .int q (e.int E.ρ) := hk
      have hall : ∀ f ∈ ents.toList, Instr.sameNow u vk f.key = some false := fun f hf => by
        obtain ⟨n, hn⟩ := List.mem_iff_getElem?.1 (hp.mem_iff.2 hf)
        have : ∃ e, es[n]? = some e ∧ entryRel E e f := by
          have hlen := hr.length
          have hlt := (List.getElem?_eq_some_iff.1 hn).1
          obtain ⟨b, hb, hab⟩ := hr.get n es[n] (by rw [List.getElem?_eq_getElem])
          rw [hn] at hb
          obtain rfl := Option.some.inj hb
          exact ⟨_, List.getElem?_eq_getElem _, hab⟩
        obtain ⟨x, hx, hab⟩ := this
        have h := List.all_eq_true.1 hc.2 x (List.mem_of_getElem? hx)
        split at h
        · rename_i y hy
          split at h
          · rename_i b hb
            rw [Bool.and_eq_true, decide_eq_true_eq, decide_eq_true_eq] at h
            obtain ⟨rfl, h⟩ := h
            have hne : (e.int C.ρ == b.2.int C.ρ) = false := hC.tru_ok h
            have hkey := hab.1
            rw [hy] at hkey
            have hkey' : f.key = .int b.1 (b.2.int E.ρ) := asI_rel hb hkey
            rw [hvk, hkey', hρ]
            cases u <;> first
              | (simp [isIntD] at hc; done)
              | (show (if b.1 = b.1 then some (e.int C.ρ == b.2.int C.ρ) else none) = some false; rw [if_pos rfl, hne])
          · cases h
        · cases h
      refine find_none (fun f hf => ⟨false, hall f hf⟩) (List.filter_eq_nil_iff.2 fun f hf => ?_)
      unfold hitB
      rw [hall f hf]
      simp
    · cases hh
  · obtain ⟨f1, f2⟩ := mp_find hm hk hh id
    exact ⟨f1, fun x hx => by
      obtain ⟨j, f, _, h6, h7, _⟩ := f2 x hx
      exact ⟨j, f, h6, h7⟩⟩

/-! ### Keys that are structs or arrays -/
def keyF (C : Ctx) (rec : TypeId → AV → Bool) (xs : List SV) : List Field → Bool
  | [] => true
  | f :: fs =>
    (if f.name ≠ "_" then
      match C.tab f.type with
      | some e => (match evPart e xs f.offset with | some a => rec f.type a | none => false)
      | none => false
    else true) && keyF C rec xs fs
def keyI (el : TypeId) (ee : TE) (rec : TypeId → AV → Bool) (xs : List SV) : List Nat → Bool
  | [] => true
  | i :: is => (match evPart ee xs (i * ee.size) with | some a => rec el a | none => false) && keyI el ee rec xs is
def keyOk (C : Ctx) : Nat → TypeId → AV → Bool
  | 0, _, _ => false
  | d + 1, t, x =>
    match C.tab t with
    | none => false
    | some e =>
      match e.und, x with
      | .struct fs, .agg xs => keyF C (keyOk C d) xs fs.toList
      | .array n el, .agg xs => (match C.tab el with | some ee => keyI el ee (keyOk C d) xs (List.range n) | none => false)
      | .int _, .s _ => true
      | .string, .s _ => true
      | .bool, .s _ => true
      | _, _ => false
theorem keyOk_run {C : Ctx} (hC : C.Ok) {E : Env} (b : Bool) : ∀ (d D : Nat), d ≤ D → ∀ (t : TypeId) (x : AV) (v : Value), keyOk C d t x = true → x.rel E v → ∀ w, (Instr.checkKey b D t v).run C.P w = .ok () w
  | 0, _, _, _, _, _, h, _, _ => by cases h
  | d + 1, 0, hD, _, _, _, _, _, _ => by omega
  | d + 1, D + 1, hD, t, x, v, h, hx, w => by
    unfold keyOk at h
    split at h
    · cases h
    · rename_i e he
      have hru := (hC.tab t e he).run_und w
      unfold Instr.checkKey
      simp only [Sem.run_bind, hru, Result.andThen_ok]
      split at h
      · rename_i fs xs hu
        rw [hu]
        obtain ⟨vs, rfl, hvs⟩ := hx
        simp only
        rw [← Array.forIn_toList]
        revert h
        generalize fs.toList = l
        intro h
        induction l with
        | nil => simp
        | cons f fs ih =>
          unfold keyF at h
          rw [Bool.and_eq_true] at h
          obtain ⟨h1, h2⟩ := h
          rw [List.forIn_cons]
          split at h1
          · rename_i hn
            split at h1
            · rename_i e1 he1
              split at h1
              · rename_i a1 ha1
                obtain ⟨u1, hu1, hr1⟩ := run_part (hC.tab _ _ he1) hvs ha1 w
                have h3 := keyOk_run hC b d D (by omega) f.type a1 u1 h1 hr1 w
                simp only [Sem.run_bind, hn, ne_eq, not_false_eq_true, if_true, Result.andThen_ok, hu1, h3, Sem.run_pure]
                simpa only [Sem.run_bind, Sem.run_pure, ne_eq] using ih h2
              · cases h1
            · cases h1
          · rename_i hn
            have hn' : f.name = "_" := Decidable.not_not.1 hn
            simp only [hn', ne_eq, not_true_eq_false, if_false, Sem.run_bind, Sem.run_pure, Result.andThen_ok]
            simpa only [Sem.run_bind, Sem.run_pure, ne_eq] using ih h2
      · rename_i n el xs hu
        rw [hu]
        obtain ⟨vs, rfl, hvs⟩ := hx
        split at h
        · rename_i ee hee
          have hte := hC.tab _ _ hee
          obtain ⟨i, hi, _⟩ := hte.info
          simp only [Std.Legacy.Range.forIn_eq_forIn_range', Std.Legacy.Range.size, Nat.sub_zero, Nat.add_one_sub_one, Nat.div_one]
          rw [List.range_eq_range'] at h
          revert h
          generalize List.range' 0 n = l
          intro h
          induction l with
          | nil => simp
          | cons j is ih =>
            unfold keyI at h
            rw [Bool.and_eq_true] at h
            obtain ⟨h1, h2⟩ := h
            split at h1
            · rename_i a1 ha1
              obtain ⟨u1, hu1, hr1⟩ := run_part hte hvs ha1 w
              have h3 := keyOk_run hC b d D (by omega) el a1 u1 h1 hr1 w
              simp only [List.forIn_cons, Sem.run_bind, hte.run_size w, Result.andThen_ok, hu1, h3, Sem.run_pure]
              simpa only [Sem.run_bind, Sem.run_pure] using ih h2
            · cases h1
        · cases h
      · rename_i hu
        rw [hu]
        rfl
      · rename_i hu
        rw [hu]
        rfl
      · rename_i hu
        rw [hu]
        rfl
      · cases h

def evLookupC (C : Ctx) (h : T Blk) (t : TypeId) (ok : Bool) (m k : EV) : Option EV :=
  (C.tab t).bind fun e =>
    match e.und, m, k with
    | .map kt et, .a (.s m), .a k => (C.tab kt).bind fun ke => (C.tab et).bind fun ee => (litAV ee.zero).bind fun z =>
      if keyKind ke.und = false then
        if keyOk C 9 kt k = true then
          match m with
          | .nilm => some (if ok = true then .tup [z, .s (.bool false)] else .a z)
          | .map i => (match h.get i with
            | some (.mp [] _) => some (if ok = true then .tup [z, .s (.bool false)] else .a z)
            | _ => none)
          | _ => none
        else none
      else
      (match m with
        | .nilm => some []
        | .map i => (match h.get i with | some (.mp es _) => some es | _ => none)
        | _ => none : Option (List (AV × AV × Nat))).bind fun es => (evHitsX C ke.und k es).bind fun r =>
        match r with
        | [x] => some (if ok = true then .tup [x.2.1, .s (.bool true)] else .a x.2.1)
        | [] => some (if ok = true then .tup [z, .s (.bool false)] else .a z)
        | _ => none
    | _, _, _ => none
theorem run_checkKey {C : Ctx} (hC : C.Ok) {kt : TypeId} {ke : TE} (hk : C.tab kt = some ke) (hu : keyKind ke.und = true) (b : Bool) (v : Value) (w : World) : (Instr.checkKey b 10000 kt v).run C.P w = .ok () w := by
  have hru := (hC.tab _ _ hk).run_und w
  unfold Instr.checkKey
  simp only [Sem.run_bind, hru, Result.andThen_ok]
  cases hv : ke.und <;> rw [hv] at hu <;> first | (cases hu; done) | rfl
theorem run_getMap {P : Program} {w : World} {r : Nat} {ents : Array MapEntry} {clock : Nat} (h : w.heap[r]? = some (.map ents clock)) : (getObj r).run P w = .ok (.map ents clock) w := by
  simp only [getObj, Sem.run, h]
theorem run_findKey {C : Ctx} (hC : C.Ok) {kt : TypeId} {ke : TE} (hk : C.tab kt = some ke) {v : Value} {ents : List MapEntry} {r : Option (Nat × Value)} (h : Instr.findNow ke.und v ents 0 = some r) (w : World) : (Instr.findKey kt v ents).run C.P w = .ok r w := by
  simp only [Instr.findKey, Sem.run_bind, (hC.tab _ _ hk).run_und w, Result.andThen_ok, h, Sem.run_pure]

theorem evLookupC_run {C : Ctx} (hC : C.Ok) {E : Env} (hρ : E.ρ = C.ρ) {h : T Blk} {w : World} {t : TypeId} {ok : Bool} {m k r : EV} {vm vk : Value} (he : evLookupC C h t ok m k = some r) (hr : HRel E h w) (hm : m.rel E vm) (hk : k.rel E vk) : Reads C E w (Instr.lookup t vm vk ok) r := by
  unfold evLookupC at he
  replace he := Option.bind_eq_some_iff.1 he
  obtain ⟨e, h0, he⟩ := he
  split at he
  · rename_i kt et m k hu
    replace he := Option.bind_eq_some_iff.1 he
    obtain ⟨ke, h1, he⟩ := he
    replace he := Option.bind_eq_some_iff.1 he
    obtain ⟨ee, h2, he⟩ := he
    replace he := Option.bind_eq_some_iff.1 he
    obtain ⟨z, h3, he⟩ := he
    split at he
    · split at he
      · rename_i hko
        have hru := (hC.tab t e h0).run_und w
        rw [hu] at hru
        have hz := litAV_rel (E := E) h3
        have hzr := (hC.tab _ _ h2).run_zero w
        have hf := run_findKey hC h1 (v := vk) (ents := []) (r := none) rfl w
        have hck := keyOk_run hC true 9 10000 (by omega) kt k vk hko hk w
        split at he
        · obtain rfl := Option.some.inj he
          obtain rfl := hm
          refine ⟨if ok = true then .tuple #[ee.zero, .bool false] else ee.zero, ?_, ?_⟩
          · simp [Instr.lookup, hru, hck, hf, hzr]
          · cases ok
            · exact hz
            · exact ⟨[ee.zero, .bool false], rfl, hz, rfl, trivial⟩
        · split at he
          · rename_i i clock hb
            obtain rfl := Option.some.inj he
            obtain ⟨p, hp, rfl⟩ := hm
            obtain ⟨o, ho, ents, rfl, hrel⟩ := hr.blk hb hp
            obtain ⟨l, hperm, hl, _⟩ := hrel
            have hl0 : l = [] := List.length_eq_zero_iff.1 (by simpa using hl.length)
            subst hl0
            have he0 : ents = #[] := by
              have := hperm.length_eq
              rw [Array.length_toList] at this
              exact Array.eq_empty_of_size_eq_zero (by simpa using this.symm)
            subst he0
            have hgm := run_getMap (P := C.P) ho
            refine ⟨if ok = true then .tuple #[ee.zero, .bool false] else ee.zero, ?_, ?_⟩
            · simp [Instr.lookup, hru, hgm, hck, hf, hzr]
            · cases ok
              · exact hz
              · exact ⟨[ee.zero, .bool false], rfl, hz, rfl, trivial⟩
          · cases he
        · cases he
      · cases he
    rename_i hkk
    have hkk' : keyKind ke.und = true := by simpa using hkk
    replace he := Option.bind_eq_some_iff.1 he
    obtain ⟨es, h4, he⟩ := he
    replace he := Option.bind_eq_some_iff.1 he
    obtain ⟨q, h5, he⟩ := he
    have hru := (hC.tab t e h0).run_und w
    rw [hu] at hru
    have hz := litAV_rel (E := E) h3
    have hform : (vm = .map none ∧ es = []) ∨ ∃ b ents clock, vm = .map (some b) ∧ w.heap[b]? = some (.map ents clock) ∧ mpRel E es clock ents := by
      split at h4
      · obtain rfl := Option.some.inj h4
        exact .inl ⟨hm, rfl⟩
      · split at h4
        · rename_i i _ es' clock hb
          obtain rfl := Option.some.inj h4
          obtain ⟨p, hp, rfl⟩ := hm
          obtain ⟨o, ho, ents, rfl, hrel⟩ := hr.blk hb hp
          exact .inr ⟨p.blk, ents, clock, rfl, ho, hrel⟩
        · cases h4
      · cases h4
    have hzr := (hC.tab _ _ h2).run_zero w
    rcases hform with ⟨rfl, rfl⟩ | ⟨b, ents, clock, rfl, ho, hrel⟩
    · obtain rfl : q = [] := by
        unfold evHitsX at h5
        split at h5
        · split at h5
          · exact (Option.some.inj h5).symm
          · cases h5
        · exact (Option.some.inj h5).symm
      obtain rfl := Option.some.inj he
      have hck := run_checkKey hC h1 hkk' true vk w
      have hf := run_findKey hC h1 (v := vk) (ents := []) (r := none) rfl w
      refine ⟨if ok = true then .tuple #[ee.zero, .bool false] else ee.zero, ?_, ?_⟩
      · simp [Instr.lookup, hru, hck, hf, hzr]
      · cases ok
        · exact hz
        · exact ⟨[ee.zero, .bool false], rfl, hz, rfl, trivial⟩
    · obtain ⟨f1, f2⟩ := mp_findX hC hρ hrel hk h5
      have hck := run_checkKey hC h1 hkk' ents.isEmpty vk w
      have hgm := run_getMap (P := C.P) ho
      match q, he, f1, f2 with
      | [], he, f1, f2 =>
        obtain rfl := Option.some.inj he
        have hf := run_findKey hC h1 (f1 rfl) w
        refine ⟨if ok = true then .tuple #[ee.zero, .bool false] else ee.zero, ?_, ?_⟩
        · simp [Instr.lookup, hru, hgm, hck, hf, hzr]
        · cases ok
          · exact hz
          · exact ⟨[ee.zero, .bool false], rfl, hz, rfl, trivial⟩
      | [x], he, f1, f2 =>
        obtain rfl := Option.some.inj he
        obtain ⟨j, f, h6, h7⟩ := f2 x rfl
        have hf := run_findKey hC h1 h6 w
        refine ⟨if ok = true then .tuple #[f.val, .bool true] else f.val, ?_, ?_⟩
        · simp [Instr.lookup, hru, hgm, hck, hf]
        · cases ok
          · exact h7.2.1
          · exact ⟨[f.val, .bool true], rfl, h7.2.1, rfl, trivial⟩
      | _ :: _ :: _, he, _, _ => cases he
  · cases he

/-- Where a key of an opaque map's leads, as far as it is told. -/
def lookL (C : Ctx) (k : X) : List (X × Nat) → Option (Option Nat)
  | [] => some none
  | q :: l => if q.1 = k then some (some q.2) else
    match C.tru (.eq q.1 k) with
    | some true => some (some q.2)
    | some false => lookL C k l
    | none => none
theorem lookL_ok {C : Ctx} (hC : C.Ok) {E : Env} (hρ : E.ρ = C.ρ) {k : X} : ∀ {ls : List (X × Nat)} {r : Option Nat}, lookL C k ls = some r → linksOf E ls (k.int E.ρ) = r.bind fun i => (E.m i).map (·.blk)
  | [], r, h => by
    obtain rfl := Option.some.inj h
    rfl
  | q :: l, r, h => by
    unfold lookL at h
    unfold linksOf
    rw [List.find?_cons]
    split at h
    · rename_i e
      obtain rfl := Option.some.inj h
      rw [e]
      simp
    · split at h
      · rename_i e
        obtain rfl := Option.some.inj h
        have h1 : (q.1.int C.ρ == k.int C.ρ) = true := hC.tru_ok e
        rw [← hρ] at h1
        rw [beq_iff_eq.1 h1]
        simp
      · rename_i e
        have h1 : (q.1.int C.ρ == k.int C.ρ) = false := hC.tru_ok e
        rw [← hρ] at h1
        have h2 : decide (q.1.int E.ρ = k.int E.ρ) = false := by simpa using h1
        rw [h2]
        exact lookL_ok hC hρ h
      · cases h
theorem lookL_mem {C : Ctx} {k : X} : ∀ {ls : List (X × Nat)} {j : Nat}, lookL C k ls = some (some j) → ∃ q ∈ ls, q.2 = j
  | [], j, h => by cases h
  | q :: l, j, h => by
    unfold lookL at h
    split at h
    · exact ⟨q, by simp, Option.some.inj (Option.some.inj h)⟩
    · split at h
      · exact ⟨q, by simp, Option.some.inj (Option.some.inj h)⟩
      · obtain ⟨q', h1, h2⟩ := lookL_mem h
        exact ⟨q', by simp [h1], h2⟩
      · cases h
def evLookO (C : Ctx) (h : T Blk) (t : TypeId) (ok : Bool) (m k : EV) : Option EV :=
  match m, k with
  | .a (.s (.map i)), .a (.s y) =>
    match h.get i with
    | some (.opq b ls) => if ok = true then C.olk t b ls y else none
    | _ => none
  | _, _ => none
theorem evLookO_run {C : Ctx} (hC : C.Ok) {E : Env} (hρ : E.ρ = C.ρ) {h : T Blk} {w : World} {t : TypeId} {ok : Bool} {m k r : EV} {vm vk : Value} (he : evLookO C h t ok m k = some r) (hr : HRel E h w) (hm : m.rel E vm) (hk : k.rel E vk) : Reads C E w (Instr.lookup t vm vk ok) r := by
  unfold evLookO at he
  split at he
  · rename_i i y
    split at he
    · rename_i b ls hb
      split at he
      · rename_i hok
        subst hok
        obtain ⟨p, hp, rfl⟩ := hm
        obtain ⟨o, ho, hd, hl, hoq⟩ := hr.blk hb hp
        rw [hρ] at hoq
        exact hC.olk t b ls y r he E o w p.blk vk hρ hl hoq ho hk
      · cases he
    · cases he
  · cases he
def evLookup (C : Ctx) (h : T Blk) (t : TypeId) (ok : Bool) (m k : EV) : Option EV :=
  match evLookupC C h t ok m k with
  | some r => some r
  | none => evLookO C h t ok m k
theorem evLookup_run {C : Ctx} (hC : C.Ok) {E : Env} (hρ : E.ρ = C.ρ) {h : T Blk} {w : World} {t : TypeId} {ok : Bool} {m k r : EV} {vm vk : Value} (he : evLookup C h t ok m k = some r) (hr : HRel E h w) (hm : m.rel E vm) (hk : k.rel E vk) : Reads C E w (Instr.lookup t vm vk ok) r := by
  unfold evLookup at he
  split at he
  · rename_i r' hs
    obtain rfl := Option.some.inj he
    exact evLookupC_run hC hρ hs hr hm hk
  · exact evLookO_run hC hρ he hr hm hk

/-! An entry that is laid. -/
def insPos (k : AV) : List (AV × AV × Nat) → Nat
  | [] => 0
  | e :: es =>
    match k, e.1 with
    | .s (.int _ a), .s (.int _ b) => if b < a then insPos k es + 1 else 0
    | _, _ => insPos k es + 1
def evMapUpdateC (C : Ctx) (h : T Blk) (nx : Nat) (t : TypeId) (m k v : EV) : Option (T Blk × Nat) :=
  (C.tab t).bind fun e =>
    match e.und, m, k, v with
    | .map kt _, .a (.s (.map i)), .a k, .a v => (C.tab kt).bind fun ke =>
      if keyKind ke.und = false then
        if keyOk C 9 kt k = true then
          match h.get i with
          | some (.mp [] clock) => some (h.set i (.mp [(k, v, nx)] (clock + 1)), nx + 1)
          | _ => none
        else none
      else
      match h.get i with
      | some (.mp es clock) => (evHits ke.und k es).bind fun r =>
        match r with
        | [_] => some (h.set i (.mp (es.map fun y => if keySame ke.und k y.1 = some true then (k, v, y.2.2) else y) clock), nx)
        | [] => some (h.set i (.mp (es.take (insPos k es) ++ (k, v, nx) :: es.drop (insPos k es)) (clock + 1)), nx + 1)
        | _ => none
      | _ => none
    | _, _, _, _ => none
/-- A number that stands for a stamp. -/
theorem Goes.name {E : Env} {h : T Blk} {nx : Nat} {w : World} (hr : HRel E h w) (hn : E.m nx = none) (p : Pl) : Goes E h nx w (E.put nx p) h (nx + 1) w := by
  have e : ∀ i b, h.get i = some b → (E.put nx p).m i = E.m i := fun i b hb => by
    obtain ⟨q, _, hq, _⟩ := hr.at_ i b hb
    exact Env.put_ne E p fun h => by subst h; rw [hn] at hq; cases hq
  exact {
    ext := Env.ext_put hn
    out := fun i hi => Env.put_ne E p (by omega)
    le := by omega
    rel := ⟨fun i b hb => by
        obtain ⟨q, o, hq, ho, hb2⟩ := hr.at_ i b hb
        exact ⟨q, o, by rw [e i b hb]; exact hq, ho, Blk.ext (Env.ext_put hn) hb2⟩,
      fun i j b c q r hb hc hq hr2 => by
        rw [e i b hb] at hq
        rw [e j c hc] at hr2
        exact hr.inj i j b c q r hb hc hq hr2, (hr.abs.carry (E' := E.put nx p) (h' := h) (w' := w) rfl (Nat.le_refl _) (fun _ _ _ _ _ _ _ => rfl) (fun i2 e2 q hi hq => ⟨hi, by rw [← e i2 _ hi]; exact hq⟩) (fun j c q hj hq => .inl ⟨c, hj, by rw [← e j c hj]; exact hq⟩)).1⟩
    frame := Frame.refl _ _ _
    uown := fun i2 e2 q hi hq k hk => .inl (.abs hi (by rw [← e i2 _ hi]; exact hq) hk)
    ids := fun i b hb => .inl ⟨b, hb⟩
    own := fun i b q hb hq => .inl ⟨i, b, q, hb, by rw [← e i b hb]; exact hq, rfl⟩ }
theorem Rels.map_both {α β : Type} {R S : α → β → Prop} {f : α → α} {g : β → β} (h : ∀ a b, R a b → S (f a) (g b)) : ∀ {as : List α} {bs : List β}, Rels R as bs → Rels S (as.map f) (bs.map g)
  | [], [], _ => trivial
  | a :: as, b :: bs, hr => ⟨h a b hr.1, Rels.map_both h hr.2⟩
  | [], _ :: _, hr => hr.elim
  | _ :: _, [], hr => hr.elim
theorem sameBits_key {E : Env} {u : TypeDesc} {a b : AV} {va vb : Value} (h : keySame u a b = some true) (ha : a.rel E va) (hb : b.rel E vb) : Instr.sameBits 10000 vb va = true ∧ va = vb := by
  unfold keySame at h
  split at h
  · obtain rfl := ha
    obtain rfl := hb
    split at h
    · rename_i hk
      have := Option.some.inj h
      rw [beq_iff_eq] at this
      subst hk
      subst this
      exact ⟨by simp [Instr.sameBits], rfl⟩
    · cases h
  · obtain rfl := ha
    obtain rfl := hb
    have := Option.some.inj h
    rename_i x y
    have e : x.toList = y.toList := by
      rw [beq_toListBytes, beq_iff_eq] at this
      exact this
    have e2 : x = y := by
      rw [ByteArray.toList_eq, ByteArray.toList_eq] at e
      obtain ⟨⟨x⟩⟩ := x
      obtain ⟨⟨y⟩⟩ := y
      simp only at e
      rw [e]
    subst e2
    exact ⟨by unfold Instr.sameBits; rw [beq_toListBytes]; exact beq_self_eq_true _, rfl⟩
  · obtain rfl := ha
    obtain rfl := hb
    have := Option.some.inj h
    rw [beq_iff_eq] at this
    subst this
    exact ⟨by simp [Instr.sameBits], rfl⟩
  · cases h
theorem set_heap (w : World) (b : Nat) (o o' : Obj) (h : w.heap[b]? = some o) : Touch b w { w with heap := w.heap.setIfInBounds b o' } ∧ ({ w with heap := w.heap.setIfInBounds b o' } : World).heap[b]? = some o' :=
  ⟨⟨rfl, rfl, rfl, by simp, fun k hk => by simp [Array.getElem?_setIfInBounds_ne (Ne.symm hk)]⟩, by simp [Array.getElem?_setIfInBounds_self_of_lt (lt_of_heap h)]⟩
theorem run_setMap {P : Program} {w : World} {r : Nat} {ents : Array MapEntry} {clock : Nat} (h : w.heap[r]? = some (.map ents clock)) (o : Obj) : (setObj r o).run P w = .ok () { w with heap := w.heap.setIfInBounds r o } := by
  simp only [setObj, Sem.run, h]
theorem evMapUpdateC_run {C : Ctx} (hC : C.Ok) {E : Env} {h : T Blk} {nx : Nat} {w : World} {t : TypeId} {m k v : EV} {vm vk vv : Value} {r : T Blk × Nat} (he : evMapUpdateC C h nx t m k v = some r) (hr : HRel E h w) (hm : m.rel E vm) (hk : k.rel E vk) (hv : v.rel E vv) (hfr : Fresh E nx r.2) :
    ∃ w' E', (Instr.mapUpdate t vm vk vv).run C.P w = .ok () w' ∧ Goes E h nx w E' r.1 r.2 w' := by
  unfold evMapUpdateC at he
  replace he := Option.bind_eq_some_iff.1 he
  obtain ⟨e, h0, he⟩ := he
  split at he
  · rename_i kt et i k v hu
    replace he := Option.bind_eq_some_iff.1 he
    obtain ⟨ke, h1, he⟩ := he
    split at he
    · split at he
      · rename_i hko
        have hru := (hC.tab t e h0).run_und w
        rw [hu] at hru
        split at he
        · rename_i clock hb
          obtain rfl := Option.some.inj he
          obtain ⟨p, hp, rfl⟩ := hm
          obtain ⟨o, ho, ents, rfl, hrel⟩ := hr.blk hb hp
          obtain ⟨l, hperm, hl, _⟩ := hrel
          have hl0 : l = [] := List.length_eq_zero_iff.1 (by simpa using hl.length)
          subst hl0
          have he0 : ents = #[] := by
            have := hperm.length_eq
            rw [Array.length_toList] at this
            exact Array.eq_empty_of_size_eq_zero (by simpa using this.symm)
          subst he0
          have hgm := run_getMap (P := C.P) ho
          have hf := run_findKey hC h1 (v := vk) (ents := []) (r := none) rfl w
          have hck := keyOk_run hC false 9 10000 (by omega) kt k vk hko hk w
          have hn := fresh1 hfr
          have hg := Goes.name hr hn ⟨0, clock, 0⟩
          obtain ⟨ht, hs⟩ := set_heap w p.blk _ (.map (#[].push { key := vk, val := vv, born := clock }) (clock + 1)) ho
          have hext := Env.ext_put (p := ⟨0, clock, 0⟩) hn
          refine ⟨_, _, ?_, hg.trans (Goes.write hg.rel hb (hext.m _ _ hp) ht hs ⟨_, rfl, [{ key := vk, val := vv, born := clock }], List.Perm.refl _, ⟨⟨AV.ext hext hk, AV.ext hext hv, ⟨0, clock, 0⟩, Env.put_at _ _ _, rfl⟩, trivial⟩, by simp, by simp⟩)⟩
          simp [Instr.mapUpdate, hru, hgm, hck, hf, run_setMap ho]
        · cases he
      · cases he
    rename_i hkk
    have hkk' : keyKind ke.und = true := by simpa using hkk
    have hru := (hC.tab t e h0).run_und w
    rw [hu] at hru
    split at he
    · rename_i es clock hb
      replace he := Option.bind_eq_some_iff.1 he
      obtain ⟨q, h5, he⟩ := he
      obtain ⟨p, hp, rfl⟩ := hm
      obtain ⟨o, ho, ents, rfl, hrel⟩ := hr.blk hb hp
      obtain ⟨f1, f2⟩ := mp_find hrel hk h5 (fun e => { e with key := vk, val := vv })
      have hck := run_checkKey hC h1 hkk' false vk w
      have hgm := run_getMap (P := C.P) ho
      obtain ⟨l, hperm, hl, hnd, hlt⟩ := hrel
      split at he
      · rename_i x
        obtain rfl := Option.some.inj he
        obtain ⟨j, f, hfe, h6, h7, h9, hmod⟩ := f2 x rfl
        have hf := run_findKey hC h1 h6 w
        obtain ⟨hsb, hke⟩ := sameBits_key h9 hk h7.1
        obtain ⟨ht, hs⟩ := set_heap w p.blk _ (.map (ents.modify j fun e => { e with key := vk, val := vv }) clock) ho
        obtain ⟨_, _, _, i4⟩ := evHits_rel hk h5 hl
        refine ⟨_, E, ?_, Goes.write hr hb hp ht hs ⟨_, rfl, l.map (fun y => if hitB ke.und vk y = true then { y with key := vk, val := vv } else y), ?_, ?_, ?_, ?_⟩⟩
        · simp [Instr.mapUpdate, hru, hgm, hck, hf, hfe, Instr.keyThatStays, hsb, run_setMap ho]
        · rw [Array.toList_modify, hmod]
          exact hperm.map _
        · refine Rels.map_both (fun a b hab => ?_) i4
          obtain ⟨hab, hd⟩ := hab
          by_cases hq : keySame ke.und k a.1 = some true
          · rw [if_pos hq, if_pos (by rw [← hd]; exact decide_eq_true hq)]
            exact ⟨hk, hv, hab.2.2⟩
          · rw [if_neg hq, if_neg (by rw [← hd]; simpa using hq)]
            exact hab
        · rw [List.map_map]
          have : (fun y : MapEntry => y.born) ∘ (fun y => if hitB ke.und vk y = true then { y with key := vk, val := vv } else y) = fun y => y.born := by
            funext y
            simp only [Function.comp]
            split <;> rfl
          rw [this]
          exact hnd
        · intro y hy
          obtain ⟨z, hz, rfl⟩ := List.mem_map.1 hy
          have := hlt z hz
          split <;> exact this
      · obtain rfl := Option.some.inj he
        have hf := run_findKey hC h1 (f1 rfl) w
        have hn := fresh1 hfr
        have hg := Goes.name hr hn ⟨0, clock, 0⟩
        obtain ⟨ht, hs⟩ := set_heap w p.blk _ (.map (ents.push { key := vk, val := vv, born := clock }) (clock + 1)) ho
        have hpm : (l.take (insPos k es) ++ ({ key := vk, val := vv, born := clock } : MapEntry) :: l.drop (insPos k es)).Perm ({ key := vk, val := vv, born := clock } :: l) := by
          have := List.perm_middle (a := ({ key := vk, val := vv, born := clock } : MapEntry)) (l₁ := l.take (insPos k es)) (l₂ := l.drop (insPos k es))
          rwa [List.take_append_drop] at this
        have hext := Env.ext_put (p := ⟨0, clock, 0⟩) hn
        have hl' : Rels (entryRel (E.put nx ⟨0, clock, 0⟩)) es l := Rels.imp (fun _ _ => entryRel.ext hext) hl
        refine ⟨_, _, ?_, hg.trans (Goes.write hg.rel hb (hext.m _ _ hp) ht hs ⟨_, rfl, l.take (insPos k es) ++ ({ key := vk, val := vv, born := clock } : MapEntry) :: l.drop (insPos k es), ?_, (hl'.take (insPos k es)).app (bs2 := ({ key := vk, val := vv, born := clock } : MapEntry) :: l.drop (insPos k es)) ⟨⟨AV.ext hext hk, AV.ext hext hv, ⟨0, clock, 0⟩, Env.put_at _ _ _, rfl⟩, hl'.drop (insPos k es)⟩, ?_, ?_⟩)⟩
        · simp [Instr.mapUpdate, hru, hgm, hck, hf, run_setMap ho]
        · rw [Array.toList_push]
          exact hpm.trans ((List.Perm.cons _ hperm).trans (List.perm_append_singleton _ _).symm)
        · refine ((hpm.map _).nodup_iff).2 ?_
          rw [List.map_cons, List.nodup_cons]
          refine ⟨fun h => ?_, hnd⟩
          obtain ⟨z, hz, he⟩ := List.mem_map.1 h
          have := hlt z hz
          simp only at he
          omega
        · intro y hy
          rcases List.mem_cons.1 (hpm.mem_iff.1 hy) with rfl | hy
          · exact Nat.lt_succ_self _
          · exact Nat.lt_succ_of_lt (hlt y hy)
      · cases he
    · cases he
  · cases he

def headed (h : T Blk) (i : Nat) : Bool :=
  match h.get i with
  | some (.cells _ none _ _) => true
  | some (.abs _) => true
  | _ => false
theorem headed_dl {E : Env} {h : T Blk} {w : World} (hr : HRel E h w) {i : Nat} {p : Pl} (hh : headed h i = true) (hp : E.m i = some p) : p.dl = 0 := by
  unfold headed at hh
  split at hh
  · rename_i hb
    obtain ⟨o, ho, cs, lo, hi, rfl, hc⟩ := hr.blk hb hp
    exact hc.dl rfl
  · rename_i hb
    obtain ⟨o, ho, hd⟩ := hr.blk hb hp
    exact hd
  · cases hh
def ptrOk (h : T Blk) : EV → Bool
  | .a (.s (.ptr j 0)) => headed h j
  | _ => true
def evUpdO (C : Ctx) (h : T Blk) (t : TypeId) (m k v : EV) : Option (T Blk) :=
  match m, k with
  | .a (.s (.map i)), .a (.s y) =>
    match h.get i with
    | some (.opq b ls) => if ptrOk h v = true then (C.oup t b ls y v).map fun r => h.set i (.opq r.1 r.2) else none
    | _ => none
  | _, _ => none
theorem evUpdO_run {C : Ctx} (hC : C.Ok) {E : Env} (hρ : E.ρ = C.ρ) {h h' : T Blk} {nx : Nat} {w : World} {t : TypeId} {m k v : EV} {vm vk vv : Value} (he : evUpdO C h t m k v = some h') (hr : HRel E h w) (hm : m.rel E vm) (hk : k.rel E vk) (hv : v.rel E vv) :
    ∃ w', (Instr.mapUpdate t vm vk vv).run C.P w = .ok () w' ∧ Goes E h nx w E h' nx w' := by
  unfold evUpdO at he
  split at he
  · rename_i i y
    split at he
    · rename_i b ls hb
      split at he
      · rename_i hpk
        obtain ⟨r, hq, rfl⟩ := Option.map_eq_some_iff.1 he
        obtain ⟨p, hp, rfl⟩ := hm
        obtain ⟨o, ho, hd, hl, hoq⟩ := hr.blk hb hp
        rw [hρ] at hoq
        obtain ⟨w', o', hrun, ht, ho', hoq', hl'⟩ := hC.oup t b ls y v r hq E o w p.blk vk vv hρ hl hoq ho hk hv (fun j hj => by
          subst hj
          obtain ⟨pj, hpj, _⟩ := hv
          exact ⟨pj, hpj, headed_dl hr hpk hpj⟩)
        exact ⟨w', hrun, Goes.write hr hb hp ht ho' ⟨hd, hl', by rw [hρ]; exact hoq'⟩⟩
      · cases he
    · cases he
  · cases he
def evMapUpdate (C : Ctx) (h : T Blk) (nx : Nat) (t : TypeId) (m k v : EV) : Option (T Blk × Nat) :=
  match evMapUpdateC C h nx t m k v with
  | some r => some r
  | none => (evUpdO C h t m k v).map fun h' => (h', nx)
theorem evMapUpdate_run {C : Ctx} (hC : C.Ok) {E : Env} (hρ : E.ρ = C.ρ) {h : T Blk} {nx : Nat} {w : World} {t : TypeId} {m k v : EV} {vm vk vv : Value} {r : T Blk × Nat} (he : evMapUpdate C h nx t m k v = some r) (hr : HRel E h w) (hm : m.rel E vm) (hk : k.rel E vk) (hv : v.rel E vv) (hfr : Fresh E nx r.2) :
    ∃ w' E', (Instr.mapUpdate t vm vk vv).run C.P w = .ok () w' ∧ Goes E h nx w E' r.1 r.2 w' := by
  unfold evMapUpdate at he
  split at he
  · rename_i r' hs
    obtain rfl := Option.some.inj he
    exact evMapUpdateC_run hC hs hr hm hk hv hfr
  · obtain ⟨h', h1, rfl⟩ := Option.map_eq_some_iff.1 he
    obtain ⟨w', h2, h3⟩ := evUpdO_run (nx := nx) hC hρ h1 hr hm hk hv
    exact ⟨w', E, h2, h3⟩
end Go.Proofs.YtcnimekhpnejlaaGreat.Ev

/- The evaluator: walks over maps; bytes and strings. -/
namespace Go.Proofs.YtcnimekhpnejlaaGreat.Ev
open Go Go.RowKit
set_option linter.unusedVariables false
set_option linter.unusedSimpArgs false

/-! ### Walks over maps, in whatever order -/
def evRange (C : Ctx) (h : T Blk) (nx : Nat) (t : TypeId) (x : EV) : Option Res :=
  (C.tab t).bind fun e =>
    match e.und, x with
    | .map _ _, .a (.s .nilm) => some (.a (.s (.ptr nx 0)), h.set nx (.it none 0 [] 0), nx + 1)
    | .map _ _, .a (.s (.map i)) =>
      match h.get i with
      | some (.mp _ clock) => some (.a (.s (.ptr nx 0)), h.set nx (.it (some i) clock [] clock), nx + 1)
      | _ => none
    | _, _ => none
theorem evRange_run {C : Ctx} (hC : C.Ok) {E : Env} {h : T Blk} {nx : Nat} {w : World} {t : TypeId} {x : EV} {v : Value} {r : Res} (he : evRange C h nx t x = some r) (hx : x.rel E v) : Runs C E h nx w (Instr.range t v) r := by
  intro hr hρ hf
  unfold evRange at he
  replace he := Option.bind_eq_some_iff.1 he
  obtain ⟨e, h0, he⟩ := he
  split at he
  · rename_i hu
    obtain rfl := Option.some.inj he
    have hund := (hC.tab t e h0).und
    rw [hu] at hund
    obtain rfl := hx
    exact ⟨_, _, _, run_range_nilMap w t _ _ hund, Goes.new (o := .mapIter none 0 #[] 0) hr (fresh1 hf) ⟨w.heap.size, 0, 0⟩ rfl ⟨rfl, none, #[], rfl, rfl, trivial⟩, _, Env.put_at _ _ _, rfl⟩
  · rename_i i hu
    have hund := (hC.tab t e h0).und
    rw [hu] at hund
    split at he
    · rename_i es clock hb
      obtain rfl := Option.some.inj he
      obtain ⟨p, hp, rfl⟩ := hx
      obtain ⟨o, ho, ents, rfl, hrel⟩ := hr.blk hb hp
      have hn := fresh1 hf
      exact ⟨_, _, _, run_range_map w t _ _ p.blk ents clock hund ho, Goes.new (o := .mapIter (some p.blk) clock #[] clock) hr hn ⟨w.heap.size, 0, 0⟩ rfl ⟨rfl, _, #[], rfl, ⟨p, (Env.ext_put hn).m _ _ hp, rfl⟩, trivial⟩, _, Env.put_at _ _ _, rfl⟩
    · cases he
  · cases he

/-- What may come out: the end, or any entry that is left. -/
def evNext (h : T Blk) : EV → Option (List (EV × T Blk))
  | .a (.s (.ptr i 0)) =>
    match h.get i with
    | some (.it none _ _ _) => some [(.tup [.s (.bool false)], h)]
    | some (.it (some m) since seen last) =>
      match h.get m with
      | some (.mp es clock) =>
        if (decide (clock = since) && decide (clock = last) && seen.all fun i => es.any fun e => decide (e.2.2 = i)) = true then
          match es.filter fun e => !seen.contains e.2.2 with
          | [] => some [(.tup [.s (.bool false)], h)]
          | l => some (l.map fun e => (.tup [.s (.bool true), e.1, e.2.1], h.set i (.it (some m) since (seen ++ [e.2.2]) clock)))
        else none
      | _ => none
    | _ => none
  | _ => none
theorem Rels.filter {α β : Type} {R : α → β → Prop} {f : α → Bool} {g : β → Bool} : ∀ {as : List α} {bs : List β}, Rels R as bs → (∀ (n : Nat) a b, as[n]? = some a → bs[n]? = some b → R a b → f a = g b) → Rels R (as.filter f) (bs.filter g)
  | [], [], _, _ => trivial
  | a :: as, b :: bs, h, hfg => by
    have e := hfg 0 a b rfl rfl h.1
    have ih := Rels.filter h.2 fun n x y hx hy => hfg (n + 1) x y (by simpa using hx) (by simpa using hy)
    rw [List.filter_cons, List.filter_cons, ← e]
    cases f a with
    | true => exact ⟨h.1, ih⟩
    | false => exact ih
  | [], _ :: _, h, _ => h.elim
  | _ :: _, [], h, _ => h.elim
theorem Rels.get' {α β : Type} {R : α → β → Prop} : ∀ {as : List α} {bs : List β}, Rels R as bs → ∀ (i : Nat) (b : β), bs[i]? = some b → ∃ a, as[i]? = some a ∧ R a b
  | [], [], _, i, b, h => by simp at h
  | a :: as, b :: bs, hr, 0, x, h => by simp at h; subst h; exact ⟨a, rfl, hr.1⟩
  | a :: as, b :: bs, hr, i + 1, x, h => by
    obtain ⟨y, h1, h2⟩ := Rels.get' hr.2 i x (by simpa using h)
    exact ⟨y, by simpa using h1, h2⟩
  | [], _ :: _, hr, _, _, _ => hr.elim
  | _ :: _, [], hr, _, _, _ => hr.elim
theorem run_getIter {P : Program} {w : World} {r : Nat} {m : Option Nat} {since : Nat} {seen : Array Nat} {last : Nat} (h : w.heap[r]? = some (.mapIter m since seen last)) : (getObj r).run P w = .ok (.mapIter m since seen last) w := by
  simp only [getObj, Sem.run, h]
theorem run_setIter {P : Program} {w : World} {r : Nat} {m : Option Nat} {since : Nat} {seen : Array Nat} {last : Nat} (h : w.heap[r]? = some (.mapIter m since seen last)) (o : Obj) : (setObj r o).run P w = .ok () { w with heap := w.heap.setIfInBounds r o } := by
  simp only [setObj, Sem.run, h]
/-- Has an entry been handed out? The numbers say it as the stamps do. -/
theorem seen_eq {E : Env} {es : List (AV × AV × Nat)} {l : List MapEntry} {seen : List Nat} {st : List Nat} (hl : Rels (entryRel E) es l) (hn : (l.map (·.born)).Nodup) (hs : Rels (stampRel E) seen st) (hall : ∀ i ∈ seen, ∃ e ∈ es, e.2.2 = i) (n : Nat) (a : AV × AV × Nat) (b : MapEntry) (ha : es[n]? = some a) (hb : l[n]? = some b) (hab : entryRel E a b) :
    (!seen.contains a.2.2) = (!st.contains b.born) := by
  congr 1
  obtain ⟨p, hp, hbp⟩ := hab.2.2
  rw [Bool.eq_iff_iff, List.contains_iff_mem, List.contains_iff_mem]
  constructor
  · intro h
    obtain ⟨i, hi⟩ := List.mem_iff_getElem?.1 h
    obtain ⟨s, h1, q, hq, h2⟩ := hs.get i _ hi
    rw [hp] at hq
    obtain rfl := Option.some.inj hq
    rw [hbp, ← h2]
    exact List.mem_of_getElem? h1
  · intro h
    obtain ⟨i, hi⟩ := List.mem_iff_getElem?.1 h
    obtain ⟨j, h1, q, hq, h2⟩ := hs.get' i _ hi
    obtain ⟨e, he, hej⟩ := hall j (List.mem_of_getElem? h1)
    obtain ⟨k, hk⟩ := List.mem_iff_getElem?.1 he
    obtain ⟨f, hf, hef⟩ := hl.get k e hk
    obtain ⟨q2, hq2, hb2⟩ := hef.2.2
    rw [hej, hq] at hq2
    obtain rfl := Option.some.inj hq2
    have e1 : (l.map (·.born))[n]? = some b.born := by rw [List.getElem?_map, hb]; rfl
    have e2 : (l.map (·.born))[k]? = some f.born := by rw [List.getElem?_map, hf]; rfl
    have hnk : n = k := (List.getElem?_inj (List.getElem?_eq_some_iff.1 e1).1 hn).1 (by rw [e1, e2, hb2, ← h2])
    subst hnk
    rw [ha] at hk
    obtain rfl := Option.some.inj hk
    rw [hej]
    exact List.mem_of_getElem? h1
theorem evNext_run {C : Ctx} {E : Env} {h : T Blk} {nx : Nat} {w : World} {x : EV} {v : Value} {ty : TypeId} {rs : List (EV × T Blk)} (he : evNext h x = some rs) (hr : HRel E h w) (hx : x.rel E v) :
    ∃ r ∈ rs, ∃ v' w', (Instr.next v false ty).run C.P w = .ok v' w' ∧ Goes E h nx w E r.2 nx w' ∧ r.1.rel E v' := by
  unfold evNext at he
  split at he
  · rename_i i
    obtain ⟨p, hp, rfl⟩ := hx
    split at he
    · rename_i since seen last hb
      obtain rfl := Option.some.inj he
      obtain ⟨o, ho, hd, mb, st, rfl, hm, _⟩ := hr.blk hb hp
      obtain rfl := hm
      have hgi := run_getIter (P := C.P) ho
      exact ⟨_, List.mem_singleton.2 rfl, .tuple #[.bool false], w, by simp [Instr.next, hd, hgi], Goes.refl hr, [.bool false], rfl, rfl, trivial⟩
    · rename_i m since seen last hb
      obtain ⟨o, ho, hd, mb, st, rfl, ⟨q, hq, rfl⟩, hst⟩ := hr.blk hb hp
      have hgi := run_getIter (P := C.P) ho
      split at he
      · rename_i es clock hmb
        obtain ⟨o2, ho2, ents, rfl, l, hperm, hl, hnd, hlt⟩ := hr.blk hmb hq
        have hgm := run_getMap (P := C.P) ho2
        split at he
        · rename_i hchk
          simp only [Bool.and_eq_true, decide_eq_true_eq, List.all_eq_true, List.any_eq_true] at hchk
          obtain ⟨⟨rfl, rfl⟩, hall⟩ := hchk
          have t1 : (!st.isEmpty && !ents.isEmpty && ents.all fun x => decide (x.born ≥ clock)) = false := by
            cases hemp : ents.isEmpty with
            | true => simp
            | false =>
              have h0 : 0 < ents.size := by
                rcases Nat.eq_zero_or_pos ents.size with h0 | h0
                · simp [Array.isEmpty, h0] at hemp
                · exact h0
              have hm0 : ents[0] ∈ ents := Array.getElem_mem h0
              have hlt0 := hlt ents[0] (hperm.mem_iff.2 (by simp))
              have : (ents.all fun x => decide (x.born ≥ clock)) = false := by
                rw [Bool.eq_false_iff]
                intro hh
                rw [Array.all_eq_true_iff_forall_mem] at hh
                have := hh _ hm0
                simp only [ge_iff_le, decide_eq_true_eq] at this
                omega
              rw [this]
              simp
          have hleft : Rels (entryRel E) (es.filter fun e => !seen.contains e.2.2) (l.filter fun e => !st.toList.contains e.born) := Rels.filter hl fun n a b ha hb hab => seen_eq hl hnd hst hall n a b ha hb hab
          have hpl := hperm.filter (fun e => !st.toList.contains e.born)
          have hA : (ents.filter fun e => !st.contains e.born).toList = ents.toList.filter fun e => !st.toList.contains e.born := by simp
          generalize hL : ents.filter (fun e => !st.contains e.born) = L at hA
          rw [← hA] at hpl
          have hold : ∀ x ∈ L.toList, x.born < clock := fun x hx => hlt x (List.mem_filter.1 (hpl.mem_iff.2 hx)).1
          have e1 : L.filter (fun x => decide (x.born < clock)) = L := Array.filter_eq_self.2 (fun x hx => by simpa using hold x (by simpa using hx))
          have e2 : L.filter (fun x => decide (x.born ≥ clock)) = #[] := by
            rw [Array.filter_eq_empty_iff]
            intro x hx
            have := hold x (by simpa using hx)
            simp
            omega
          have hform : (L.size = 0 ∧ (Instr.next (.pointer (some ⟨p.blk, p.dl + 0, none⟩)) false ty).run C.P w = .ok (.tuple #[.bool false]) w) ∨
              ∃ e ∈ L.toList, ∃ w1 : World, w1.heap = w.heap ∧ w1.os = w.os ∧ w1.tape = w.tape ∧ w1.output = w.output ∧ (Instr.next (.pointer (some ⟨p.blk, p.dl + 0, none⟩)) false ty).run C.P w = .ok (.tuple #[.bool true, e.key, e.val]) { w1 with heap := w1.heap.setIfInBounds p.blk (.mapIter (some q.blk) clock (st.push e.born) clock) } := by
            by_cases h0 : L.size = 0
            · left
              have hLe : L = #[] := Array.eq_empty_of_size_eq_zero h0
              refine ⟨h0, ?_⟩
              simp only [Instr.next, hd, Sem.run_bind, hgi, hgm, Result.andThen_ok, t1, Bool.false_eq_true, if_false, hL, e1, e2, Array.append_empty, hLe, Nat.add_zero]
              simp [choose, Sem.run, Question.forced]
            · right
              have hne : L.isEmpty = false := by simp [Array.isEmpty, h0]
              have hch : ∃ (j : Nat) (w1 : World), j < L.size ∧ w1.heap = w.heap ∧ w1.os = w.os ∧ w1.tape = w.tape ∧ w1.output = w.output ∧ (choose (Question.mapNext L.size)).run C.P w = .ok j w1 := by
                by_cases hf : L.size ≤ 1
                · exact ⟨0, w, by omega, rfl, rfl, rfl, rfl, by simp [choose, Sem.run, Question.forced, hf]⟩
                · exact ⟨_, w.drew, Nat.mod_lt _ (by omega), rfl, rfl, rfl, rfl, by
                    simp only [choose, Sem.run, Question.forced, decide_eq_true_eq, hf, if_false, Question.cut]
                    rfl⟩
              obtain ⟨j, w1, hj, w11, w12, w13, w14, hrun⟩ := hch
              refine ⟨L[j], by simp, w1, w11, w12, w13, w14, ?_⟩
              have ho1 : w1.heap[p.blk]? = some (.mapIter (some q.blk) clock st clock) := by rw [w11]; exact ho
              have hset := fun o' => run_setIter (P := C.P) ho1 o'
              simp only [Instr.next, hd, Sem.run_bind, hgi, hgm, Result.andThen_ok, t1, Bool.false_eq_true, if_false, hL, e1, e2, Array.append_empty, Nat.add_zero, hne, Array.empty_append, Array.size_map, hrun, Array.getElem?_map, Array.getElem?_eq_getElem hj, Option.map_some, hset]
              rfl
          rcases hform with ⟨h0, hrun⟩ | ⟨e, hem, w1, w11, w12, w13, w14, hrun⟩
          · have hlen := hleft.length
            rw [← hpl.length_eq.symm, Array.length_toList, h0] at hlen
            have hnil : (es.filter fun e => !seen.contains e.2.2) = [] := List.eq_nil_of_length_eq_zero hlen.symm
            rw [hnil] at he
            obtain rfl := Option.some.inj he
            exact ⟨_, List.mem_singleton.2 rfl, _, w, hrun, Goes.refl hr, [.bool false], rfl, rfl, trivial⟩
          · obtain ⟨n, hn⟩ := List.mem_iff_getElem?.1 (hpl.mem_iff.2 hem)
            obtain ⟨x, hx, k1, k2, k3⟩ := hleft.get' n e hn
            have hrs : rs = (es.filter fun e => !seen.contains e.2.2).map fun e => (.tup [.s (.bool true), e.1, e.2.1], h.set i (.it (some m) clock (seen ++ [e.2.2]) clock)) := by
              split at he
              · rename_i hnil
                rw [hnil] at hx
                simp at hx
              · exact (Option.some.inj he).symm
            have hg1 : Goes E h nx w E h nx w1 := Goes.draw hr w11 w12 w13 w14
            have ho1 : w1.heap[p.blk]? = some (.mapIter (some q.blk) clock st clock) := by rw [w11]; exact ho
            obtain ⟨ht, hs⟩ := set_heap w1 p.blk _ (.mapIter (some q.blk) clock (st.push e.born) clock) ho1
            refine ⟨(.tup [.s (.bool true), x.1, x.2.1], h.set i (.it (some m) clock (seen ++ [x.2.2]) clock)), by rw [hrs]; exact List.mem_map.2 ⟨x, List.mem_of_getElem? hx, rfl⟩, _, _, hrun, hg1.trans (Goes.write hg1.rel hb hp ht hs ⟨hd, _, _, rfl, ⟨q, hq, rfl⟩, ?_⟩), [.bool true, e.key, e.val], rfl, rfl, k1, k2, trivial⟩
            rw [Array.toList_push]
            exact hst.app ⟨k3, trivial⟩
        · cases he
      · cases he
    · cases he
  · cases he

def evEntry (h : T Blk) : EV → Option EV
  | .a (.s (.ptr i 0)) =>
    match h.get i with
    | some (.it (some m) since seen last) =>
      match h.get m, seen.getLast? with
      | some (.mp es clock), some stamp => if clock = last then (es.find? fun e => decide (e.2.2 = stamp)).map fun e => .tup [e.1, e.2.1] else none
      | _, _ => none
    | _ => none
  | _ => none
theorem evEntry_run {C : Ctx} {E : Env} {h : T Blk} {w : World} {x r : EV} {v : Value} (he : evEntry h x = some r) (hr : HRel E h w) (hx : x.rel E v) : Reads C E w (Instr.entry v) r := by
  unfold evEntry at he
  split at he
  · rename_i i
    obtain ⟨p, hp, rfl⟩ := hx
    split at he
    · rename_i m since seen last hb
      obtain ⟨o, ho, hd, mb, st, rfl, ⟨q, hq, rfl⟩, hst⟩ := hr.blk hb hp
      have hgi := run_getIter (P := C.P) ho
      split at he
      · rename_i es clock stamp hmb hlast
        obtain ⟨o2, ho2, ents, rfl, l, hperm, hl, hnd, hlt⟩ := hr.blk hmb hq
        have hgm := run_getMap (P := C.P) ho2
        split at he
        · rename_i hcl
          subst hcl
          obtain ⟨y, hy, rfl⟩ := Option.map_eq_some_iff.1 he
          have hy1 := List.find?_some hy
          rw [decide_eq_true_eq] at hy1
          obtain ⟨n, hn⟩ := List.mem_iff_getElem?.1 (List.mem_of_find?_eq_some hy)
          obtain ⟨f, hf, h2, h3, q2, hq2, hb2⟩ := hl.get n y hn
          rw [List.getLast?_eq_getElem?] at hlast
          obtain ⟨s, hs, q3, hq3, hs3⟩ := hst.get _ _ hlast
          rw [hy1, hq3] at hq2
          obtain rfl := Option.some.inj hq2
          have hlen := hst.length
          have hback : st.back? = some f.born := by
            rw [Array.back?_eq_getElem?, ← Array.getElem?_toList, ← Array.length_toList, hlen, hs, hs3, hb2]
          have hfind : ents.find? (·.born == f.born) = some f := by
            rw [← Array.find?_toList]
            exact find_born f ents.toList ((hperm.map _).nodup_iff.1 hnd) (hperm.mem_iff.1 (List.mem_of_getElem? hf))
          refine ⟨.tuple #[f.key, f.val], ?_, [f.key, f.val], rfl, h2, h3, trivial⟩
          simp [Instr.entry, hd, hgi, hgm, hback, hfind]
        · cases he
      · cases he
    · cases he
  · cases he

/-! ### Bytes into a string -/
def bytesOf : List SV → Option (List Int)
  | [] => some []
  | .int .u8 n :: l => (bytesOf l).map fun ns => n :: ns
  | _ :: _ => none
theorem bytesOf_rel {E : Env} : ∀ {l : List SV} {ns : List Int} {vs : List Value}, bytesOf l = some ns → Rels (SV.rel E) l vs → vs = ns.map (Value.int .u8)
  | [], ns, [], h, _ => by
    obtain rfl := Option.some.inj h
    rfl
  | x :: l, ns, v :: vs, h, hr => by
    unfold bytesOf at h
    split at h
    · rename_i he
      cases he
    · rename_i n l' he
      obtain ⟨rfl, rfl⟩ := List.cons.inj he
      obtain ⟨ms, h1, rfl⟩ := Option.map_eq_some_iff.1 h
      rw [List.map_cons, bytesOf_rel h1 hr.2]
      have : v = .int .u8 n := hr.1
      rw [this]
    · cases h
  | [], _, _ :: _, _, hr => hr.elim
  | _ :: _, _, [], _, hr => hr.elim
def evConv (C : Ctx) (h : T Blk) (s d : TypeId) : EV → Option EV
  | .a (.s (.sl i o l _ _)) => (C.tab s).bind fun es => (C.tab d).bind fun ed =>
    match es.und, ed.und with
    | .slice e, .string => (C.tab e).bind fun ee =>
      match ee.und, h.get i with
      | .int .u8, some (.cells _ _ c _) => if o + l ≤ c.n then (bytesOf (c.list o l)).map fun ns => .a (.s (.str (ns.foldl (fun r n => r.push (UInt8.ofNat n.toNat)) ByteArray.empty))) else none
      | _, _ => none
    | _, _ => none
  | x => evConvInt C s d x
theorem evConv_run {C : Ctx} (hC : C.Ok) {E : Env} {h : T Blk} {w : World} {s d : TypeId} {x r : EV} {v : Value} (he : evConv C h s d x = some r) (hr : HRel E h w) (hx : x.rel E v) : Reads C E w (convert s d v) r := by
  unfold evConv at he
  split at he
  · rename_i i o l cap k
    replace he := Option.bind_eq_some_iff.1 he
    obtain ⟨es, h1, he⟩ := he
    replace he := Option.bind_eq_some_iff.1 he
    obtain ⟨ed, h2, he⟩ := he
    split at he
    · rename_i e hu1 hu2
      replace he := Option.bind_eq_some_iff.1 he
      obtain ⟨ee, h3, he⟩ := he
      split at he
      · rename_i t opn c fz hu3 hb
        split at he
        · rename_i hle
          obtain ⟨ns, hn, rfl⟩ := Option.map_eq_some_iff.1 he
          have u1 := (hC.tab _ _ h1).und
          have u2 := (hC.tab _ _ h2).und
          have u3 := (hC.tab _ _ h3).und
          rw [hu1] at u1
          rw [hu2] at u2
          rw [hu3] at u3
          obtain ⟨p, cp, hp, rfl⟩ : ∃ p cp, E.m i = some p ∧ v = .slice (some ⟨p.blk, p.dl + o, none⟩) l cp := by
            cases cap with
            | none => obtain ⟨p, hp, _, rfl⟩ := hx; exact ⟨p, _, hp, rfl⟩
            | some c => obtain ⟨p, hp, _, rfl⟩ := hx; exact ⟨p, _, hp, rfl⟩
          obtain ⟨vs, v1, v2, v3⟩ := HRel.run_load (P := C.P) hr hb hp o l hle
          obtain rfl := bytesOf_rel hn v2
          exact ⟨_, by rw [run_convert_bytes_string w s d _ _ l cp u1 u3 u2, run_bytesToString w _ l cp ns v3], rfl⟩
        · cases he
      · cases he
    · cases he
  · exact evConvInt_run hC he hx

end Go.Proofs.YtcnimekhpnejlaaGreat.Ev

/- The evaluator: one operation. -/
namespace Go.Proofs.YtcnimekhpnejlaaGreat.Ev
open Go Go.RowKit
set_option linter.unusedVariables false
set_option linter.unusedSimpArgs false

/-! ### Temporaries -/
/-- What is known of the temporaries is so. -/
def RelT (E : Env) (tm : T EV) (tmps : Array Value) : Prop := ∀ t x, tm.get t = some x → x.rel E (tmps.getD t undef)
theorem RelT.ext {E E' : Env} (h : Ext E E') {tm : T EV} {tmps : Array Value} (hr : RelT E tm tmps) : RelT E' tm tmps := fun t x hx => EV.ext h (hr t x hx)
theorem RelT.set {E : Env} {tm : T EV} {tmps : Array Value} (hr : RelT E tm tmps) {d : Nat} (hd : d < tmps.size) {x : EV} {v : Value} (hx : x.rel E v) : RelT E (tm.set d x) (tmps.setIfInBounds d v) := fun t y hy => by
  rw [T.get_set] at hy
  by_cases h : t = d
  · subst h
    rw [if_pos rfl] at hy
    obtain rfl := Option.some.inj hy
    rw [Array.getD_eq_getD_getElem?, Array.getElem?_setIfInBounds_self_of_lt hd]
    exact hx
  · rw [if_neg h] at hy
    rw [Array.getD_eq_getD_getElem?, Array.getElem?_setIfInBounds_ne (Ne.symm h), ← Array.getD_eq_getD_getElem?]
    exact hr t y hy

def opnd (tm : T EV) : Operand → Option EV
  | .tmp t => tm.get t
  | .const v => (litAV v).map .a
  | .func f => some (.a (.s (.func f [])))
  | .global _ => none
theorem opnd_rel {E : Env} {tm : T EV} {a : Act} (hr : RelT E tm a.tmps) {x : Operand} {y : EV} (h : opnd tm x = some y) : y.rel E (a.eval x) := by
  cases x with
  | tmp t => exact hr t y h
  | const v =>
    obtain ⟨z, hz, rfl⟩ := Option.map_eq_some_iff.1 h
    exact litAV_rel hz
  | func f =>
    obtain rfl := Option.some.inj h
    exact ⟨[], rfl, trivial⟩
  | global g => cases h

def opL (tm : T EV) : List Operand → Option (List EV)
  | [] => some []
  | x :: xs => (opnd tm x).bind fun y => (opL tm xs).map fun ys => y :: ys
theorem opL_rel {E : Env} {tm : T EV} {a : Act} (hr : RelT E tm a.tmps) : ∀ {xs : List Operand} {ys : List EV}, opL tm xs = some ys → Rels (EV.rel E) ys (xs.map a.eval)
  | [], ys, h => by
    obtain rfl := Option.some.inj h
    trivial
  | x :: xs, ys, h => by
    replace h := Option.bind_eq_some_iff.1 h
    obtain ⟨y, hy, h⟩ := h
    obtain ⟨zs, hz, rfl⟩ := Option.map_eq_some_iff.1 h
    exact ⟨opnd_rel hr hy, opL_rel hr hz⟩
def opP (tm : T EV) : List (Nat × Operand) → Option (List (Nat × EV))
  | [] => some []
  | (i, x) :: xs => (opnd tm x).bind fun y => (opP tm xs).map fun ys => (i, y) :: ys
theorem opP_rel {E : Env} {tm : T EV} {a : Act} (hr : RelT E tm a.tmps) : ∀ {xs : List (Nat × Operand)} {ys : List (Nat × EV)}, opP tm xs = some ys → Rels (fun (x : Nat × EV) (y : Nat × Value) => x.1 = y.1 ∧ x.2.rel E y.2) ys (xs.map fun (i, x) => (i, a.eval x))
  | [], ys, h => by
    obtain rfl := Option.some.inj h
    trivial
  | (i, x) :: xs, ys, h => by
    replace h := Option.bind_eq_some_iff.1 h
    obtain ⟨y, hy, h⟩ := h
    obtain ⟨zs, hz, rfl⟩ := Option.map_eq_some_iff.1 h
    exact ⟨⟨rfl, opnd_rel hr hy⟩, opP_rel hr hz⟩
def opO (tm : T EV) : Option Operand → Option (Option EV)
  | none => some none
  | some x => (opnd tm x).map some
theorem opO_rel {E : Env} {tm : T EV} {a : Act} (hr : RelT E tm a.tmps) {x : Option Operand} {y : Option EV} (h : opO tm x = some y) : relO E y (x.map a.eval) := by
  cases x with
  | none => obtain rfl := Option.some.inj h; trivial
  | some x =>
    obtain ⟨z, hz, rfl⟩ := Option.map_eq_some_iff.1 h
    exact opnd_rel hr hz

/-! ### One operation that is no call of a function -/
def evNil : EV → Option EV
  | .a (.s (.ptr i o)) => some (.a (.s (.ptr i o)))
  | .a (.s (.func f cs)) => some (.a (.s (.func f cs)))
  | _ => none
def caps : List EV → Option (List (Nat × Nat))
  | [] => some []
  | .a (.s (.ptr i o)) :: r => (caps r).map fun l => (i, o) :: l
  | _ => none
theorem caps_rel {E : Env} : ∀ {xs : List EV} {vs : List Value} {l : List (Nat × Nat)}, caps xs = some l → Rels (EV.rel E) xs vs → Rels (relP E) l vs
  | [], [], l, h, _ => by
    obtain rfl := Option.some.inj h
    trivial
  | .a (.s (.ptr i o)) :: r, v :: vs, l, h, hr => by
    obtain ⟨l, hl, rfl⟩ := Option.map_eq_some_iff.1 h
    exact ⟨hr.1, caps_rel hl hr.2⟩
  | x :: r, v :: vs, l, h, hr => by
    unfold caps at h
    split at h
    · rename_i heq; cases heq
    · rename_i heq
      simp only [List.cons.injEq] at heq
      obtain ⟨rfl, rfl⟩ := heq
      obtain ⟨l, hl, rfl⟩ := Option.map_eq_some_iff.1 h
      exact ⟨hr.1, caps_rel hl hr.2⟩
    · cases h
  | [], _ :: _, _, _, hr => hr.elim
  | _ :: _, [], _, _, hr => hr.elim

/-- A value, the memory as it was. -/
def same (h : T Blk) (nx : Nat) (x : Option EV) : Option Res := x.map fun v => (v, h, nx)
def evOp (C : Ctx) (h : T Blk) (nx : Nat) (tm : T EV) (o : Oper) : Option Res :=
  match o.op with
  | .move x | .assign x => same h nx (opnd tm x)
  | .pick c a b => (opnd tm c).bind fun c =>
    match c with
    | .a (.s c) => (C.truV c).bind fun q => same h nx (if q = true then opnd tm a else opnd tm b)
    | _ => none
  | .alloc t => evAlloc C h nx t
  | .box t x => (opnd tm x).bind fun x => evBox h nx t x
  | .build t ps => (opP tm ps.toList).bind fun ps => same h nx (evBuild C t ps)
  | .buildSlice t n ps => (opP tm ps.toList).bind fun ps => evBuildSlice C h nx t n ps
  | .load t x => (opnd tm x).bind fun x => same h nx (evLoad C h t x)
  | .store t x y => (opnd tm x).bind fun x => (opnd tm y).bind fun y => (evStore C h t x y).map fun h' => (.tup [], h', nx)
  | .nilCheck x => (opnd tm x).bind fun x => same h nx (evNil x)
  | .binOp op t x y _ => (opnd tm x).bind fun x => (opnd tm y).bind fun y => same h nx (evBin C h op t x y)
  | .unOp op _ x => (opnd tm x).bind fun x => same h nx (evUn op x)
  | .convert s d x => (opnd tm x).bind fun x => same h nx (evConv C h s d x)
  | .range t x => (opnd tm x).bind fun x => evRange C h nx t x
  | .entry x => (opnd tm x).bind fun x => same h nx (evEntry h x)
  | .makeFunc (.func f) first cs => if first.toList.length = 0 then (opL tm cs.toList).bind fun l => (caps l).bind fun l => same h nx (some (.a (.s (.func f l)))) else none
  | .makeMap t none => some (evMakeMap h nx)
  | .makeSlice t l c => (opnd tm l).bind fun l => (opnd tm c).bind fun c => evMakeSlice C h nx t l c
  | .slice t x lo hi mx => (opnd tm x).bind fun x => (opO tm lo).bind fun lo => (opO tm hi).bind fun hi => (opO tm mx).bind fun mx => same h nx (evSlice C t x lo hi mx)
  | .fieldAddr t x f => (opnd tm x).bind fun x => same h nx (evFieldAddr C t f x)
  | .field t x f => (opnd tm x).bind fun x => same h nx (evField C t f x)
  | .indexAddr t x y => (opnd tm x).bind fun x => (opnd tm y).bind fun y => same h nx (evIndexAddr C t x y)
  | .index t x y => (opnd tm x).bind fun x => (opnd tm y).bind fun y => same h nx (evIndex C t x y)
  | .extract x i => (opnd tm x).bind fun x => same h nx (evExtract i x)
  | .lookup t x k ok => (opnd tm x).bind fun x => (opnd tm k).bind fun k => same h nx (evLookup C h t ok x k)
  | .mapUpdate t m k x | .insert t m k x => (opnd tm m).bind fun m => (opnd tm k).bind fun k => (opnd tm x).bind fun x => (evMapUpdate C h nx t m k x).map fun r => (.tup [], r.1, r.2)
  | .call { callee := .builtin b, args, argTypes } => (opL tm args.toList).bind fun xs =>
    match b, xs with
    | .len, [x] => same h nx (evLen C h argTypes x)
    | .append, [s, x] => evAppend C h nx argTypes s x
    | .copy, [d, x] => (evCopy C h argTypes d x).map fun r => (r.1, r.2, nx)
    | .min, xs => same h nx (evMM false xs)
    | .max, xs => same h nx (evMM true xs)
    | _, _ => none
  | _ => none

/-- The operation runs to its end, and what it leaves is what r tells. -/
def OpRuns (C : Ctx) (E : Env) (h : T Blk) (nx : Nat) (a : Act) (w : World) (o : Oper) (r : Res) : Prop :=
  ∃ v' w' E', ((execOp a.eval o).run C.P w = .ok (.value v') w' ∨ ((execOp a.eval o).run C.P w = .ok .skip w' ∧ v' = undef)) ∧ Goes E h nx w E' r.2.1 r.2.2 w' ∧ r.1.rel E' v'

section
variable {C : Ctx} {E : Env} {h : T Blk} {nx : Nat} {a : Act} {w : World} {o : Oper} {r : Res}
theorem opRuns_reads {s : Sem Value} (he : execOp a.eval o = (do pure (.value (← s)))) {x : Option EV} {y : EV} (hx : same h nx x = some r) (hr : HRel E h w) (hrd : x = some y → Reads C E w s y) (hy : x = some y) : OpRuns C E h nx a w o r := by
  subst hy
  obtain rfl := Option.some.inj hx
  obtain ⟨v, h1, h2⟩ := hrd rfl
  exact ⟨v, w, E, .inl (by rw [he]; simp [h1]), Goes.refl hr, h2⟩
theorem opRuns_same {s : Sem Value} (he : execOp a.eval o = (do pure (.value (← s)))) {x : Option EV} (hx : same h nx x = some r) (hr : HRel E h w) (hrd : ∀ y, x = some y → Reads C E w s y) : OpRuns C E h nx a w o r := by
  cases hq : x with
  | none => rw [hq] at hx; cases hx
  | some y => exact opRuns_reads he hx hr (fun _ => hrd y hq) hq
theorem opRuns_v {s : Sem Value} (he : execOp a.eval o = (do pure (.value (← s)))) (hrd : RunsV C.P E h nx w s r.1 r.2.1 r.2.2) : OpRuns C E h nx a w o r := by
  obtain ⟨v, w', E', h1, h2, h3⟩ := hrd
  exact ⟨v, w', E', .inl (by rw [he]; simp [h1]), h2, h3⟩
theorem opRuns_u {s : Sem Unit} (he : execOp a.eval o = (do s; pure .skip)) {w' : World} {E' : Env} {h' : T Blk} {nx' : Nat} (hs : s.run C.P w = .ok () w') (hg : Goes E h nx w E' h' nx' w') : OpRuns C E h nx a w o (.tup [], h', nx') :=
  ⟨undef, w', E', .inr ⟨by rw [he]; simp [hs], rfl⟩, hg, ⟨[], rfl, trivial⟩⟩
theorem opRuns_b {b : Builtin} {args : Array Operand} {ts : Array TypeId} {s : Sem Value} (ho : o.op = .call { callee := .builtin b, args := args, argTypes := ts }) (hb : ∀ cs, builtin b ts o.type cs (args.map a.eval) = (do pure (.value (← s))))
    (hrd : RunsV C.P E h nx w s r.1 r.2.1 r.2.2) : OpRuns C E h nx a w o r := by
  obtain ⟨v, w', E', h1, h2, h3⟩ := hrd
  refine ⟨v, w', E', .inl ?_, h2, h3⟩
  unfold execOp
  rw [ho]
  simp only [resolve, Sem.run_bind, Sem.run_pure, Result.andThen_ok, invoke, hb, h1]
end

theorem reads_runs {C : Ctx} {E : Env} {h : T Blk} {nx : Nat} {w : World} {s : Sem Value} {x : Option EV} {r : Res} (hx : same h nx x = some r) (hr : HRel E h w) (hrd : ∀ y, x = some y → Reads C E w s y) : RunsV C.P E h nx w s r.1 r.2.1 r.2.2 := by
  cases hq : x with
  | none => rw [hq] at hx; cases hx
  | some y =>
    rw [hq] at hx
    obtain rfl := Option.some.inj hx
    obtain ⟨v, h1, h2⟩ := hrd y hq
    exact ⟨v, w, E, h1, Goes.refl hr, h2⟩

theorem two_args {E : Env} {x y : EV} {l : List Value} (h : Rels (EV.rel E) [x, y] l) : ∃ u v, l = [u, v] ∧ x.rel E u ∧ y.rel E v := by
  match l, h with
  | [u, v], h => exact ⟨u, v, rfl, h.1, h.2.1⟩
theorem one_arg {E : Env} {x : EV} {l : List Value} (h : Rels (EV.rel E) [x] l) : ∃ u, l = [u] ∧ x.rel E u := by
  match l, h with
  | [u], h => exact ⟨u, rfl, h.1⟩

set_option maxHeartbeats 2000000 in
theorem evOp_run {C : Ctx} (hC : C.Ok) {E : Env} (hρ : E.ρ = C.ρ) {h : T Blk} {nx : Nat} {tm : T EV} {a : Act} {w : World} {o : Oper} {r : Res} (he : evOp C h nx tm o = some r) (hr : HRel E h w) (ht : RelT E tm a.tmps) (hf : Fresh E nx r.2.2) :
    OpRuns C E h nx a w o r := by
  obtain ⟨dst, op, type, pos, after, guard⟩ := o
  unfold evOp at he
  split at he <;> rename_i hop <;> simp only at hop <;> first | (cases he; done) | subst hop
  · -- move
    obtain ⟨y, hy, rfl⟩ := Option.map_eq_some_iff.1 he
    exact ⟨_, w, E, .inl rfl, Goes.refl hr, opnd_rel ht hy⟩
  · -- assign
    obtain ⟨y, hy, rfl⟩ := Option.map_eq_some_iff.1 he
    exact ⟨_, w, E, .inl rfl, Goes.refl hr, opnd_rel ht hy⟩
  · -- pick
    rename_i c0 x0 y0
    replace he := Option.bind_eq_some_iff.1 he
    obtain ⟨c, hc, he⟩ := he
    split at he
    · rename_i c
      obtain ⟨q, hq, he⟩ := Option.bind_eq_some_iff.1 he
      have hcr : a.eval c0 = .bool q := hC.truV_ok hρ hq (opnd_rel ht hc)
      obtain ⟨y, hy, rfl⟩ := Option.map_eq_some_iff.1 he
      have hy2 : opnd tm (if q = true then x0 else y0) = some y := by rw [← hy]; cases q <;> rfl
      refine ⟨a.eval (if q = true then x0 else y0), w, E, .inl ?_, Goes.refl hr, opnd_rel ht hy2⟩
      simp only [execOp, Sem.run_bind, hcr, asBool, Sem.run_pure, Result.andThen_ok]
      cases q <;> rfl
    · cases he
  · -- alloc
    exact opRuns_v rfl (evAlloc_run hC he hr hρ hf)
  · -- box
    replace he := Option.bind_eq_some_iff.1 he
    obtain ⟨x, hx, he⟩ := he
    exact opRuns_v rfl (evBox_run (C := C) he (opnd_rel ht hx) hr hρ hf)
  · -- build
    replace he := Option.bind_eq_some_iff.1 he
    obtain ⟨ps, hps, he⟩ := he
    exact opRuns_same rfl he hr fun y hy => evBuild_run hC hy (by rw [Array.toList_map]; exact opP_rel ht hps)
  · -- buildSlice
    replace he := Option.bind_eq_some_iff.1 he
    obtain ⟨ps, hps, he⟩ := he
    exact opRuns_v rfl (evBuildSlice_run hC he (by rw [Array.toList_map]; exact opP_rel ht hps) hr hρ hf)
  · -- load
    replace he := Option.bind_eq_some_iff.1 he
    obtain ⟨x, hx, he⟩ := he
    exact opRuns_same rfl he hr fun y hy => evLoad_run hC hy hr (opnd_rel ht hx)
  · -- store
    replace he := Option.bind_eq_some_iff.1 he
    obtain ⟨x, hx, he⟩ := he
    replace he := Option.bind_eq_some_iff.1 he
    obtain ⟨y, hy, he⟩ := he
    obtain ⟨h', h1, rfl⟩ := Option.map_eq_some_iff.1 he
    obtain ⟨w', h2, h3⟩ := evStore_run hC (nx := nx) h1 hr (opnd_rel ht hx) (opnd_rel ht hy)
    exact opRuns_u rfl h2 h3
  · -- nilCheck
    replace he := Option.bind_eq_some_iff.1 he
    obtain ⟨x, hx, he⟩ := he
    obtain ⟨y, hy, rfl⟩ := Option.map_eq_some_iff.1 he
    have hxr := opnd_rel ht hx
    unfold evNil at hy
    split at hy
    · obtain rfl := Option.some.inj hy
      have hxr' := hxr
      obtain ⟨p, hp, hv⟩ := hxr'
      refine ⟨_, w, E, .inl ?_, Goes.refl hr, hxr⟩
      simp only [execOp, hv, Sem.run_pure]
    · obtain rfl := Option.some.inj hy
      have hxr' := hxr
      obtain ⟨vs, hv, _⟩ := hxr'
      refine ⟨_, w, E, .inl ?_, Goes.refl hr, hxr⟩
      simp only [execOp, hv, Sem.run_pure]
    · cases hy
  · -- binOp
    replace he := Option.bind_eq_some_iff.1 he
    obtain ⟨x, hx, he⟩ := he
    replace he := Option.bind_eq_some_iff.1 he
    obtain ⟨y, hy, he⟩ := he
    exact opRuns_same rfl he hr fun z hz => evBin_run hC hρ _ _ hz (opnd_rel ht hx) (opnd_rel ht hy)
  · -- unOp
    replace he := Option.bind_eq_some_iff.1 he
    obtain ⟨x, hx, he⟩ := he
    exact opRuns_same rfl he hr fun z hz => evUn_run hz (opnd_rel ht hx)
  · -- convert
    replace he := Option.bind_eq_some_iff.1 he
    obtain ⟨x, hx, he⟩ := he
    exact opRuns_same rfl he hr fun z hz => evConv_run hC hz hr (opnd_rel ht hx)
  · -- range
    replace he := Option.bind_eq_some_iff.1 he
    obtain ⟨x, hx, he⟩ := he
    exact opRuns_v rfl (evRange_run hC he (opnd_rel ht hx) hr hρ hf)
  · -- entry
    replace he := Option.bind_eq_some_iff.1 he
    obtain ⟨x, hx, he⟩ := he
    exact opRuns_same rfl he hr fun y hy => evEntry_run hy hr (opnd_rel ht hx)
  · -- makeFunc
    split at he
    · rename_i f first cs h0
      replace he := Option.bind_eq_some_iff.1 he
      obtain ⟨l, hl, he⟩ := he
      replace he := Option.bind_eq_some_iff.1 he
      obtain ⟨q, hq, he⟩ := he
      obtain rfl := Option.some.inj he
      have hfe : first = #[] := Array.toList_inj.1 (List.eq_nil_of_length_eq_zero h0)
      subst hfe
      refine ⟨.func (.func f) #[] (cs.map a.eval), w, E, .inl ?_, Goes.refl hr, (cs.map a.eval).toList, by rw [Array.toArray_toList], caps_rel hq (by rw [Array.toList_map]; exact opL_rel ht hl)⟩
      simp only [execOp, Instr.makeFunc, Sem.run_bind, Sem.run_pure, Result.andThen_ok]
      simp
    · cases he
  · -- makeMap
    obtain rfl := Option.some.inj he
    exact opRuns_v rfl (evMakeMap_run hr hρ hf)
  · -- makeSlice
    replace he := Option.bind_eq_some_iff.1 he
    obtain ⟨x, hx, he⟩ := he
    replace he := Option.bind_eq_some_iff.1 he
    obtain ⟨y, hy, he⟩ := he
    exact opRuns_v rfl (evMakeSlice_run hC he (opnd_rel ht hx) (opnd_rel ht hy) hr hρ hf)
  · -- slice
    replace he := Option.bind_eq_some_iff.1 he
    obtain ⟨x, hx, he⟩ := he
    replace he := Option.bind_eq_some_iff.1 he
    obtain ⟨lo, hlo, he⟩ := he
    replace he := Option.bind_eq_some_iff.1 he
    obtain ⟨hi, hhi, he⟩ := he
    replace he := Option.bind_eq_some_iff.1 he
    obtain ⟨mx, hmx, he⟩ := he
    exact opRuns_same rfl he hr fun z hz => evSlice_run hC hρ hz (opnd_rel ht hx) (opO_rel ht hlo) (opO_rel ht hhi) (opO_rel ht hmx)
  · -- fieldAddr
    replace he := Option.bind_eq_some_iff.1 he
    obtain ⟨x, hx, he⟩ := he
    exact opRuns_same rfl he hr fun z hz => evFieldAddr_run hC hz (opnd_rel ht hx)
  · -- field
    replace he := Option.bind_eq_some_iff.1 he
    obtain ⟨x, hx, he⟩ := he
    exact opRuns_same rfl he hr fun z hz => evField_run hC hz (opnd_rel ht hx)
  · -- indexAddr
    replace he := Option.bind_eq_some_iff.1 he
    obtain ⟨x, hx, he⟩ := he
    replace he := Option.bind_eq_some_iff.1 he
    obtain ⟨y, hy, he⟩ := he
    exact opRuns_same rfl he hr fun z hz => evIndexAddr_run hC hρ hz (opnd_rel ht hx) (opnd_rel ht hy)
  · -- index
    replace he := Option.bind_eq_some_iff.1 he
    obtain ⟨x, hx, he⟩ := he
    replace he := Option.bind_eq_some_iff.1 he
    obtain ⟨y, hy, he⟩ := he
    exact opRuns_same rfl he hr fun z hz => evIndex_run hC hρ hz (opnd_rel ht hx) (opnd_rel ht hy)
  · -- extract
    replace he := Option.bind_eq_some_iff.1 he
    obtain ⟨x, hx, he⟩ := he
    exact opRuns_same rfl he hr fun z hz => evExtract_run (C := C) hz (opnd_rel ht hx)
  · -- lookup
    replace he := Option.bind_eq_some_iff.1 he
    obtain ⟨x, hx, he⟩ := he
    replace he := Option.bind_eq_some_iff.1 he
    obtain ⟨k, hk, he⟩ := he
    exact opRuns_same rfl he hr fun z hz => evLookup_run hC hρ hz hr (opnd_rel ht hx) (opnd_rel ht hk)
  · -- mapUpdate
    replace he := Option.bind_eq_some_iff.1 he
    obtain ⟨m, hm, he⟩ := he
    replace he := Option.bind_eq_some_iff.1 he
    obtain ⟨k, hk, he⟩ := he
    replace he := Option.bind_eq_some_iff.1 he
    obtain ⟨x, hx, he⟩ := he
    obtain ⟨h', h1, rfl⟩ := Option.map_eq_some_iff.1 he
    obtain ⟨w', E', h2, h3⟩ := evMapUpdate_run hC hρ (nx := nx) h1 hr (opnd_rel ht hm) (opnd_rel ht hk) (opnd_rel ht hx) hf
    exact opRuns_u rfl h2 h3
  · -- insert
    replace he := Option.bind_eq_some_iff.1 he
    obtain ⟨m, hm, he⟩ := he
    replace he := Option.bind_eq_some_iff.1 he
    obtain ⟨k, hk, he⟩ := he
    replace he := Option.bind_eq_some_iff.1 he
    obtain ⟨x, hx, he⟩ := he
    obtain ⟨h', h1, rfl⟩ := Option.map_eq_some_iff.1 he
    obtain ⟨w', E', h2, h3⟩ := evMapUpdate_run hC hρ (nx := nx) h1 hr (opnd_rel ht hm) (opnd_rel ht hk) (opnd_rel ht hx) hf
    exact opRuns_u rfl h2 h3
  · -- call
    rename_i b args ts
    replace he := Option.bind_eq_some_iff.1 he
    obtain ⟨xs, hxs, he⟩ := he
    have hl := opL_rel ht hxs
    have hlist : (args.map a.eval).toList = args.toList.map a.eval := Array.toList_map
    rw [← hlist] at hl
    split at he
    · obtain ⟨u, hu, hx⟩ := one_arg hl
      have hu' : args.map a.eval = #[u] := Array.toList_inj.1 hu
      refine opRuns_b (s := Builtin.len_ ts type (args.map a.eval)) rfl (fun _ => rfl) ?_
      rw [hu']
      exact reads_runs he hr fun y hy => evLen_run hC hρ hy hr hx
    · obtain ⟨u, v, hu, hs, hx⟩ := two_args hl
      have hu' : args.map a.eval = #[u, v] := Array.toList_inj.1 hu
      refine opRuns_b (s := Builtin.append_ ts type (args.map a.eval)) rfl (fun _ => rfl) ?_
      rw [hu']
      exact evAppend_run hC he hs hx hr hρ hf
    · obtain ⟨u, v, hu, hs, hx⟩ := two_args hl
      have hu' : args.map a.eval = #[u, v] := Array.toList_inj.1 hu
      obtain ⟨⟨z, h'⟩, h1, rfl⟩ := Option.map_eq_some_iff.1 he
      refine opRuns_b (s := Builtin.copy_ ts type (args.map a.eval)) rfl (fun _ => rfl) ?_
      rw [hu']
      exact evCopy_run hC h1 hr hs hx
    · refine opRuns_b (s := Builtin.min_ ts type (args.map a.eval)) rfl (fun _ => rfl) ?_
      exact reads_runs he hr fun y hy => evMM_run (C := C) (mx := false) (ts := ts) (ty := type) hy hl
    · refine opRuns_b (s := Builtin.max_ ts type (args.map a.eval)) rfl (fun _ => rfl) ?_
      exact reads_runs he hr fun y hy => evMM_run (C := C) (mx := true) (ts := ts) (ty := type) hy hl
    · cases he

/-! ### Operations that read only, and operations that only make a block -/
def isRd : Op → Bool
  | .move _ | .assign _ | .pick _ _ _ | .build _ _ | .load _ _ | .nilCheck _ | .binOp _ _ _ _ _ | .unOp _ _ _ | .convert _ _ _ | .makeFunc _ _ _ | .slice _ _ _ _ _ | .fieldAddr _ _ _ | .field _ _ _ | .indexAddr _ _ _ | .index _ _ _ | .extract _ _ | .lookup _ _ _ _ | .entry _ => true
  | .call { callee := .builtin .len, .. } | .call { callee := .builtin .min, .. } | .call { callee := .builtin .max, .. } => true
  | _ => false
def isAl : Op → Bool
  | .alloc _ | .box _ _ | .buildSlice _ _ _ | .makeMap _ _ | .makeSlice _ _ _ => true
  | _ => false
theorem same_eq {h : T Blk} {nx : Nat} {x : Option EV} {r : Res} (hx : same h nx x = some r) : r.2.1 = h ∧ r.2.2 = nx := by
  obtain ⟨y, _, rfl⟩ := Option.map_eq_some_iff.1 hx
  exact ⟨rfl, rfl⟩
set_option maxHeartbeats 1000000 in
theorem evOp_rd {C : Ctx} {h : T Blk} {nx : Nat} {tm : T EV} {o : Oper} {r : Res} (hi : isRd o.op = true) (he : evOp C h nx tm o = some r) : r.2.1 = h ∧ r.2.2 = nx := by
  obtain ⟨dst, op, type, pos, after, guard⟩ := o
  unfold evOp at he
  simp only at hi
  split at he <;> rename_i hop <;> simp only at hop <;> first | (cases he; done) | subst hop
  all_goals first
    | exact same_eq he
    | (cases hi; done)
    | (replace he := Option.bind_eq_some_iff.1 he
       obtain ⟨x1, _, he⟩ := he
       first
         | exact same_eq he
         | (split at he <;> first | (cases he; done) | (replace he := Option.bind_eq_some_iff.1 he; obtain ⟨x5, _, he⟩ := he; exact same_eq he))
         | (replace he := Option.bind_eq_some_iff.1 he
            obtain ⟨x2, _, he⟩ := he
            first
              | exact same_eq he
              | (replace he := Option.bind_eq_some_iff.1 he
                 obtain ⟨x3, _, he⟩ := he
                 replace he := Option.bind_eq_some_iff.1 he
                 obtain ⟨x4, _, he⟩ := he
                 exact same_eq he))
         | (split at he <;> first | exact same_eq he | (cases he; done) | (simp [isRd] at hi; done) | (replace he := Option.bind_eq_some_iff.1 he; obtain ⟨x5, _, he⟩ := he; exact same_eq he)))
    | (split at he
       · replace he := Option.bind_eq_some_iff.1 he
         obtain ⟨x1, _, he⟩ := he
         replace he := Option.bind_eq_some_iff.1 he
         obtain ⟨x2, _, he⟩ := he
         exact same_eq he
       · cases he)

end Go.Proofs.YtcnimekhpnejlaaGreat.Ev

/- The evaluator: operations in a row, and calls. -/
namespace Go.Proofs.YtcnimekhpnejlaaGreat.Ev
open Go Go.RowKit
set_option linter.unusedVariables false
set_option linter.unusedSimpArgs false

def FreshU (E : Env) (nx : Nat) : Prop := ∀ i, nx ≤ i → E.m i = none
theorem FreshU.fresh {E : Env} {nx : Nat} (h : FreshU E nx) (n : Nat) : Fresh E nx n := fun i hi _ => h i hi
theorem FreshU.goes {E E' : Env} {h h' : T Blk} {nx nx' : Nat} {w w' : World} (hf : FreshU E nx) (g : Goes E h nx w E' h' nx' w') : FreshU E' nx' := fun i hi => by
  have := g.le
  rw [g.out i (by omega)]
  exact hf i (by omega)

abbrev Call := Nat → List EV → T Blk → Nat → Option Res
/-- What a call of a function answers is what the function answers. -/
def CallOk (C : Ctx) (call : Call) : Prop := ∀ g args h nx r, call g args h nx = some r → ∀ E w (vs : List Value), HRel E h w → E.ρ = C.ρ → FreshU E nx → Rels (EV.rel E) args vs →
  Calls C.P g vs.toArray w fun e w' => ∃ v E', e = .returned v ∧ Goes E h nx w E' r.2.1 r.2.2 w' ∧ r.1.rel E' v
/-- Functions with a body of their own. -/
def FunOk (C : Ctx) (funs : Nat → Option Func) : Prop := ∀ g fn, funs g = some fn → C.P.funcs[g]? = some fn ∧ (fn.name == "runtime.NumGoroutine") = false ∧ fn.body.isNone = false

def ptrs (cs : List (Nat × Nat)) : List EV := cs.map fun c => .a (.s (.ptr c.1 c.2))
theorem ptrs_rel {E : Env} : ∀ {cs : List (Nat × Nat)} {vs : List Value}, Rels (relP E) cs vs → Rels (EV.rel E) (ptrs cs) vs
  | [], [], _ => trivial
  | c :: cs, v :: vs, h => ⟨h.1, ptrs_rel h.2⟩
  | [], _ :: _, h => h.elim
  | _ :: _, [], h => h.elim

/-- The bytes of a text, in a new row whose capacity is open. -/
def byteSV (x : UInt8) : SV := .int .u8 x.toNat
def evBytes (C : Ctx) (h : T Blk) (nx : Nat) (s d : TypeId) : EV → Option Res
  | .a (.s (.str b)) => (C.tab s).bind fun es => (C.tab d).bind fun ed =>
    match es.und, ed.und with
    | .string, .slice e => (C.tab e).bind fun ee =>
      match ee.und with
      | .int .u8 => some (.a (.s (.sl nx 0 b.size none 0)), h.set nx (.cells e (some 1) (Cells.ofList (b.data.toList.map byteSV)) true), nx + 1)
      | _ => none
    | _, _ => none
  | _ => none
theorem evBytes_run {C : Ctx} (hC : C.Ok) {E : Env} {h : T Blk} {nx : Nat} {w : World} {s d : TypeId} {x : EV} {r : Res} {v : Value} (he : evBytes C h nx s d x = some r) (hx : x.rel E v) (hr : HRel E h w) (hn : E.m nx = none) :
    ∃ v' w' E', (convert s d v).run C.P w = .ok v' w' ∧ Goes E h nx w E' r.2.1 r.2.2 w' ∧ r.1.rel E' v' := by
  unfold evBytes at he
  split at he
  · rename_i b
    obtain ⟨es, hes, he⟩ := Option.bind_eq_some_iff.1 he
    obtain ⟨ed, hed, he⟩ := Option.bind_eq_some_iff.1 he
    split at he
    · rename_i e hus hud
      obtain ⟨ee, hee, he⟩ := Option.bind_eq_some_iff.1 he
      split at he
      · rename_i hue
        obtain rfl := Option.some.inj he
        obtain rfl := hx
        have h1 := (hC.tab _ _ hes).und
        have h2 := (hC.tab _ _ hed).und
        have h3 := (hC.tab _ _ hee).und
        rw [hus] at h1
        rw [hud] at h2
        rw [hue] at h3
        have hrun := run_bytes_of_string (P := C.P) w s d e b h1 h2 h3
        have hd : Goes E h nx w E h nx w.drew := Goes.draw hr rfl rfl rfl rfl
        have hge := grownCap_ge w b.size 0 e
        have hsz : (bytesRow b (grownCap w b.size 0 e)).size = grownCap w b.size 0 e := by
          unfold bytesRow
          rw [Array.size_append, Array.size_map, Array.size_replicate]
          show b.data.size + _ = _
          have : b.size = b.data.size := rfl
          omega
        refine ⟨_, _, _, hrun, hd.trans (Goes.new (b := .cells e (some 1) (Cells.ofList (b.data.toList.map byteSV)) true) hd.rel hn ⟨w.heap.size, 0, grownCap w b.size 0 e⟩ rfl ⟨_, _, _, rfl, ?_⟩), ?_⟩
        · exact {
            fz := fun h => by cases h
            free := fun j hj => by omega
            room := fun sz hsz' => by
              obtain rfl := Option.some.inj hsz'
              show 0 + grownCap w b.size 0 e * 1 ≤ _
              omega
            fits := by
              rw [Cells.ofList_n, List.length_map, hsz]
              show 0 + b.data.toList.length ≤ _
              have : b.size = b.data.size := rfl
              rw [Array.length_toList]
              omega
            dl := fun h => by cases h
            get := fun j hj => by
              rw [Cells.ofList_n, List.length_map, Array.length_toList] at hj
              refine ⟨.int .u8 (b.data[j]).toNat, ?_, ?_⟩
              · unfold bytesRow
                show (b.data.map _ ++ _)[0 + j]? = _
                rw [Nat.zero_add, Array.getElem?_append_left (by simpa using hj), Array.getElem?_map, Array.getElem?_eq_getElem hj]
                rfl
              · rw [Cells.get_ofList _ j (byteSV b.data[j]) (by rw [List.getElem?_map, Array.getElem?_toList, Array.getElem?_eq_getElem hj]; rfl)]
                rfl }
        · exact ⟨⟨w.heap.size, 0, grownCap w b.size 0 e⟩, Env.put_at _ _ _, hge, rfl⟩
      · cases he
    · cases he
  · cases he
def evAny (C : Ctx) (funs : Nat → Option Func) (call : Call) (tm : T EV) (h : T Blk) (nx : Nat) (o : Oper) : Option Res :=
  match o.op with
  | .call { callee := .value f, args, .. } => (opnd tm f).bind fun fv =>
    match fv with
    | .a (.s (.func g cs)) => (funs g).bind fun _ => (opL tm args.toList).bind fun xs => call g (xs ++ ptrs cs) h nx
    | _ => none
  | .convert s d x =>
    match evOp C h nx tm o with
    | some r => some r
    | none => (opnd tm x).bind fun x => evBytes C h nx s d x
  | _ => evOp C h nx tm o

/-- What follows an operation. -/
def OpWp (C : Ctx) (E : Env) (h : T Blk) (nx : Nat) (a : Act) (w : World) (o : Oper) (r : Res) : Prop :=
  ∀ (K : Act → World → Prop) (Q : Exit → Act → World → Prop), (∀ v' w' E', Goes E h nx w E' r.2.1 r.2.2 w' → r.1.rel E' v' → K (a.put o.dst v') w') → o.wp C.P a w K Q
theorem OpRuns.wp {C : Ctx} {E : Env} {h : T Blk} {nx : Nat} {a : Act} {w : World} {o : Oper} {r : Res} (hr : OpRuns C E h nx a w o r) : OpWp C E h nx a w o r := by
  intro K Q hK
  obtain ⟨v', w', E', h1, h2, h3⟩ := hr
  unfold Oper.wp
  rcases h1 with h1 | ⟨h1, rfl⟩
  · rw [h1]
    exact hK v' w' E' h2 h3
  · rw [h1]
    exact hK undef w' E' h2 h3

theorem evAny_run {C : Ctx} (hC : C.Ok) {funs : Nat → Option Func} (hfun : FunOk C funs) {call : Call} (hcall : CallOk C call) {E : Env} (hρ : E.ρ = C.ρ) {h : T Blk} {nx : Nat} {tm : T EV} {a : Act} {w : World} {o : Oper} {r : Res}
    (he : evAny C funs call tm h nx o = some r) (hr : HRel E h w) (ht : RelT E tm a.tmps) (hf : FreshU E nx) : OpWp C E h nx a w o r := by
  unfold evAny at he
  split at he
  · rename_i f args ts hop
    replace he := Option.bind_eq_some_iff.1 he
    obtain ⟨fv, hfv, he⟩ := he
    have hfr := opnd_rel ht hfv
    split at he
    · rename_i g cs
      replace he := Option.bind_eq_some_iff.1 he
      obtain ⟨fn, hfn, he⟩ := he
      replace he := Option.bind_eq_some_iff.1 he
      obtain ⟨xs, hxs, he⟩ := he
      obtain ⟨vs, hv, hcs⟩ := hfr
      obtain ⟨p1, p2, p3⟩ := hfun g fn hfn
      have hxr := opL_rel ht hxs
      have hall := hxr.app (ptrs_rel hcs)
      have hc := hcall g _ h nx r he E w _ hr hρ hf hall
      intro K Q hK
      unfold Oper.wp
      have hexec : (execOp a.eval o).run C.P w = .ok (.enter g (args.map a.eval ++ vs.toArray)) w := by
        unfold execOp
        rw [hop]
        simp only [resolve, hv, Deferred.ofValue, Sem.run_bind, Sem.run_pure, Result.andThen_ok, invoke, callFunc, run_program, p1, p2, Bool.false_eq_true, if_false, p3]
        simp
      rw [hexec]
      show Calls C.P g (args.map a.eval ++ vs.toArray) w _
      have e : (args.map a.eval ++ vs.toArray) = (args.toList.map a.eval ++ vs).toArray := by
        apply Array.toList_inj.1
        simp
      rw [e]
      refine hc.mono fun e w' ⟨v, E', he', hg, hrel⟩ => ?_
      subst he'
      exact hK v w' E' hg hrel
    · cases he
  · rename_i s d x hop
    split at he
    · rename_i r' hr'
      obtain rfl := Option.some.inj he
      exact (evOp_run hC hρ hr' hr ht (hf.fresh _)).wp
    · obtain ⟨x', hx', he⟩ := Option.bind_eq_some_iff.1 he
      obtain ⟨v', w', E', h1, h2, h3⟩ := evBytes_run hC he (opnd_rel ht hx') hr (hf nx (Nat.le_refl _))
      refine OpRuns.wp ⟨v', w', E', .inl ?_, h2, h3⟩
      unfold execOp
      rw [hop]
      simp [h1]
  · exact (evOp_run hC hρ he hr ht (hf.fresh _)).wp

/-! ### Is an operation wanted? -/
def evGuard (C : Ctx) (ops : Array Oper) (tm : T EV) (o : Oper) : Option Bool :=
  match o.guard with
  | none => some true
  | some (j, want) =>
    match (ops[j]?).bind (·.dst) with
    | none => some false
    | some d =>
      match tm.get d with
      | some (.a (.s x)) => (C.truV x).map fun b => b == want
      | some (.tup _) => some false
      | _ => none
theorem evGuard_run {C : Ctx} (hC : C.Ok) {E : Env} (hρ : E.ρ = C.ρ) {ops : Array Oper} {tm : T EV} {o : Oper} {tmps : Array Value} {q : Bool} (he : evGuard C ops tm o = some q) (ht : RelT E tm tmps) : Region.wanted o (yielded ops tmps) = q := by
  unfold evGuard at he
  unfold Region.wanted
  split at he
  · rename_i hg
    rw [hg]
    exact Option.some.inj he
  · rename_i j want hg
    simp only [hg]
    split at he
    · rename_i hd
      unfold yielded
      rw [hd]
      exact Option.some.inj he
    · rename_i d hd
      have hy : yielded ops tmps j = (match tmps[d]? with | some (.bool b) => some b | _ => none) := by
        unfold yielded
        rw [hd]
        rfl
      rw [hy]
      split at he
      · rename_i x hb
        obtain ⟨b, hb2, he⟩ := Option.map_eq_some_iff.1 he
        have h1 : tmps.getD d undef = .bool b := hC.truV_ok hρ hb2 (ht d _ hb)
        rw [Array.getD_eq_getD_getElem?] at h1
        cases hq : tmps[d]? with
        | none => rw [hq] at h1; cases h1
        | some v =>
          rw [hq] at h1
          have h2 : v = .bool b := h1
          subst h2
          rw [← he]
          rfl
      · rename_i l hb
        obtain ⟨vs, h1, _⟩ := ht d _ hb
        rw [Array.getD_eq_getD_getElem?] at h1
        have := Option.some.inj he
        rw [← this]
        cases hq : tmps[d]? with
        | none => rfl
        | some v =>
          rw [hq] at h1
          have h2 : v = _ := h1
          subst h2
          rfl
      · cases he

/-! ### A row of operations -/
structure S where
  tm : T EV
  h : T Blk
  nx : Nat
def putS (N : Nat) (tm : T EV) (dst : Option Tmp) (r : Res) : Option S :=
  match dst with
  | none => some ⟨tm, r.2.1, r.2.2⟩
  | some d => if d < N then some ⟨tm.set d r.1, r.2.1, r.2.2⟩ else none
theorem putS_rel {N : Nat} {tm : T EV} {dst : Option Tmp} {r : Res} {s : S} (h : putS N tm dst r = some s) : s.h = r.2.1 ∧ s.nx = r.2.2 ∧ ∀ {E : Env} {a : Act} {v : Value}, RelT E tm a.tmps → N ≤ a.tmps.size → r.1.rel E v → RelT E s.tm (a.put dst v).tmps ∧ (a.put dst v).tmps.size = a.tmps.size ∧ (a.put dst v).defers = a.defers := by
  unfold putS at h
  split at h
  · obtain rfl := Option.some.inj h
    exact ⟨rfl, rfl, fun ht _ _ => ⟨ht, rfl, rfl⟩⟩
  · split at h
    · rename_i d hd
      obtain rfl := Option.some.inj h
      exact ⟨rfl, rfl, fun {E a v} ht hN hv => ⟨RelT.set ht (Nat.lt_of_lt_of_le hd hN) hv, by simp [Act.put], rfl⟩⟩
    · cases h

def evOper (C : Ctx) (funs : Nat → Option Func) (call : Call) (N : Nat) (ops : Array Oper) (s : S) (o : Oper) : Option S :=
  (evGuard C ops s.tm o).bind fun q => if q = true then (evAny C funs call s.tm s.h s.nx o).bind fun r => putS N s.tm o.dst r else putS N s.tm o.dst (.tup [], s.h, s.nx)
def flatO {α β : Type} (f : α → Option (List β)) : List α → Option (List β)
  | [] => some []
  | a :: as => (f a).bind fun x => (flatO f as).map fun y => x ++ y
theorem flatO_mem {α β : Type} {f : α → Option (List β)} : ∀ {as : List α} {r : List β}, flatO f as = some r → ∀ a ∈ as, ∃ x, f a = some x ∧ ∀ b ∈ x, b ∈ r
  | [], _, _, a, h => by simp at h
  | a :: as, r, he, c, hc => by
    replace he := Option.bind_eq_some_iff.1 he
    obtain ⟨x, hx, he⟩ := he
    obtain ⟨y, hy, rfl⟩ := Option.map_eq_some_iff.1 he
    rcases List.mem_cons.1 hc with rfl | hc
    · exact ⟨x, hx, fun b hb => List.mem_append_left _ hb⟩
    · obtain ⟨z, h1, h2⟩ := flatO_mem hy c hc
      exact ⟨z, h1, fun b hb => List.mem_append_right _ (h2 b hb)⟩
/-- One operation: all that may come of it. -/
def evOperL (C : Ctx) (funs : Nat → Option Func) (call : Call) (N : Nat) (ops : Array Oper) (s : S) (o : Oper) : Option (List S) :=
  match o.op with
  | .next x false => (evGuard C ops s.tm o).bind fun q =>
    if q = true then (opnd s.tm x).bind fun x => (evNext s.h x).bind fun rs => flatO (fun r => (putS N s.tm o.dst (r.1, r.2, s.nx)).map fun s => [s]) rs
    else (putS N s.tm o.dst (.tup [], s.h, s.nx)).map fun s => [s]
  | _ => (evOper C funs call N ops s o).map fun s => [s]
def evSeq (C : Ctx) (funs : Nat → Option Func) (call : Call) (N : Nat) (ops : Array Oper) : List Oper → S → Option (List S)
  | [], s => some [s]
  | o :: l, s => (evOperL C funs call N ops s o).bind fun ss => flatO (evSeq C funs call N ops l) ss

/-- The state s stands for the frame a and the world w. -/
structure At (C : Ctx) (E : Env) (N : Nat) (s : S) (a : Act) (w : World) : Prop where
  h : HRel E s.h w
  ρ : E.ρ = C.ρ
  fr : FreshU E s.nx
  tm : RelT E s.tm a.tmps
  N : N ≤ a.tmps.size
/-- What is known behind a piece of code. -/
structure After (C : Ctx) (E : Env) (N : Nat) (s : S) (a : Act) (w : World) (E' : Env) (s' : S) (a' : Act) (w' : World) : Prop where
  go : Goes E s.h s.nx w E' s'.h s'.nx w'
  tm : RelT E' s'.tm a'.tmps
  size : a'.tmps.size = a.tmps.size
  dfr : a'.defers = a.defers
theorem After.at {C : Ctx} {E E' : Env} {N : Nat} {s s' : S} {a a' : Act} {w w' : World} (h : At C E N s a w) (k : After C E N s a w E' s' a' w') : At C E' N s' a' w' :=
  ⟨k.go.rel, k.go.ext.ρ.trans h.ρ, h.fr.goes k.go, k.tm, by rw [k.size]; exact h.N⟩
theorem After.trans {C : Ctx} {E E1 E2 : Env} {N : Nat} {s s1 s2 : S} {a a1 a2 : Act} {w w1 w2 : World} (h : After C E N s a w E1 s1 a1 w1) (k : After C E1 N s1 a1 w1 E2 s2 a2 w2) : After C E N s a w E2 s2 a2 w2 :=
  ⟨h.go.trans k.go, k.tm, k.size.trans h.size, k.dfr.trans h.dfr⟩
theorem After.refl {C : Ctx} {E : Env} {N : Nat} {s : S} {a : Act} {w : World} (h : At C E N s a w) : After C E N s a w E s a w := ⟨Goes.refl h.h, h.tm, rfl, rfl⟩

section
variable {C : Ctx} (hC : C.Ok) {funs : Nat → Option Func} (hfun : FunOk C funs) {call : Call} (hcall : CallOk C call)
include hC hfun hcall

theorem evOper_run {E : Env} {N : Nat} {ops : Array Oper} {s s' : S} {o : Oper} {a : Act} {w : World} (he : evOper C funs call N ops s o = some s') (hA : At C E N s a w) {K : Act → World → Prop} {Q : Exit → Act → World → Prop}
    (hK : ∀ E' a' w', After C E N s a w E' s' a' w' → K a' w') : if Region.wanted o (yielded ops a.tmps) then o.wp C.P a w K Q else K (a.put o.dst undef) w := by
  replace he := Option.bind_eq_some_iff.1 he
  obtain ⟨q, hq, he⟩ := he
  rw [evGuard_run hC hA.ρ hq hA.tm]
  cases q with
  | true =>
    simp only [if_true] at he ⊢
    replace he := Option.bind_eq_some_iff.1 he
    obtain ⟨r, hr, he⟩ := he
    obtain ⟨e1, e2, hput⟩ := putS_rel he
    refine evAny_run hC hfun hcall hA.ρ hr hA.h hA.tm hA.fr K Q fun v' w' E' hg hrel => ?_
    obtain ⟨t1, t2, t3⟩ := hput (hA.tm.ext hg.ext) hA.N hrel
    exact hK E' _ w' ⟨by rw [e1, e2]; exact hg, t1, t2, t3⟩
  | false =>
    simp only [Bool.false_eq_true, if_false] at he ⊢
    obtain ⟨e1, e2, hput⟩ := putS_rel he
    obtain ⟨t1, t2, t3⟩ := hput hA.tm hA.N (v := undef) (⟨[], rfl, trivial⟩ : EV.rel E (.tup []) undef)
    exact hK E _ w ⟨by rw [e1, e2]; exact Goes.refl hA.h, t1, t2, t3⟩

theorem evOperL_run {E : Env} {N : Nat} {ops : Array Oper} {s : S} {ss : List S} {o : Oper} {a : Act} {w : World} (he : evOperL C funs call N ops s o = some ss) (hA : At C E N s a w) {K : Act → World → Prop} {Q : Exit → Act → World → Prop}
    (hK : ∀ s' ∈ ss, ∀ E' a' w', After C E N s a w E' s' a' w' → K a' w') : if Region.wanted o (yielded ops a.tmps) then o.wp C.P a w K Q else K (a.put o.dst undef) w := by
  unfold evOperL at he
  split at he
  · rename_i x hop
    replace he := Option.bind_eq_some_iff.1 he
    obtain ⟨q, hq, he⟩ := he
    rw [evGuard_run hC hA.ρ hq hA.tm]
    cases q with
    | true =>
      simp only [if_true] at he ⊢
      replace he := Option.bind_eq_some_iff.1 he
      obtain ⟨x', hx, he⟩ := he
      replace he := Option.bind_eq_some_iff.1 he
      obtain ⟨rs, hrs, he⟩ := he
      obtain ⟨r, hr, v', w', hrun, hg, hrel⟩ := evNext_run (C := C) (nx := s.nx) (ty := o.type) hrs hA.h (opnd_rel hA.tm hx)
      obtain ⟨l, hl, hmem⟩ := flatO_mem he r hr
      obtain ⟨s', hs, rfl⟩ := Option.map_eq_some_iff.1 hl
      obtain ⟨e1, e2, hput⟩ := putS_rel hs
      obtain ⟨t1, t2, t3⟩ := hput (hA.tm.ext hg.ext) hA.N hrel
      unfold Oper.wp
      have hexec : (execOp a.eval o).run C.P w = .ok (.value v') w' := by
        unfold execOp
        rw [hop]
        simp [hrun]
      rw [hexec]
      exact hK s' (hmem s' (by simp)) E _ w' ⟨by rw [e1, e2]; exact hg, t1, t2, t3⟩
    | false =>
      simp only [Bool.false_eq_true, if_false] at he ⊢
      obtain ⟨s', hs, rfl⟩ := Option.map_eq_some_iff.1 he
      obtain ⟨e1, e2, hput⟩ := putS_rel hs
      obtain ⟨t1, t2, t3⟩ := hput hA.tm hA.N (v := undef) (⟨[], rfl, trivial⟩ : EV.rel E (.tup []) undef)
      exact hK s' (by simp) E _ w ⟨by rw [e1, e2]; exact Goes.refl hA.h, t1, t2, t3⟩
  · obtain ⟨s', hs, rfl⟩ := Option.map_eq_some_iff.1 he
    exact evOper_run hC hfun hcall hs hA (hK s' (by simp))

theorem evSeq_run {N : Nat} {ops : Array Oper} {Q : Exit → Act → World → Prop} : ∀ (l : List Oper) {E : Env} {s : S} {ss : List S} {a : Act} {w : World}, evSeq C funs call N ops l s = some ss → At C E N s a w →
    (∀ s' ∈ ss, ∀ E' a' w', After C E N s a w E' s' a' w' → Q .normal a' w') → wpList C.P ops Q l a w
  | [], E, s, ss, a, w, he, hA, hQ => by
    obtain rfl := Option.some.inj he
    exact hQ s (by simp) E a w (After.refl hA)
  | o :: l, E, s, ss, a, w, he, hA, hQ => by
    replace he := Option.bind_eq_some_iff.1 he
    obtain ⟨s1, h1, h2⟩ := he
    refine wpList_step fun K hK => ?_
    refine evOperL_run hC hfun hcall h1 hA fun s2 hs2 E1 a1 w1 k1 => hK a1 w1 ?_
    obtain ⟨x, hx, hmem⟩ := flatO_mem h2 s2 hs2
    exact evSeq_run l hx (k1.at hA) fun s3 hs3 E2 a2 w2 k2 => hQ s3 (hmem s3 hs3) E2 a2 w2 (k1.trans k2)
end

end Go.Proofs.YtcnimekhpnejlaaGreat.Ev
