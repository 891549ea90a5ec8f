/- The evaluator: copy, len, min, max, maps. -/
import Derived.Test.YtoehfadjpficiaaGreatEv8
namespace Go.Proofs.YtoehfadjpficiaaGreat.Ev
open Go Go.RowKit
set_option linter.unusedVariables false
set_option linter.unusedSimpArgs false

def evLen (C : Ctx) (h : T Blk) (ts : Array TypeId) (x : EV) : Option EV :=
  (ts[0]?).bind fun t => (C.tab t).bind fun e =>
    match e.und, x with
    | .string, .a (.s (.str s)) => some (.a (.s (.int .i64 s.size)))
    | .array n _, _ => some (.a (.s (.int .i64 n)))
    | .slice _, .a (.s .nils) => some (.a (.s (.int .i64 0)))
    | .slice _, .a (.s (.var i)) => (C.len i).map fun y => .a (.s y)
    | .slice _, .a (.s (.slz _)) => some (.a (.s (.int .i64 0)))
    | .slice _, .a (.s (.sl _ _ len _ _)) => some (.a (.s (.int .i64 len)))
    | .map _ _, .a (.s .nilm) => some (.a (.s (.int .i64 0)))
    | .map _ _, .a (.s (.map i)) =>
      match h.get i with
      | some (.mp es _) => some (.a (.s (.int .i64 es.length)))
      | _ => none
    | _, _ => none
theorem evLen_run {C : Ctx} (hC : C.Ok) {E : Env} {h : T Blk} {w : World} {ts : Array TypeId} {ty : TypeId} {x r : EV} {v : Value} (hρ : E.ρ = C.ρ) (he : evLen C h ts x = some r) (hr : HRel E h w) (hx : x.rel E v) : Reads C E w (Builtin.len_ ts ty #[v]) r := by
  unfold evLen at he
  replace he := Option.bind_eq_some_iff.1 he
  obtain ⟨t, h0, he⟩ := he
  replace he := Option.bind_eq_some_iff.1 he
  obtain ⟨e, h1, he⟩ := he
  have hru := (hC.tab t e h1).run_und w
  split at he
  · rename_i s hu
    rw [hu] at hru
    obtain rfl := Option.some.inj he
    obtain rfl := hx
    exact ⟨_, by simp [Builtin.len_, h0, hru, goInt], rfl⟩
  · rename_i n el hu
    rw [hu] at hru
    obtain rfl := Option.some.inj he
    exact ⟨_, by simp [Builtin.len_, h0, hru, goInt], rfl⟩
  · rename_i el hu
    rw [hu] at hru
    obtain rfl := Option.some.inj he
    obtain rfl := hx
    exact ⟨_, by simp [Builtin.len_, h0, hru, goInt], rfl⟩
  · rename_i el i hu
    rw [hu] at hru
    obtain ⟨y, hy, rfl⟩ := Option.map_eq_some_iff.1 he
    obtain ⟨a, l, c, h2, h3⟩ := hC.len i y hy
    obtain ⟨rfl, _⟩ := hx
    rw [hρ, h2]
    exact ⟨.int .i64 (l : Nat), by simp [Builtin.len_, h0, hru, goInt], h3 E hρ⟩
  · rename_i el c hu
    rw [hu] at hru
    obtain rfl := Option.some.inj he
    obtain ⟨a, cp, rfl⟩ := SV.slz_form hx
    exact ⟨_, by simp [Builtin.len_, h0, hru, goInt], rfl⟩
  · rename_i el i o len c k hu
    rw [hu] at hru
    obtain rfl := Option.some.inj he
    obtain ⟨p, cp, _, _, rfl⟩ := SV.sl_form hx
    exact ⟨_, by simp [Builtin.len_, h0, hru, goInt], rfl⟩
  · rename_i k el hu
    rw [hu] at hru
    obtain rfl := Option.some.inj he
    obtain rfl := hx
    exact ⟨_, by simp [Builtin.len_, h0, hru, goInt], rfl⟩
  · rename_i k el i hu
    rw [hu] at hru
    split at he
    · rename_i es clock hb
      obtain rfl := Option.some.inj he
      obtain ⟨p, hp, rfl⟩ := hx
      obtain ⟨o, ho, ents, rfl, hrel⟩ := hr.blk hb hp
      obtain ⟨l, hperm, hrel, _⟩ := hrel
      have hl := hrel.length
      rw [hperm.length_eq, Array.length_toList] at hl
      refine ⟨.int .i64 ents.size, ?_, by show Value.int .i64 _ = _; rw [hl]⟩
      simp [Builtin.len_, h0, hru, getObj, Sem.run, ho, goInt]
    · cases he
  · cases he

/-! ### min, max -/
def evMM (mx : Bool) : List EV → Option EV
  | .a (.s (.int k x)) :: rest => rest.foldlM (fun (acc : EV) (y : EV) => match acc, y with
      | .a (.s (.int k x)), .a (.s (.int _ y)) => some (.a (.s (.int k (if mx = true then (if y > x then y else x) else if y < x then y else x))))
      | _, _ => none) (.a (.s (.int k x)))
  | _ => none
theorem evMM_fold {P : Program} {E : Env} {mx : Bool} : ∀ {rest : List EV} {vs : List Value} {acc : EV} {va : Value} {r : EV} {w : World},
    rest.foldlM (fun (acc : EV) (y : EV) => match acc, y with
      | .a (.s (.int k x)), .a (.s (.int _ y)) => some (.a (.s (.int k (if mx = true then (if y > x then y else x) else if y < x then y else x))))
      | _, _ => none) acc = some r → acc.rel E va → Rels (EV.rel E) rest vs →
    ∃ v, (vs.foldlM (if mx = true then Builtin.max2 else Builtin.min2) va).run P w = .ok v w ∧ r.rel E v
  | [], [], acc, va, r, w, h, ha, _ => by
    obtain rfl := Option.some.inj h
    exact ⟨va, by simp, ha⟩
  | y :: rest, u :: vs, acc, va, r, w, h, ha, hr => by
    rw [List.foldlM_cons] at h
    replace h := Option.bind_eq_some_iff.1 h
    obtain ⟨acc2, h1, h2⟩ := h
    split at h1
    · obtain rfl := Option.some.inj h1
      obtain rfl := ha
      obtain rfl := hr.1
      have hs : ∀ (k q : IntKind) (x y : Int), ((if mx = true then Builtin.max2 else Builtin.min2) (.int k x) (.int q y)).run P w = .ok (.int k (if mx = true then (if y > x then y else x) else if y < x then y else x)) w := fun k q x y => by cases mx <;> rfl
      obtain ⟨v, h3, h4⟩ := evMM_fold (va := .int _ _) h2 rfl hr.2
      exact ⟨v, by rw [List.foldlM_cons, Sem.run_bind, hs, Result.andThen_ok]; exact h3, h4⟩
    · cases h1
  | [], _ :: _, _, _, _, _, _, _, hr => hr.elim
  | _ :: _, [], _, _, _, _, _, _, hr => hr.elim
theorem evMM_run {C : Ctx} {E : Env} {mx : Bool} {w : World} {xs : List EV} {vs : Array Value} {r : EV} {ts : Array TypeId} {ty : TypeId} (he : evMM mx xs = some r) (hx : Rels (EV.rel E) xs vs.toList) :
    Reads C E w (if mx = true then Builtin.max_ ts ty vs else Builtin.min_ ts ty vs) r := by
  unfold evMM at he
  split at he
  · rename_i k x rest
    obtain ⟨l⟩ := vs
    cases l with
    | nil => exact hx.elim
    | cons v l =>
      obtain ⟨h1, h2⟩ := hx
      obtain ⟨z, h3, h4⟩ := evMM_fold (P := C.P) (w := w) he h1 h2
      refine ⟨z, ?_, h4⟩
      cases mx
      · simpa [Builtin.min_] using h3
      · simpa [Builtin.max_] using h3
  · cases he

/-! ### copy -/
def evCopy (C : Ctx) (h : T Blk) (ts : Array TypeId) (d x : EV) : Option (EV × T Blk) :=
  (ts[0]?).bind fun t => (ts[1]?).bind fun _ => (C.tab t).bind fun e =>
    match e.und, d with
    | .slice el, .a (.s (.sl i o len _ _)) => (C.tab el).bind fun ee => (evSrc h ee.size x).bind fun q =>
      match h.get i with
      | some (.cells t' opn cl fz) =>
        if o + (min q.1 len) * ee.size ≤ cl.n then some (.a (.s (.int .i64 (min q.1 len : Nat))), h.set i (.cells t' opn (cl.puts o (q.2.take (min q.1 len * ee.size))) fz)) else none
      | _ => none
    | _, _ => none
theorem evCopy_run {C : Ctx} (hC : C.Ok) {E : Env} {h h' : T Blk} {nx : Nat} {w : World} {ts : Array TypeId} {ty : TypeId} {d x r : EV} {vd vx : Value} (he : evCopy C h ts d x = some (r, h')) (hr : HRel E h w) (hd : d.rel E vd) (hx : x.rel E vx) :
    RunsV C.P E h nx w (Builtin.copy_ ts ty #[vd, vx]) r h' nx := by
  unfold evCopy at he
  replace he := Option.bind_eq_some_iff.1 he
  obtain ⟨t, h0, he⟩ := he
  replace he := Option.bind_eq_some_iff.1 he
  obtain ⟨t1, h1, he⟩ := he
  replace he := Option.bind_eq_some_iff.1 he
  obtain ⟨e, h2, he⟩ := he
  split at he
  · rename_i el i o len c k hu
    replace he := Option.bind_eq_some_iff.1 he
    obtain ⟨ee, h3, he⟩ := he
    replace he := Option.bind_eq_some_iff.1 he
    obtain ⟨⟨n, cs⟩, hq, he⟩ := he
    simp only at he
    split at he
    · rename_i t' opn cl fz hb
      split at he
      · rename_i hfit
        simp only [Option.some.injEq, Prod.mk.injEq] at he
        obtain ⟨rfl, rfl⟩ := he
        obtain ⟨p, cp, hp, _, rfl⟩ := SV.sl_form hd
        obtain ⟨hl, hcl, hfc⟩ := evSrc_run (C := C) hq hr hx
        obtain ⟨nv, hnv, hnr⟩ := hfc (min n len) (Nat.min_le_left _ _)
        obtain ⟨w', hs, hg⟩ := HRel.run_store (P := C.P) (nx := nx) hr hb hp o hnv (by rw [List.length_take]; have : min n len * ee.size ≤ n * ee.size := Nat.mul_le_mul_right _ (Nat.min_le_left _ _); omega)
        have hru := (hC.tab t e h2).run_und w
        rw [hu] at hru
        refine ⟨.int .i64 (min n len : Nat), w', E, ?_, hg, rfl⟩
        unfold Builtin.copy_
        have hm : Nat.min n len = min n len := rfl
        simp only [h0, h1, List.getElem?_toArray, List.getElem?_cons_zero, List.getElem?_cons_succ, Sem.run_bind, hru, Result.andThen_ok, hl, (hC.tab _ _ h3).run_size w, hm, hnr w rfl, hs, Sem.run_pure, goInt]
      · cases he
    · cases he
  · cases he

/-! ### Maps -/
def evMakeMap (h : T Blk) (nx : Nat) : Res := (.a (.s (.map nx)), h.set nx (.mp [] 0), nx + 1)
theorem evMakeMap_run {C : Ctx} {E : Env} {h : T Blk} {nx : Nat} {w : World} {t : TypeId} : Runs C E h nx w (Instr.makeMap t none) (evMakeMap h nx) := by
  intro hr _ hf
  refine ⟨.map (some w.heap.size), _, _, ?_, Goes.new (o := .map #[] 0) hr (fresh1 hf) ⟨w.heap.size, 0, 0⟩ rfl ⟨#[], rfl, [], List.Perm.refl _, trivial, List.nodup_nil, fun _ h => by simp at h⟩, _, Env.put_at _ _ _, rfl⟩
  simp [Instr.makeMap]

def keyKind : TypeDesc → Bool
  | .int _ | .string | .bool => true
  | _ => false
def keySame (u : TypeDesc) (a b : AV) : Option Bool :=
  match u, a, b with
  | .int _, .s (.int k a), .s (.int q b) => if k = q then some (a == b) else none
  | .string, .s (.str a), .s (.str b) => some (a == b)
  | .bool, .s (.bool a), .s (.bool b) => some (a == b)
  | _, _, _ => none
def evHits (u : TypeDesc) (k : AV) : List (AV × AV × Nat) → Option (List (AV × AV × Nat))
  | [] => some []
  | e :: es => (keySame u k e.1).bind fun b => (evHits u k es).map fun hs => if b = true then e :: hs else hs
def hitB (u : TypeDesc) (vk : Value) (f : MapEntry) : Bool := Instr.sameNow u vk f.key == some true
theorem sameNow_rel {E : Env} {u : TypeDesc} {k e : AV} {vk v : Value} {b : Bool} (hk : k.rel E vk) (he : e.rel E v) (hb : keySame u k e = some b) : Instr.sameNow u vk v = some b := by
  unfold keySame at hb
  split at hb
  · obtain rfl := hk
    have e2 : v = _ := he
    rw [e2]
    exact hb
  · obtain rfl := hk
    have e2 : v = _ := he
    rw [e2]
    exact hb
  · obtain rfl := hk
    have e2 : v = _ := he
    rw [e2]
    exact hb
  · cases hb
theorem evHits_rel {E : Env} {u : TypeDesc} {k : AV} {vk : Value} (hk : k.rel E vk) : ∀ {es hs : List (AV × AV × Nat)} {l : List MapEntry}, evHits u k es = some hs → Rels (entryRel E) es l →
    (∀ f ∈ l, ∃ b, Instr.sameNow u vk f.key = some b) ∧ Rels (entryRel E) hs (l.filter (hitB u vk)) ∧ (∀ x ∈ hs, keySame u k x.1 = some true) ∧ Rels (fun x f => entryRel E x f ∧ (decide (keySame u k x.1 = some true)) = hitB u vk f) es l
  | [], hs, [], h, _ => by
    obtain rfl := Option.some.inj h
    exact ⟨fun f hf => by simp at hf, trivial, fun x hx => by simp at hx, trivial⟩
  | e :: es, hs, f :: l, h, hr => by
    replace h := Option.bind_eq_some_iff.1 h
    obtain ⟨b, hb, h⟩ := h
    obtain ⟨hs2, h2, rfl⟩ := Option.map_eq_some_iff.1 h
    obtain ⟨i1, i2, i3, i4⟩ := evHits_rel hk h2 hr.2
    have hsame := sameNow_rel hk hr.1.1 hb
    refine ⟨fun g hg => ?_, ?_, ?_, ⟨hr.1, ?_⟩, i4⟩
    · rcases List.mem_cons.1 hg with rfl | hg
      · exact ⟨b, hsame⟩
      · exact i1 g hg
    · rw [List.filter_cons]
      cases b with
      | true => rw [if_pos rfl, if_pos (by unfold hitB; rw [hsame]; rfl)]; exact ⟨hr.1, i2⟩
      | false => rw [if_neg (by simp), if_neg (by unfold hitB; rw [hsame]; simp)]; exact i2
    · cases b with
      | true =>
        intro x hx
        rcases List.mem_cons.1 hx with rfl | hx
        · exact hb
        · exact i3 x hx
      | false => exact i3
    · unfold hitB
      rw [hsame, hb]
      cases b <;> simp
  | [], _, _ :: _, _, hr => hr.elim
  | _ :: _, _, [], _, hr => hr.elim
theorem find_none {u : TypeDesc} {vk : Value} : ∀ {ents : List MapEntry} {i : Nat}, (∀ f ∈ ents, ∃ b, Instr.sameNow u vk f.key = some b) → ents.filter (hitB u vk) = [] → Instr.findNow u vk ents i = some none
  | [], _, _, _ => rfl
  | x :: ents, i, h, hf => by
    obtain ⟨b, hb⟩ := h x (by simp)
    rw [List.filter_cons] at hf
    unfold Instr.findNow
    cases b with
    | true => rw [if_pos (by unfold hitB; rw [hb]; rfl)] at hf; cases hf
    | false =>
      rw [if_neg (by unfold hitB; rw [hb]; simp)] at hf
      rw [hb]
      exact find_none (fun f hf => h f (by simp [hf])) hf
theorem map_id_of {u : TypeDesc} {vk : Value} (g : MapEntry → MapEntry) : ∀ {ents : List MapEntry}, ents.filter (hitB u vk) = [] → ents.map (fun y => if hitB u vk y = true then g y else y) = ents
  | [], _ => rfl
  | x :: ents, h => by
    rw [List.filter_cons] at h
    by_cases hx : hitB u vk x = true
    · rw [if_pos hx] at h; cases h
    · rw [if_neg hx] at h
      rw [List.map_cons, if_neg hx, map_id_of g h]
theorem find_one {u : TypeDesc} {vk : Value} (g : MapEntry → MapEntry) : ∀ {ents : List MapEntry} {i : Nat} {f : MapEntry}, (∀ f ∈ ents, ∃ b, Instr.sameNow u vk f.key = some b) → ents.filter (hitB u vk) = [f] →
    ∃ j, ents[j]? = some f ∧ Instr.findNow u vk ents i = some (some (i + j, f.val)) ∧ ents.modify j g = ents.map (fun y => if hitB u vk y = true then g y else y)
  | [], _, _, _, h => by cases h
  | x :: ents, i, f, h, hf => by
    obtain ⟨b, hb⟩ := h x (by simp)
    rw [List.filter_cons] at hf
    cases b with
    | true =>
      have hx : hitB u vk x = true := by unfold hitB; rw [hb]; rfl
      rw [if_pos hx] at hf
      obtain ⟨rfl, hr⟩ := List.cons.inj hf
      refine ⟨0, rfl, ?_, ?_⟩
      · unfold Instr.findNow
        rw [hb]
        rfl
      · rw [List.modify_cons, if_pos rfl, List.map_cons, if_pos hx, map_id_of g hr]
    | false =>
      have hx : ¬ hitB u vk x = true := by unfold hitB; rw [hb]; simp
      rw [if_neg hx] at hf
      obtain ⟨j, j1, j2, j3⟩ := find_one g (i := i + 1) (fun f hf => h f (by simp [hf])) hf
      refine ⟨j + 1, by simpa using j1, ?_, ?_⟩
      · unfold Instr.findNow
        rw [hb]
        simp only
        rw [j2, show i + 1 + j = i + (j + 1) by omega]
      · rw [List.modify_cons, if_neg (by omega), List.map_cons, if_neg hx, Nat.add_sub_cancel, j3]
theorem mp_find {E : Env} {u : TypeDesc} {k : AV} {vk : Value} {es hs : List (AV × AV × Nat)} {clock : Nat} {ents : Array MapEntry} (hm : mpRel E es clock ents) (hk : k.rel E vk) (hh : evHits u k es = some hs) (g : MapEntry → MapEntry) :
    (hs = [] → Instr.findNow u vk ents.toList 0 = some none) ∧ ∀ x, hs = [x] → ∃ j f, ents[j]? = some f ∧ Instr.findNow u vk ents.toList 0 = some (some (j, f.val)) ∧ entryRel E x f ∧ keySame u k x.1 = some true ∧ ents.toList.modify j g = ents.toList.map (fun y => if hitB u vk y = true then g y else y) := by
  obtain ⟨l, hp, hr, hn, hc⟩ := hm
  obtain ⟨h1, h2, h3, _⟩ := evHits_rel hk hh hr
  have h1' : ∀ f ∈ ents.toList, ∃ b, Instr.sameNow u vk f.key = some b := fun f hf => h1 f (hp.mem_iff.2 hf)
  have hpf := hp.filter (hitB u vk)
  constructor
  · rintro rfl
    have e : l.filter (hitB u vk) = [] := by
      cases hq : l.filter (hitB u vk) with
      | nil => rfl
      | cons a b => rw [hq] at h2; exact h2.elim
    rw [e] at hpf
    exact find_none h1' (List.Perm.nil_eq hpf).symm
  · rintro x rfl
    obtain ⟨f, hf, hxf⟩ : ∃ f, l.filter (hitB u vk) = [f] ∧ entryRel E x f := by
      match hq : l.filter (hitB u vk), h2 with
      | [f], h2 => exact ⟨f, rfl, h2.1⟩
      | [], h2 => exact h2.elim
      | _ :: _ :: _, h2 => exact h2.2.elim
    rw [hf] at hpf
    have e : ents.toList.filter (hitB u vk) = [f] := (List.singleton_perm.1 hpf).symm
    obtain ⟨j, j1, j2, j3⟩ := find_one g (i := 0) h1' e
    rw [Nat.zero_add] at j2
    exact ⟨j, f, by rw [← Array.getElem?_toList]; exact j1, j2, hxf, h3 x (by simp), j3⟩

/-- A key of which it is known that it is none of those that are there. -/
def isIntD : TypeDesc → Bool
  | .int _ => true
  | _ => false
def evHitsX (C : Ctx) (u : TypeDesc) (k : AV) (es : List (AV × AV × Nat)) : Option (List (AV × AV × Nat)) :=
  match k with
  | .s (.var i) => if (isIntD u && es.all fun e => match e.1 with | .s (.int q b) => decide (C.fact .eql i q b = some false) | _ => false) = true then some [] else none
  | k => evHits u k es
theorem mp_findX {C : Ctx} (hC : C.Ok) {E : Env} (hρ : E.ρ = C.ρ) {u : TypeDesc} {k : AV} {vk : Value} {es hs : List (AV × AV × Nat)} {clock : Nat} {ents : Array MapEntry} (hm : mpRel E es clock ents) (hk : k.rel E vk) (hh : evHitsX C u k es = some hs) :
    (hs = [] → Instr.findNow u vk ents.toList 0 = some none) ∧ ∀ x, hs = [x] → ∃ j f, Instr.findNow u vk ents.toList 0 = some (some (j, f.val)) ∧ entryRel E x f := by
  unfold evHitsX at hh
  split at hh
  · rename_i i
    split at hh
    · rename_i hc
      obtain rfl := Option.some.inj hh
      refine ⟨fun _ => ?_, fun x hx => by cases hx⟩
      rw [Bool.and_eq_true] at hc
      obtain ⟨l, hp, hr, _⟩ := hm
      have hvk : vk = C.ρ i := by rw [← hρ]; exact hk.1
      have hall : ∀ f ∈ ents.toList, Instr.sameNow u vk f.key = some false := fun f hf => by
        obtain ⟨n, hn⟩ := List.mem_iff_getElem?.1 (hp.mem_iff.2 hf)
        have : ∃ e, es[n]? = some e ∧ entryRel E e f := by
          have hlen := hr.length
          have hlt := (List.getElem?_eq_some_iff.1 hn).1
          obtain ⟨b, hb, hab⟩ := hr.get n es[n] (by rw [List.getElem?_eq_getElem])
          rw [hn] at hb
          obtain rfl := Option.some.inj hb
          exact ⟨_, List.getElem?_eq_getElem _, hab⟩
        obtain ⟨e, he, hab⟩ := this
        have h := List.all_eq_true.1 hc.2 e (List.mem_of_getElem? he)
        split at h
        · rename_i q b hq
          rw [decide_eq_true_eq] at h
          obtain ⟨x, hx, hxb⟩ := hC.eql _ _ _ _ h
          have hkey := hab.1
          rw [hq] at hkey
          have hkey' : f.key = .int q b := hkey
          rw [hvk, hx, hkey']
          cases u <;> first
            | (simp [isIntD] at hc; done)
            | (show (if q = q then some (x == b) else none) = some false; rw [if_pos rfl, hxb])
        · cases h
      refine find_none (fun f hf => ⟨false, hall f hf⟩) (List.filter_eq_nil_iff.2 fun f hf => ?_)
      unfold hitB
      rw [hall f hf]
      simp
    · cases hh
  · obtain ⟨f1, f2⟩ := mp_find hm hk hh id
    exact ⟨f1, fun x hx => by
      obtain ⟨j, f, _, h6, h7, _⟩ := f2 x hx
      exact ⟨j, f, h6, h7⟩⟩

/-! ### Keys that are structs or arrays -/
def keyF (C : Ctx) (rec : TypeId → AV → Bool) (xs : List SV) : List Field → Bool
  | [] => true
  | f :: fs =>
    (if f.name ≠ "_" then
      match C.tab f.type with
      | some e => (match evPart e xs f.offset with | some a => rec f.type a | none => false)
      | none => false
    else true) && keyF C rec xs fs
def keyI (el : TypeId) (ee : TE) (rec : TypeId → AV → Bool) (xs : List SV) : List Nat → Bool
  | [] => true
  | i :: is => (match evPart ee xs (i * ee.size) with | some a => rec el a | none => false) && keyI el ee rec xs is
def keyOk (C : Ctx) : Nat → TypeId → AV → Bool
  | 0, _, _ => false
  | d + 1, t, x =>
    match C.tab t with
    | none => false
    | some e =>
      match e.und, x with
      | .struct fs, .agg xs => keyF C (keyOk C d) xs fs.toList
      | .array n el, .agg xs => (match C.tab el with | some ee => keyI el ee (keyOk C d) xs (List.range n) | none => false)
      | .int _, .s _ => true
      | .string, .s _ => true
      | .bool, .s _ => true
      | _, _ => false
theorem keyOk_run {C : Ctx} (hC : C.Ok) {E : Env} (b : Bool) : ∀ (d D : Nat), d ≤ D → ∀ (t : TypeId) (x : AV) (v : Value), keyOk C d t x = true → x.rel E v → ∀ w, (Instr.checkKey b D t v).run C.P w = .ok () w
  | 0, _, _, _, _, _, h, _, _ => by cases h
  | d + 1, 0, hD, _, _, _, _, _, _ => by omega
  | d + 1, D + 1, hD, t, x, v, h, hx, w => by
    unfold keyOk at h
    split at h
    · cases h
    · rename_i e he
      have hru := (hC.tab t e he).run_und w
      unfold Instr.checkKey
      simp only [Sem.run_bind, hru, Result.andThen_ok]
      split at h
      · rename_i fs xs hu
        rw [hu]
        obtain ⟨vs, rfl, hvs⟩ := hx
        simp only
        rw [← Array.forIn_toList]
        revert h
        generalize fs.toList = l
        intro h
        induction l with
        | nil => simp
        | cons f fs ih =>
          unfold keyF at h
          rw [Bool.and_eq_true] at h
          obtain ⟨h1, h2⟩ := h
          rw [List.forIn_cons]
          split at h1
          · rename_i hn
            split at h1
            · rename_i e1 he1
              split at h1
              · rename_i a1 ha1
                obtain ⟨u1, hu1, hr1⟩ := run_part (hC.tab _ _ he1) hvs ha1 w
                have h3 := keyOk_run hC b d D (by omega) f.type a1 u1 h1 hr1 w
                simp only [Sem.run_bind, hn, ne_eq, not_false_eq_true, if_true, Result.andThen_ok, hu1, h3, Sem.run_pure]
                simpa only [Sem.run_bind, Sem.run_pure, ne_eq] using ih h2
              · cases h1
            · cases h1
          · rename_i hn
            have hn' : f.name = "_" := Decidable.not_not.1 hn
            simp only [hn', ne_eq, not_true_eq_false, if_false, Sem.run_bind, Sem.run_pure, Result.andThen_ok]
            simpa only [Sem.run_bind, Sem.run_pure, ne_eq] using ih h2
      · rename_i n el xs hu
        rw [hu]
        obtain ⟨vs, rfl, hvs⟩ := hx
        split at h
        · rename_i ee hee
          have hte := hC.tab _ _ hee
          obtain ⟨i, hi, _⟩ := hte.info
          simp only [Std.Legacy.Range.forIn_eq_forIn_range', Std.Legacy.Range.size, Nat.sub_zero, Nat.add_one_sub_one, Nat.div_one]
          rw [List.range_eq_range'] at h
          revert h
          generalize List.range' 0 n = l
          intro h
          induction l with
          | nil => simp
          | cons j is ih =>
            unfold keyI at h
            rw [Bool.and_eq_true] at h
            obtain ⟨h1, h2⟩ := h
            split at h1
            · rename_i a1 ha1
              obtain ⟨u1, hu1, hr1⟩ := run_part hte hvs ha1 w
              have h3 := keyOk_run hC b d D (by omega) el a1 u1 h1 hr1 w
              simp only [List.forIn_cons, Sem.run_bind, hte.run_size w, Result.andThen_ok, hu1, h3, Sem.run_pure]
              simpa only [Sem.run_bind, Sem.run_pure] using ih h2
            · cases h1
        · cases h
      · rename_i hu
        rw [hu]
        rfl
      · rename_i hu
        rw [hu]
        rfl
      · rename_i hu
        rw [hu]
        rfl
      · cases h

def evLookup (C : Ctx) (h : T Blk) (t : TypeId) (ok : Bool) (m k : EV) : Option EV :=
  (C.tab t).bind fun e =>
    match e.und, m, k with
    | .map kt et, .a (.s m), .a k => (C.tab kt).bind fun ke => (C.tab et).bind fun ee => (litAV ee.zero).bind fun z =>
      if keyKind ke.und = false then
        if keyOk C 9 kt k = true then
          match m with
          | .nilm => some (if ok = true then .tup [z, .s (.bool false)] else .a z)
          | .map i => (match h.get i with
            | some (.mp [] _) => some (if ok = true then .tup [z, .s (.bool false)] else .a z)
            | _ => none)
          | _ => none
        else none
      else
      (match m with
        | .nilm => some []
        | .map i => (match h.get i with | some (.mp es _) => some es | _ => none)
        | _ => none : Option (List (AV × AV × Nat))).bind fun es => (evHitsX C ke.und k es).bind fun r =>
        match r with
        | [x] => some (if ok = true then .tup [x.2.1, .s (.bool true)] else .a x.2.1)
        | [] => some (if ok = true then .tup [z, .s (.bool false)] else .a z)
        | _ => none
    | _, _, _ => none
theorem run_checkKey {C : Ctx} (hC : C.Ok) {kt : TypeId} {ke : TE} (hk : C.tab kt = some ke) (hu : keyKind ke.und = true) (b : Bool) (v : Value) (w : World) : (Instr.checkKey b 10000 kt v).run C.P w = .ok () w := by
  have hru := (hC.tab _ _ hk).run_und w
  unfold Instr.checkKey
  simp only [Sem.run_bind, hru, Result.andThen_ok]
  cases hv : ke.und <;> rw [hv] at hu <;> first | (cases hu; done) | rfl
theorem run_getMap {P : Program} {w : World} {r : Nat} {ents : Array MapEntry} {clock : Nat} (h : w.heap[r]? = some (.map ents clock)) : (getObj r).run P w = .ok (.map ents clock) w := by
  simp only [getObj, Sem.run, h]
theorem run_findKey {C : Ctx} (hC : C.Ok) {kt : TypeId} {ke : TE} (hk : C.tab kt = some ke) {v : Value} {ents : List MapEntry} {r : Option (Nat × Value)} (h : Instr.findNow ke.und v ents 0 = some r) (w : World) : (Instr.findKey kt v ents).run C.P w = .ok r w := by
  simp only [Instr.findKey, Sem.run_bind, (hC.tab _ _ hk).run_und w, Result.andThen_ok, h, Sem.run_pure]

theorem evLookup_run {C : Ctx} (hC : C.Ok) {E : Env} (hρ : E.ρ = C.ρ) {h : T Blk} {w : World} {t : TypeId} {ok : Bool} {m k r : EV} {vm vk : Value} (he : evLookup C h t ok m k = some r) (hr : HRel E h w) (hm : m.rel E vm) (hk : k.rel E vk) : Reads C E w (Instr.lookup t vm vk ok) r := by
  unfold evLookup at he
  replace he := Option.bind_eq_some_iff.1 he
  obtain ⟨e, h0, he⟩ := he
  split at he
  · rename_i kt et m k hu
    replace he := Option.bind_eq_some_iff.1 he
    obtain ⟨ke, h1, he⟩ := he
    replace he := Option.bind_eq_some_iff.1 he
    obtain ⟨ee, h2, he⟩ := he
    replace he := Option.bind_eq_some_iff.1 he
    obtain ⟨z, h3, he⟩ := he
    split at he
    · split at he
      · rename_i hko
        have hru := (hC.tab t e h0).run_und w
        rw [hu] at hru
        have hz := litAV_rel (E := E) h3
        have hzr := (hC.tab _ _ h2).run_zero w
        have hf := run_findKey hC h1 (v := vk) (ents := []) (r := none) rfl w
        have hck := keyOk_run hC true 9 10000 (by omega) kt k vk hko hk w
        split at he
        · obtain rfl := Option.some.inj he
          obtain rfl := hm
          refine ⟨if ok = true then .tuple #[ee.zero, .bool false] else ee.zero, ?_, ?_⟩
          · simp [Instr.lookup, hru, hck, hf, hzr]
          · cases ok
            · exact hz
            · exact ⟨[ee.zero, .bool false], rfl, hz, rfl, trivial⟩
        · split at he
          · rename_i i clock hb
            obtain rfl := Option.some.inj he
            obtain ⟨p, hp, rfl⟩ := hm
            obtain ⟨o, ho, ents, rfl, hrel⟩ := hr.blk hb hp
            obtain ⟨l, hperm, hl, _⟩ := hrel
            have hl0 : l = [] := List.length_eq_zero_iff.1 (by simpa using hl.length)
            subst hl0
            have he0 : ents = #[] := by
              have := hperm.length_eq
              rw [Array.length_toList] at this
              exact Array.eq_empty_of_size_eq_zero (by simpa using this.symm)
            subst he0
            have hgm := run_getMap (P := C.P) ho
            refine ⟨if ok = true then .tuple #[ee.zero, .bool false] else ee.zero, ?_, ?_⟩
            · simp [Instr.lookup, hru, hgm, hck, hf, hzr]
            · cases ok
              · exact hz
              · exact ⟨[ee.zero, .bool false], rfl, hz, rfl, trivial⟩
          · cases he
        · cases he
      · cases he
    rename_i hkk
    have hkk' : keyKind ke.und = true := by simpa using hkk
    replace he := Option.bind_eq_some_iff.1 he
    obtain ⟨es, h4, he⟩ := he
    replace he := Option.bind_eq_some_iff.1 he
    obtain ⟨q, h5, he⟩ := he
    have hru := (hC.tab t e h0).run_und w
    rw [hu] at hru
    have hz := litAV_rel (E := E) h3
    have hform : (vm = .map none ∧ es = []) ∨ ∃ b ents clock, vm = .map (some b) ∧ w.heap[b]? = some (.map ents clock) ∧ mpRel E es clock ents := by
      split at h4
      · obtain rfl := Option.some.inj h4
        exact .inl ⟨hm, rfl⟩
      · split at h4
        · rename_i i _ es' clock hb
          obtain rfl := Option.some.inj h4
          obtain ⟨p, hp, rfl⟩ := hm
          obtain ⟨o, ho, ents, rfl, hrel⟩ := hr.blk hb hp
          exact .inr ⟨p.blk, ents, clock, rfl, ho, hrel⟩
        · cases h4
      · cases h4
    have hzr := (hC.tab _ _ h2).run_zero w
    rcases hform with ⟨rfl, rfl⟩ | ⟨b, ents, clock, rfl, ho, hrel⟩
    · obtain rfl : q = [] := by
        unfold evHitsX at h5
        split at h5
        · split at h5
          · exact (Option.some.inj h5).symm
          · cases h5
        · exact (Option.some.inj h5).symm
      obtain rfl := Option.some.inj he
      have hck := run_checkKey hC h1 hkk' true vk w
      have hf := run_findKey hC h1 (v := vk) (ents := []) (r := none) rfl w
      refine ⟨if ok = true then .tuple #[ee.zero, .bool false] else ee.zero, ?_, ?_⟩
      · simp [Instr.lookup, hru, hck, hf, hzr]
      · cases ok
        · exact hz
        · exact ⟨[ee.zero, .bool false], rfl, hz, rfl, trivial⟩
    · obtain ⟨f1, f2⟩ := mp_findX hC hρ hrel hk h5
      have hck := run_checkKey hC h1 hkk' ents.isEmpty vk w
      have hgm := run_getMap (P := C.P) ho
      match q, he, f1, f2 with
      | [], he, f1, f2 =>
        obtain rfl := Option.some.inj he
        have hf := run_findKey hC h1 (f1 rfl) w
        refine ⟨if ok = true then .tuple #[ee.zero, .bool false] else ee.zero, ?_, ?_⟩
        · simp [Instr.lookup, hru, hgm, hck, hf, hzr]
        · cases ok
          · exact hz
          · exact ⟨[ee.zero, .bool false], rfl, hz, rfl, trivial⟩
      | [x], he, f1, f2 =>
        obtain rfl := Option.some.inj he
        obtain ⟨j, f, h6, h7⟩ := f2 x rfl
        have hf := run_findKey hC h1 h6 w
        refine ⟨if ok = true then .tuple #[f.val, .bool true] else f.val, ?_, ?_⟩
        · simp [Instr.lookup, hru, hgm, hck, hf]
        · cases ok
          · exact h7.2.1
          · exact ⟨[f.val, .bool true], rfl, h7.2.1, rfl, trivial⟩
      | _ :: _ :: _, he, _, _ => cases he
  · cases he

/-! An entry that is laid. -/
def insPos (k : AV) : List (AV × AV × Nat) → Nat
  | [] => 0
  | e :: es =>
    match k, e.1 with
    | .s (.int _ a), .s (.int _ b) => if b < a then insPos k es + 1 else 0
    | _, _ => insPos k es + 1
def evMapUpdate (C : Ctx) (h : T Blk) (nx : Nat) (t : TypeId) (m k v : EV) : Option (T Blk × Nat) :=
  (C.tab t).bind fun e =>
    match e.und, m, k, v with
    | .map kt _, .a (.s (.map i)), .a k, .a v => (C.tab kt).bind fun ke =>
      if keyKind ke.und = false then
        if keyOk C 9 kt k = true then
          match h.get i with
          | some (.mp [] clock) => some (h.set i (.mp [(k, v, nx)] (clock + 1)), nx + 1)
          | _ => none
        else none
      else
      match h.get i with
      | some (.mp es clock) => (evHits ke.und k es).bind fun r =>
        match r with
        | [_] => some (h.set i (.mp (es.map fun y => if keySame ke.und k y.1 = some true then (k, v, y.2.2) else y) clock), nx)
        | [] => some (h.set i (.mp (es.take (insPos k es) ++ (k, v, nx) :: es.drop (insPos k es)) (clock + 1)), nx + 1)
        | _ => none
      | _ => none
    | _, _, _, _ => none
/-- A number that stands for a stamp. -/
theorem Goes.name {E : Env} {h : T Blk} {nx : Nat} {w : World} (hr : HRel E h w) (hn : E.m nx = none) (p : Pl) : Goes E h nx w (E.put nx p) h (nx + 1) w := by
  have e : ∀ i b, h.get i = some b → (E.put nx p).m i = E.m i := fun i b hb => by
    obtain ⟨q, _, hq, _⟩ := hr.at_ i b hb
    exact Env.put_ne E p fun h => by subst h; rw [hn] at hq; cases hq
  exact {
    ext := Env.ext_put hn
    out := fun i hi => Env.put_ne E p (by omega)
    le := by omega
    rel := ⟨fun i b hb => by
        obtain ⟨q, o, hq, ho, hb2⟩ := hr.at_ i b hb
        exact ⟨q, o, by rw [e i b hb]; exact hq, ho, Blk.ext (Env.ext_put hn) hb2⟩,
      fun i j b c q r hb hc hq hr2 => by
        rw [e i b hb] at hq
        rw [e j c hc] at hr2
        exact hr.inj i j b c q r hb hc hq hr2⟩
    frame := Frame.refl _ _ _
    ids := fun i b hb => .inl ⟨b, hb⟩
    own := fun i b q hb hq => .inl ⟨i, b, q, hb, by rw [← e i b hb]; exact hq, rfl⟩ }
theorem Rels.map_both {α β : Type} {R S : α → β → Prop} {f : α → α} {g : β → β} (h : ∀ a b, R a b → S (f a) (g b)) : ∀ {as : List α} {bs : List β}, Rels R as bs → Rels S (as.map f) (bs.map g)
  | [], [], _ => trivial
  | a :: as, b :: bs, hr => ⟨h a b hr.1, Rels.map_both h hr.2⟩
  | [], _ :: _, hr => hr.elim
  | _ :: _, [], hr => hr.elim
theorem sameBits_key {E : Env} {u : TypeDesc} {a b : AV} {va vb : Value} (h : keySame u a b = some true) (ha : a.rel E va) (hb : b.rel E vb) : Instr.sameBits 10000 vb va = true ∧ va = vb := by
  unfold keySame at h
  split at h
  · obtain rfl := ha
    obtain rfl := hb
    split at h
    · rename_i hk
      have := Option.some.inj h
      rw [beq_iff_eq] at this
      subst hk
      subst this
      exact ⟨by simp [Instr.sameBits], rfl⟩
    · cases h
  · obtain rfl := ha
    obtain rfl := hb
    have := Option.some.inj h
    rename_i x y
    have e : x.toList = y.toList := by
      rw [beq_toListBytes, beq_iff_eq] at this
      exact this
    have e2 : x = y := by
      rw [ByteArray.toList_eq, ByteArray.toList_eq] at e
      obtain ⟨⟨x⟩⟩ := x
      obtain ⟨⟨y⟩⟩ := y
      simp only at e
      rw [e]
    subst e2
    exact ⟨by unfold Instr.sameBits; rw [beq_toListBytes]; exact beq_self_eq_true _, rfl⟩
  · obtain rfl := ha
    obtain rfl := hb
    have := Option.some.inj h
    rw [beq_iff_eq] at this
    subst this
    exact ⟨by simp [Instr.sameBits], rfl⟩
  · cases h
theorem set_heap (w : World) (b : Nat) (o o' : Obj) (h : w.heap[b]? = some o) : Touch b w { w with heap := w.heap.setIfInBounds b o' } ∧ ({ w with heap := w.heap.setIfInBounds b o' } : World).heap[b]? = some o' :=
  ⟨⟨rfl, rfl, rfl, by simp, fun k hk => by simp [Array.getElem?_setIfInBounds_ne (Ne.symm hk)]⟩, by simp [Array.getElem?_setIfInBounds_self_of_lt (lt_of_heap h)]⟩
theorem run_setMap {P : Program} {w : World} {r : Nat} {ents : Array MapEntry} {clock : Nat} (h : w.heap[r]? = some (.map ents clock)) (o : Obj) : (setObj r o).run P w = .ok () { w with heap := w.heap.setIfInBounds r o } := by
  simp only [setObj, Sem.run, h]
theorem evMapUpdate_run {C : Ctx} (hC : C.Ok) {E : Env} {h : T Blk} {nx : Nat} {w : World} {t : TypeId} {m k v : EV} {vm vk vv : Value} {r : T Blk × Nat} (he : evMapUpdate C h nx t m k v = some r) (hr : HRel E h w) (hm : m.rel E vm) (hk : k.rel E vk) (hv : v.rel E vv) (hfr : Fresh E nx r.2) :
    ∃ w' E', (Instr.mapUpdate t vm vk vv).run C.P w = .ok () w' ∧ Goes E h nx w E' r.1 r.2 w' := by
  unfold evMapUpdate at he
  replace he := Option.bind_eq_some_iff.1 he
  obtain ⟨e, h0, he⟩ := he
  split at he
  · rename_i kt et i k v hu
    replace he := Option.bind_eq_some_iff.1 he
    obtain ⟨ke, h1, he⟩ := he
    split at he
    · split at he
      · rename_i hko
        have hru := (hC.tab t e h0).run_und w
        rw [hu] at hru
        split at he
        · rename_i clock hb
          obtain rfl := Option.some.inj he
          obtain ⟨p, hp, rfl⟩ := hm
          obtain ⟨o, ho, ents, rfl, hrel⟩ := hr.blk hb hp
          obtain ⟨l, hperm, hl, _⟩ := hrel
          have hl0 : l = [] := List.length_eq_zero_iff.1 (by simpa using hl.length)
          subst hl0
          have he0 : ents = #[] := by
            have := hperm.length_eq
            rw [Array.length_toList] at this
            exact Array.eq_empty_of_size_eq_zero (by simpa using this.symm)
          subst he0
          have hgm := run_getMap (P := C.P) ho
          have hf := run_findKey hC h1 (v := vk) (ents := []) (r := none) rfl w
          have hck := keyOk_run hC false 9 10000 (by omega) kt k vk hko hk w
          have hn := fresh1 hfr
          have hg := Goes.name hr hn ⟨0, clock, 0⟩
          obtain ⟨ht, hs⟩ := set_heap w p.blk _ (.map (#[].push { key := vk, val := vv, born := clock }) (clock + 1)) ho
          have hext := Env.ext_put (p := ⟨0, clock, 0⟩) hn
          refine ⟨_, _, ?_, hg.trans (Goes.write hg.rel hb (hext.m _ _ hp) ht hs ⟨_, rfl, [{ key := vk, val := vv, born := clock }], List.Perm.refl _, ⟨⟨AV.ext hext hk, AV.ext hext hv, ⟨0, clock, 0⟩, Env.put_at _ _ _, rfl⟩, trivial⟩, by simp, by simp⟩)⟩
          simp [Instr.mapUpdate, hru, hgm, hck, hf, run_setMap ho]
        · cases he
      · cases he
    rename_i hkk
    have hkk' : keyKind ke.und = true := by simpa using hkk
    have hru := (hC.tab t e h0).run_und w
    rw [hu] at hru
    split at he
    · rename_i es clock hb
      replace he := Option.bind_eq_some_iff.1 he
      obtain ⟨q, h5, he⟩ := he
      obtain ⟨p, hp, rfl⟩ := hm
      obtain ⟨o, ho, ents, rfl, hrel⟩ := hr.blk hb hp
      obtain ⟨f1, f2⟩ := mp_find hrel hk h5 (fun e => { e with key := vk, val := vv })
      have hck := run_checkKey hC h1 hkk' false vk w
      have hgm := run_getMap (P := C.P) ho
      obtain ⟨l, hperm, hl, hnd, hlt⟩ := hrel
      split at he
      · rename_i x
        obtain rfl := Option.some.inj he
        obtain ⟨j, f, hfe, h6, h7, h9, hmod⟩ := f2 x rfl
        have hf := run_findKey hC h1 h6 w
        obtain ⟨hsb, hke⟩ := sameBits_key h9 hk h7.1
        obtain ⟨ht, hs⟩ := set_heap w p.blk _ (.map (ents.modify j fun e => { e with key := vk, val := vv }) clock) ho
        obtain ⟨_, _, _, i4⟩ := evHits_rel hk h5 hl
        refine ⟨_, E, ?_, Goes.write hr hb hp ht hs ⟨_, rfl, l.map (fun y => if hitB ke.und vk y = true then { y with key := vk, val := vv } else y), ?_, ?_, ?_, ?_⟩⟩
        · simp [Instr.mapUpdate, hru, hgm, hck, hf, hfe, Instr.keyThatStays, hsb, run_setMap ho]
        · rw [Array.toList_modify, hmod]
          exact hperm.map _
        · refine Rels.map_both (fun a b hab => ?_) i4
          obtain ⟨hab, hd⟩ := hab
          by_cases hq : keySame ke.und k a.1 = some true
          · rw [if_pos hq, if_pos (by rw [← hd]; exact decide_eq_true hq)]
            exact ⟨hk, hv, hab.2.2⟩
          · rw [if_neg hq, if_neg (by rw [← hd]; simpa using hq)]
            exact hab
        · rw [List.map_map]
          have : (fun y : MapEntry => y.born) ∘ (fun y => if hitB ke.und vk y = true then { y with key := vk, val := vv } else y) = fun y => y.born := by
            funext y
            simp only [Function.comp]
            split <;> rfl
          rw [this]
          exact hnd
        · intro y hy
          obtain ⟨z, hz, rfl⟩ := List.mem_map.1 hy
          have := hlt z hz
          split <;> exact this
      · obtain rfl := Option.some.inj he
        have hf := run_findKey hC h1 (f1 rfl) w
        have hn := fresh1 hfr
        have hg := Goes.name hr hn ⟨0, clock, 0⟩
        obtain ⟨ht, hs⟩ := set_heap w p.blk _ (.map (ents.push { key := vk, val := vv, born := clock }) (clock + 1)) ho
        have hpm : (l.take (insPos k es) ++ ({ key := vk, val := vv, born := clock } : MapEntry) :: l.drop (insPos k es)).Perm ({ key := vk, val := vv, born := clock } :: l) := by
          have := List.perm_middle (a := ({ key := vk, val := vv, born := clock } : MapEntry)) (l₁ := l.take (insPos k es)) (l₂ := l.drop (insPos k es))
          rwa [List.take_append_drop] at this
        have hext := Env.ext_put (p := ⟨0, clock, 0⟩) hn
        have hl' : Rels (entryRel (E.put nx ⟨0, clock, 0⟩)) es l := Rels.imp (fun _ _ => entryRel.ext hext) hl
        refine ⟨_, _, ?_, hg.trans (Goes.write hg.rel hb (hext.m _ _ hp) ht hs ⟨_, rfl, l.take (insPos k es) ++ ({ key := vk, val := vv, born := clock } : MapEntry) :: l.drop (insPos k es), ?_, (hl'.take (insPos k es)).app (bs2 := ({ key := vk, val := vv, born := clock } : MapEntry) :: l.drop (insPos k es)) ⟨⟨AV.ext hext hk, AV.ext hext hv, ⟨0, clock, 0⟩, Env.put_at _ _ _, rfl⟩, hl'.drop (insPos k es)⟩, ?_, ?_⟩)⟩
        · simp [Instr.mapUpdate, hru, hgm, hck, hf, run_setMap ho]
        · rw [Array.toList_push]
          exact hpm.trans ((List.Perm.cons _ hperm).trans (List.perm_append_singleton _ _).symm)
        · refine ((hpm.map _).nodup_iff).2 ?_
          rw [List.map_cons, List.nodup_cons]
          refine ⟨fun h => ?_, hnd⟩
          obtain ⟨z, hz, he⟩ := List.mem_map.1 h
          have := hlt z hz
          simp only at he
          omega
        · intro y hy
          rcases List.mem_cons.1 (hpm.mem_iff.1 hy) with rfl | hy
          · exact Nat.lt_succ_self _
          · exact Nat.lt_succ_of_lt (hlt y hy)
      · cases he
    · cases he
  · cases he

end Go.Proofs.YtoehfadjpficiaaGreat.Ev
