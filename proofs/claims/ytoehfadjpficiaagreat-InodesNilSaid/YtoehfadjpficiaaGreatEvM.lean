/- The evaluator: walks over maps; bytes and strings. -/
import Derived.Test.YtoehfadjpficiaaGreatEv9
import Derived.Laws.BytesString
import Derived.Laws.IdiomRangeMap
namespace Go.Proofs.YtoehfadjpficiaaGreat.Ev
open Go Go.RowKit
set_option linter.unusedVariables false
set_option linter.unusedSimpArgs false

/-! ### Walks over maps: while at most one entry is left there is one order alone -/
def evRange (C : Ctx) (h : T Blk) (nx : Nat) (t : TypeId) (x : EV) : Option Res :=
  (C.tab t).bind fun e =>
    match e.und, x with
    | .map _ _, .a (.s .nilm) => some (.a (.s (.ptr nx 0)), h.set nx (.it none 0 [] 0), nx + 1)
    | .map _ _, .a (.s (.map i)) =>
      match h.get i with
      | some (.mp _ clock) => some (.a (.s (.ptr nx 0)), h.set nx (.it (some i) clock [] clock), nx + 1)
      | _ => none
    | _, _ => none
theorem evRange_run {C : Ctx} (hC : C.Ok) {E : Env} {h : T Blk} {nx : Nat} {w : World} {t : TypeId} {x : EV} {v : Value} {r : Res} (he : evRange C h nx t x = some r) (hx : x.rel E v) : Runs C E h nx w (Instr.range t v) r := by
  intro hr hρ hf
  unfold evRange at he
  replace he := Option.bind_eq_some_iff.1 he
  obtain ⟨e, h0, he⟩ := he
  split at he
  · rename_i hu
    obtain rfl := Option.some.inj he
    have hund := (hC.tab t e h0).und
    rw [hu] at hund
    obtain rfl := hx
    exact ⟨_, _, _, run_range_nilMap w t _ _ hund, Goes.new (o := .mapIter none 0 #[] 0) hr (fresh1 hf) ⟨w.heap.size, 0, 0⟩ rfl ⟨rfl, none, rfl, rfl⟩, _, Env.put_at _ _ _, rfl⟩
  · rename_i i hu
    have hund := (hC.tab t e h0).und
    rw [hu] at hund
    split at he
    · rename_i es clock hb
      obtain rfl := Option.some.inj he
      obtain ⟨p, hp, rfl⟩ := hx
      obtain ⟨o, ho, ents, rfl, hrel⟩ := hr.blk hb hp
      have hn := fresh1 hf
      exact ⟨_, _, _, run_range_map w t _ _ p.blk ents clock hund ho, Goes.new (o := .mapIter (some p.blk) clock #[] clock) hr hn ⟨w.heap.size, 0, 0⟩ rfl ⟨rfl, _, rfl, p, (Env.ext_put hn).m _ _ hp, rfl⟩, _, Env.put_at _ _ _, rfl⟩
    · cases he
  · cases he

def evNext (h : T Blk) : EV → Option (EV × T Blk)
  | .a (.s (.ptr i 0)) =>
    match h.get i with
    | some (.it none _ _ _) => some (.tup [.s (.bool false)], h)
    | some (.it (some m) since seen last) =>
      match h.get m with
      | some (.mp es clock) =>
        if (!seen.isEmpty && !es.isEmpty && es.all fun e => decide (last ≤ e.2.2)) = true then none else
        if (es.any fun e => !seen.contains e.2.2 && decide (since ≤ e.2.2)) = true then none else
        match es.filter fun e => !seen.contains e.2.2 with
        | [] => some (.tup [.s (.bool false)], h)
        | [e] => some (.tup [.s (.bool true), e.1, e.2.1], h.set i (.it (some m) since (seen ++ [e.2.2]) clock))
        | _ => none
      | _ => none
    | _ => none
  | _ => none
theorem Rels.filter {α β : Type} {R : α → β → Prop} {f : α → Bool} {g : β → Bool} (hfg : ∀ a b, R a b → f a = g b) : ∀ {as : List α} {bs : List β}, Rels R as bs → Rels R (as.filter f) (bs.filter g)
  | [], [], _ => trivial
  | a :: as, b :: bs, h => by
    have e := hfg a b h.1
    rw [List.filter_cons, List.filter_cons, ← e]
    cases f a with
    | true => exact ⟨h.1, Rels.filter hfg h.2⟩
    | false => exact Rels.filter hfg h.2
  | [], _ :: _, h => h.elim
  | _ :: _, [], h => h.elim
theorem Rels.all_eq {α β : Type} {R : α → β → Prop} {f : α → Bool} {g : β → Bool} (hfg : ∀ a b, R a b → f a = g b) : ∀ {as : List α} {bs : List β}, Rels R as bs → as.all f = bs.all g
  | [], [], _ => rfl
  | a :: as, b :: bs, h => by rw [List.all_cons, List.all_cons, hfg a b h.1, Rels.all_eq hfg h.2]
  | [], _ :: _, h => h.elim
  | _ :: _, [], h => h.elim
theorem Rels.any_eq {α β : Type} {R : α → β → Prop} {f : α → Bool} {g : β → Bool} (hfg : ∀ a b, R a b → f a = g b) : ∀ {as : List α} {bs : List β}, Rels R as bs → as.any f = bs.any g
  | [], [], _ => rfl
  | a :: as, b :: bs, h => by rw [List.any_cons, List.any_cons, hfg a b h.1, Rels.any_eq hfg h.2]
  | [], _ :: _, h => h.elim
  | _ :: _, [], h => h.elim
theorem run_getIter {P : Program} {w : World} {r : Nat} {m : Option Nat} {since : Nat} {seen : Array Nat} {last : Nat} (h : w.heap[r]? = some (.mapIter m since seen last)) : (getObj r).run P w = .ok (.mapIter m since seen last) w := by
  simp only [getObj, Sem.run, h]
theorem run_setIter {P : Program} {w : World} {r : Nat} {m : Option Nat} {since : Nat} {seen : Array Nat} {last : Nat} (h : w.heap[r]? = some (.mapIter m since seen last)) (o : Obj) : (setObj r o).run P w = .ok () { w with heap := w.heap.setIfInBounds r o } := by
  simp only [setObj, Sem.run, h]
theorem evNext_run {C : Ctx} {E : Env} {h h' : T Blk} {nx : Nat} {w : World} {x r : EV} {v : Value} {ty : TypeId} (he : evNext h x = some (r, h')) (hr : HRel E h w) (hx : x.rel E v) :
    ∃ v' w', (Instr.next v false ty).run C.P w = .ok v' w' ∧ Goes E h nx w E h' nx w' ∧ r.rel E v' := by
  unfold evNext at he
  split at he
  · rename_i i
    obtain ⟨p, hp, rfl⟩ := hx
    split at he
    · rename_i since seen last hb
      obtain ⟨rfl, rfl⟩ := Prod.mk.inj (Option.some.inj he)
      obtain ⟨o, ho, hd, mb, rfl, hm⟩ := hr.blk hb hp
      obtain rfl := hm
      have hgi := run_getIter (P := C.P) ho
      exact ⟨.tuple #[.bool false], w, by simp [Instr.next, hd, hgi], Goes.refl hr, [.bool false], rfl, rfl, trivial⟩
    · rename_i m since seen last hb
      obtain ⟨o, ho, hd, mb, rfl, q, hq, rfl⟩ := hr.blk hb hp
      have hgi := run_getIter (P := C.P) ho
      split at he
      · rename_i es clock hmb
        obtain ⟨o2, ho2, ents, rfl, hrel⟩ := hr.blk hmb hq
        have hgm := run_getMap (P := C.P) ho2
        split at he
        · cases he
        rename_i ht1
        split at he
        · cases he
        rename_i ht2
        obtain ⟨ents⟩ := ents
        have hrel' : Rels (entryRel E) es ents := hrel
        have hlen := hrel'.length
        have t1 : (!seen.toArray.isEmpty && !(Array.mk ents).isEmpty && (Array.mk ents).all fun x => decide (x.born ≥ last)) = false := by
          have e1 : es.all (fun e => decide (last ≤ e.2.2)) = ents.all (fun x => decide (x.born ≥ last)) := Rels.all_eq (fun a b hab => by rw [hab.2.2]) hrel'
          have e2 : es.isEmpty = ents.isEmpty := by
            cases es <;> cases ents <;> first | rfl | (simp at hlen)
          rw [e1, e2] at ht1
          simpa using ht1
        have hleft : Rels (entryRel E) (es.filter fun e => !seen.contains e.2.2) (ents.filter fun e => !seen.contains e.born) := Rels.filter (fun a b hab => by rw [hab.2.2]) hrel'
        have hold : ∀ x ∈ ents.filter (fun e => !seen.contains e.born), x.born < since := fun x hx => by
          have e3 : (es.any fun e => !seen.contains e.2.2 && decide (since ≤ e.2.2)) = ents.any (fun e => !seen.contains e.born && decide (since ≤ e.born)) := Rels.any_eq (fun a b hab => by rw [hab.2.2]) hrel'
          rw [e3] at ht2
          rcases Nat.lt_or_ge x.born since with h | h
          · exact h
          · exfalso
            apply ht2
            rw [List.any_eq_true]
            have hx2 := List.mem_filter.1 hx
            exact ⟨x, hx2.1, by rw [hx2.2]; simpa using h⟩
        generalize hL : ents.filter (fun e => !seen.contains e.born) = L at hleft hold
        have f1 : L.filter (fun x => decide (x.born < since)) = L := List.filter_eq_self.2 fun x hx => by simpa using hold x hx
        have f2 : L.filter (fun x => decide (x.born ≥ since)) = [] := List.filter_eq_nil_iff.2 fun x hx => by
          have := hold x hx
          simp
          omega
        have key : (Instr.next (.pointer (some ⟨p.blk, p.dl + 0, none⟩)) false ty).run C.P w = (match L with
            | [] => .ok (.tuple #[.bool false]) w
            | [e] => .ok (.tuple #[.bool true, e.key, e.val]) { w with heap := w.heap.setIfInBounds p.blk (.mapIter (some q.blk) since (seen.toArray.push e.born) clock) }
            | _ => (Instr.next (.pointer (some ⟨p.blk, p.dl + 0, none⟩)) false ty).run C.P w) := by
          match L, hL, f1, f2 with
          | [], hL, f1, f2 =>
            have hL' : (Array.mk ents).filter (fun e => !seen.contains e.born) = #[] := by
              rw [← Array.toList_inj]
              simpa using hL
            simp only [Instr.next, hd, Sem.run_bind, hgi, hgm, Result.andThen_ok, t1, Bool.false_eq_true, if_false, List.contains_toArray, hL', Nat.add_zero]
            simp [choose, Sem.run, Question.forced]
          | [e], hL, f1, f2 =>
            have hL' : (Array.mk ents).filter (fun e => !seen.contains e.born) = #[e] := by
              rw [← Array.toList_inj]
              simpa using hL
            have hlt : e.born < since := by
              have : e ∈ ([e] : List MapEntry).filter (fun x => decide (x.born < since)) := by rw [f1]; simp
              simpa using (List.mem_filter.1 this).2
            simp only [Instr.next, hd, Sem.run_bind, hgi, hgm, Result.andThen_ok, t1, Bool.false_eq_true, if_false, List.contains_toArray, hL', Nat.add_zero]
            have hge : ¬ (since ≤ e.born) := by omega
            simp [choose, Sem.run, Question.forced, hlt, hge, run_setIter ho]
          | _ :: _ :: _, hL, f1, f2 => rfl
        generalize es.filter (fun e => !seen.contains e.2.2) = M at he hleft
        match M, L, hleft, key, he with
        | [], [], _, key, he =>
          obtain ⟨rfl, rfl⟩ := Prod.mk.inj (Option.some.inj he)
          exact ⟨_, w, key, Goes.refl hr, [.bool false], rfl, rfl, trivial⟩
        | [x], [e], hleft, key, he =>
          obtain ⟨rfl, rfl⟩ := Prod.mk.inj (Option.some.inj he)
          obtain ⟨k1, k2, k3⟩ := hleft.1
          obtain ⟨ht, hs⟩ := set_heap w p.blk _ (.mapIter (some q.blk) since (seen.toArray.push e.born) clock) ho
          refine ⟨_, _, key, Goes.write hr hb hp ht hs ⟨hd, _, ?_, q, hq, rfl⟩, [.bool true, e.key, e.val], rfl, rfl, k1, k2, trivial⟩
          rw [k3]
          simp
        | _ :: _ :: _, _, hleft, key, he => cases he
        | [], _ :: _, hleft, _, _ => exact hleft.elim
        | [_], [], hleft, _, _ => exact hleft.elim
        | [_], _ :: _ :: _, hleft, _, _ => exact hleft.2.elim
      · cases he
    · cases he
  · cases he

def evEntry (h : T Blk) : EV → Option EV
  | .a (.s (.ptr i 0)) =>
    match h.get i with
    | some (.it (some m) since seen last) =>
      match h.get m, seen.getLast? with
      | some (.mp es clock), some stamp => if clock = last then (es.find? fun e => e.2.2 == stamp).map fun e => .tup [e.1, e.2.1] else none
      | _, _ => none
    | _ => none
  | _ => none
theorem Rels.find {α β : Type} {R : α → β → Prop} {f : α → Bool} {g : β → Bool} (hfg : ∀ a b, R a b → f a = g b) : ∀ {as : List α} {bs : List β} {a : α}, Rels R as bs → as.find? f = some a → ∃ b, bs.find? g = some b ∧ R a b
  | [], [], _, _, he => by cases he
  | x :: as, y :: bs, a, h, he => by
    rw [List.find?_cons] at he
    have e := hfg x y h.1
    rw [List.find?_cons, ← e]
    cases hq : f x with
    | true =>
      rw [hq] at he
      obtain rfl := Option.some.inj he
      exact ⟨y, rfl, h.1⟩
    | false =>
      rw [hq] at he
      exact Rels.find hfg h.2 he
  | [], _ :: _, _, h, _ => h.elim
  | _ :: _, [], _, h, _ => h.elim
theorem evEntry_run {C : Ctx} {E : Env} {h : T Blk} {w : World} {x r : EV} {v : Value} (he : evEntry h x = some r) (hr : HRel E h w) (hx : x.rel E v) : Reads C E w (Instr.entry v) r := by
  unfold evEntry at he
  split at he
  · rename_i i
    obtain ⟨p, hp, rfl⟩ := hx
    split at he
    · rename_i m since seen last hb
      obtain ⟨o, ho, hd, mb, rfl, q, hq, rfl⟩ := hr.blk hb hp
      have hgi := run_getIter (P := C.P) ho
      split at he
      · rename_i es clock stamp hmb hst
        obtain ⟨o2, ho2, ents, rfl, hrel⟩ := hr.blk hmb hq
        have hgm := run_getMap (P := C.P) ho2
        split at he
        · rename_i hcl
          subst hcl
          obtain ⟨y, hy, rfl⟩ := Option.map_eq_some_iff.1 he
          obtain ⟨e, h1, h2, h3, h4⟩ := Rels.find (g := fun x : MapEntry => x.born == stamp) (fun a b hab => by rw [hab.2.2]) hrel hy
          rw [Array.find?_toList] at h1
          refine ⟨.tuple #[e.key, e.val], ?_, [e.key, e.val], rfl, h2, h3, trivial⟩
          have hst' : seen.toArray.back? = some stamp := by rw [List.back?_toArray]; exact hst
          simp [Instr.entry, hd, hgi, hgm, hst', h1]
        · cases he
      · cases he
    · cases he
  · cases he

/-! ### Bytes into a string -/
def bytesOf : List SV → Option (List Int)
  | [] => some []
  | .int .u8 n :: l => (bytesOf l).map fun ns => n :: ns
  | _ :: _ => none
theorem bytesOf_rel {E : Env} : ∀ {l : List SV} {ns : List Int} {vs : List Value}, bytesOf l = some ns → Rels (SV.rel E) l vs → vs = ns.map (Value.int .u8)
  | [], ns, [], h, _ => by
    obtain rfl := Option.some.inj h
    rfl
  | x :: l, ns, v :: vs, h, hr => by
    unfold bytesOf at h
    split at h
    · rename_i he
      cases he
    · rename_i n l' he
      obtain ⟨rfl, rfl⟩ := List.cons.inj he
      obtain ⟨ms, h1, rfl⟩ := Option.map_eq_some_iff.1 h
      rw [List.map_cons, bytesOf_rel h1 hr.2]
      have : v = .int .u8 n := hr.1
      rw [this]
    · cases h
  | [], _, _ :: _, _, hr => hr.elim
  | _ :: _, _, [], _, hr => hr.elim
def evConv (C : Ctx) (h : T Blk) (s d : TypeId) : EV → Option EV
  | .a (.s (.sl i o l _ _)) => (C.tab s).bind fun es => (C.tab d).bind fun ed =>
    match es.und, ed.und with
    | .slice e, .string => (C.tab e).bind fun ee =>
      match ee.und, h.get i with
      | .int .u8, some (.cells _ _ c _) => if o + l ≤ c.n then (bytesOf (c.list o l)).map fun ns => .a (.s (.str (ns.foldl (fun r n => r.push (UInt8.ofNat n.toNat)) ByteArray.empty))) else none
      | _, _ => none
    | _, _ => none
  | x => evConvInt C s d x
theorem evConv_run {C : Ctx} (hC : C.Ok) {E : Env} {h : T Blk} {w : World} {s d : TypeId} {x r : EV} {v : Value} (he : evConv C h s d x = some r) (hr : HRel E h w) (hx : x.rel E v) : Reads C E w (convert s d v) r := by
  unfold evConv at he
  split at he
  · rename_i i o l cap k
    replace he := Option.bind_eq_some_iff.1 he
    obtain ⟨es, h1, he⟩ := he
    replace he := Option.bind_eq_some_iff.1 he
    obtain ⟨ed, h2, he⟩ := he
    split at he
    · rename_i e hu1 hu2
      replace he := Option.bind_eq_some_iff.1 he
      obtain ⟨ee, h3, he⟩ := he
      split at he
      · rename_i t opn c fz hu3 hb
        split at he
        · rename_i hle
          obtain ⟨ns, hn, rfl⟩ := Option.map_eq_some_iff.1 he
          have u1 := (hC.tab _ _ h1).und
          have u2 := (hC.tab _ _ h2).und
          have u3 := (hC.tab _ _ h3).und
          rw [hu1] at u1
          rw [hu2] at u2
          rw [hu3] at u3
          obtain ⟨p, cp, hp, rfl⟩ : ∃ p cp, E.m i = some p ∧ v = .slice (some ⟨p.blk, p.dl + o, none⟩) l cp := by
            cases cap with
            | none => obtain ⟨p, hp, _, rfl⟩ := hx; exact ⟨p, _, hp, rfl⟩
            | some c => obtain ⟨p, hp, _, rfl⟩ := hx; exact ⟨p, _, hp, rfl⟩
          obtain ⟨vs, v1, v2, v3⟩ := HRel.run_load (P := C.P) hr hb hp o l hle
          obtain rfl := bytesOf_rel hn v2
          exact ⟨_, by rw [run_convert_bytes_string w s d _ _ l cp u1 u3 u2, run_bytesToString w _ l cp ns v3], rfl⟩
        · cases he
      · cases he
    · cases he
  · exact evConvInt_run hC he hx

end Go.Proofs.YtoehfadjpficiaaGreat.Ev
