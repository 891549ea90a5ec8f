/- The evaluator: walks over maps; bytes and strings. -/
import Derived.Test.YtoehfadjpficiaaGreatEv9
import Derived.Laws.BytesString
import Derived.Laws.IdiomRangeMap
namespace Go.Proofs.YtoehfadjpficiaaGreat.Ev
open Go Go.RowKit
set_option linter.unusedVariables false
set_option linter.unusedSimpArgs false

/-! ### Walks over maps, in whatever order -/
def evRange (C : Ctx) (h : T Blk) (nx : Nat) (t : TypeId) (x : EV) : Option Res :=
  (C.tab t).bind fun e =>
    match e.und, x with
    | .map _ _, .a (.s .nilm) => some (.a (.s (.ptr nx 0)), h.set nx (.it none 0 [] 0), nx + 1)
    | .map _ _, .a (.s (.map i)) =>
      match h.get i with
      | some (.mp _ clock) => some (.a (.s (.ptr nx 0)), h.set nx (.it (some i) clock [] clock), nx + 1)
      | _ => none
    | _, _ => none
theorem evRange_run {C : Ctx} (hC : C.Ok) {E : Env} {h : T Blk} {nx : Nat} {w : World} {t : TypeId} {x : EV} {v : Value} {r : Res} (he : evRange C h nx t x = some r) (hx : x.rel E v) : Runs C E h nx w (Instr.range t v) r := by
  intro hr hρ hf
  unfold evRange at he
  replace he := Option.bind_eq_some_iff.1 he
  obtain ⟨e, h0, he⟩ := he
  split at he
  · rename_i hu
    obtain rfl := Option.some.inj he
    have hund := (hC.tab t e h0).und
    rw [hu] at hund
    obtain rfl := hx
    exact ⟨_, _, _, run_range_nilMap w t _ _ hund, Goes.new (o := .mapIter none 0 #[] 0) hr (fresh1 hf) ⟨w.heap.size, 0, 0⟩ rfl ⟨rfl, none, #[], rfl, rfl, trivial⟩, _, Env.put_at _ _ _, rfl⟩
  · rename_i i hu
    have hund := (hC.tab t e h0).und
    rw [hu] at hund
    split at he
    · rename_i es clock hb
      obtain rfl := Option.some.inj he
      obtain ⟨p, hp, rfl⟩ := hx
      obtain ⟨o, ho, ents, rfl, hrel⟩ := hr.blk hb hp
      have hn := fresh1 hf
      exact ⟨_, _, _, run_range_map w t _ _ p.blk ents clock hund ho, Goes.new (o := .mapIter (some p.blk) clock #[] clock) hr hn ⟨w.heap.size, 0, 0⟩ rfl ⟨rfl, _, #[], rfl, ⟨p, (Env.ext_put hn).m _ _ hp, rfl⟩, trivial⟩, _, Env.put_at _ _ _, rfl⟩
    · cases he
  · cases he

/-- What may come out: the end, or any entry that is left. -/
def evNext (h : T Blk) : EV → Option (List (EV × T Blk))
  | .a (.s (.ptr i 0)) =>
    match h.get i with
    | some (.it none _ _ _) => some [(.tup [.s (.bool false)], h)]
    | some (.it (some m) since seen last) =>
      match h.get m with
      | some (.mp es clock) =>
        if (decide (clock = since) && decide (clock = last) && seen.all fun i => es.any fun e => decide (e.2.2 = i)) = true then
          match es.filter fun e => !seen.contains e.2.2 with
          | [] => some [(.tup [.s (.bool false)], h)]
          | l => some (l.map fun e => (.tup [.s (.bool true), e.1, e.2.1], h.set i (.it (some m) since (seen ++ [e.2.2]) clock)))
        else none
      | _ => none
    | _ => none
  | _ => none
theorem Rels.filter {α β : Type} {R : α → β → Prop} {f : α → Bool} {g : β → Bool} : ∀ {as : List α} {bs : List β}, Rels R as bs → (∀ (n : Nat) a b, as[n]? = some a → bs[n]? = some b → R a b → f a = g b) → Rels R (as.filter f) (bs.filter g)
  | [], [], _, _ => trivial
  | a :: as, b :: bs, h, hfg => by
    have e := hfg 0 a b rfl rfl h.1
    have ih := Rels.filter h.2 fun n x y hx hy => hfg (n + 1) x y (by simpa using hx) (by simpa using hy)
    rw [List.filter_cons, List.filter_cons, ← e]
    cases f a with
    | true => exact ⟨h.1, ih⟩
    | false => exact ih
  | [], _ :: _, h, _ => h.elim
  | _ :: _, [], h, _ => h.elim
theorem Rels.get' {α β : Type} {R : α → β → Prop} : ∀ {as : List α} {bs : List β}, Rels R as bs → ∀ (i : Nat) (b : β), bs[i]? = some b → ∃ a, as[i]? = some a ∧ R a b
  | [], [], _, i, b, h => by simp at h
  | a :: as, b :: bs, hr, 0, x, h => by simp at h; subst h; exact ⟨a, rfl, hr.1⟩
  | a :: as, b :: bs, hr, i + 1, x, h => by
    obtain ⟨y, h1, h2⟩ := Rels.get' hr.2 i x (by simpa using h)
    exact ⟨y, by simpa using h1, h2⟩
  | [], _ :: _, hr, _, _, _ => hr.elim
  | _ :: _, [], hr, _, _, _ => hr.elim
theorem run_getIter {P : Program} {w : World} {r : Nat} {m : Option Nat} {since : Nat} {seen : Array Nat} {last : Nat} (h : w.heap[r]? = some (.mapIter m since seen last)) : (getObj r).run P w = .ok (.mapIter m since seen last) w := by
  simp only [getObj, Sem.run, h]
theorem run_setIter {P : Program} {w : World} {r : Nat} {m : Option Nat} {since : Nat} {seen : Array Nat} {last : Nat} (h : w.heap[r]? = some (.mapIter m since seen last)) (o : Obj) : (setObj r o).run P w = .ok () { w with heap := w.heap.setIfInBounds r o } := by
  simp only [setObj, Sem.run, h]
/-- Has an entry been handed out? The numbers say it as the stamps do. -/
theorem seen_eq {E : Env} {es : List (AV × AV × Nat)} {l : List MapEntry} {seen : List Nat} {st : List Nat} (hl : Rels (entryRel E) es l) (hn : (l.map (·.born)).Nodup) (hs : Rels (stampRel E) seen st) (hall : ∀ i ∈ seen, ∃ e ∈ es, e.2.2 = i) (n : Nat) (a : AV × AV × Nat) (b : MapEntry) (ha : es[n]? = some a) (hb : l[n]? = some b) (hab : entryRel E a b) :
    (!seen.contains a.2.2) = (!st.contains b.born) := by
  congr 1
  obtain ⟨p, hp, hbp⟩ := hab.2.2
  rw [Bool.eq_iff_iff, List.contains_iff_mem, List.contains_iff_mem]
  constructor
  · intro h
    obtain ⟨i, hi⟩ := List.mem_iff_getElem?.1 h
    obtain ⟨s, h1, q, hq, h2⟩ := hs.get i _ hi
    rw [hp] at hq
    obtain rfl := Option.some.inj hq
    rw [hbp, ← h2]
    exact List.mem_of_getElem? h1
  · intro h
    obtain ⟨i, hi⟩ := List.mem_iff_getElem?.1 h
    obtain ⟨j, h1, q, hq, h2⟩ := hs.get' i _ hi
    obtain ⟨e, he, hej⟩ := hall j (List.mem_of_getElem? h1)
    obtain ⟨k, hk⟩ := List.mem_iff_getElem?.1 he
    obtain ⟨f, hf, hef⟩ := hl.get k e hk
    obtain ⟨q2, hq2, hb2⟩ := hef.2.2
    rw [hej, hq] at hq2
    obtain rfl := Option.some.inj hq2
    have e1 : (l.map (·.born))[n]? = some b.born := by rw [List.getElem?_map, hb]; rfl
    have e2 : (l.map (·.born))[k]? = some f.born := by rw [List.getElem?_map, hf]; rfl
    have hnk : n = k := (List.getElem?_inj (List.getElem?_eq_some_iff.1 e1).1 hn).1 (by rw [e1, e2, hb2, ← h2])
    subst hnk
    rw [ha] at hk
    obtain rfl := Option.some.inj hk
    rw [hej]
    exact List.mem_of_getElem? h1
theorem evNext_run {C : Ctx} {E : Env} {h : T Blk} {nx : Nat} {w : World} {x : EV} {v : Value} {ty : TypeId} {rs : List (EV × T Blk)} (he : evNext h x = some rs) (hr : HRel E h w) (hx : x.rel E v) :
    ∃ r ∈ rs, ∃ v' w', (Instr.next v false ty).run C.P w = .ok v' w' ∧ Goes E h nx w E r.2 nx w' ∧ r.1.rel E v' := by
  unfold evNext at he
  split at he
  · rename_i i
    obtain ⟨p, hp, rfl⟩ := hx
    split at he
    · rename_i since seen last hb
      obtain rfl := Option.some.inj he
      obtain ⟨o, ho, hd, mb, st, rfl, hm, _⟩ := hr.blk hb hp
      obtain rfl := hm
      have hgi := run_getIter (P := C.P) ho
      exact ⟨_, List.mem_singleton.2 rfl, .tuple #[.bool false], w, by simp [Instr.next, hd, hgi], Goes.refl hr, [.bool false], rfl, rfl, trivial⟩
    · rename_i m since seen last hb
      obtain ⟨o, ho, hd, mb, st, rfl, ⟨q, hq, rfl⟩, hst⟩ := hr.blk hb hp
      have hgi := run_getIter (P := C.P) ho
      split at he
      · rename_i es clock hmb
        obtain ⟨o2, ho2, ents, rfl, l, hperm, hl, hnd, hlt⟩ := hr.blk hmb hq
        have hgm := run_getMap (P := C.P) ho2
        split at he
        · rename_i hchk
          simp only [Bool.and_eq_true, decide_eq_true_eq, List.all_eq_true, List.any_eq_true] at hchk
          obtain ⟨⟨rfl, rfl⟩, hall⟩ := hchk
          have t1 : (!st.isEmpty && !ents.isEmpty && ents.all fun x => decide (x.born ≥ clock)) = false := by
            cases hemp : ents.isEmpty with
            | true => simp
            | false =>
              have h0 : 0 < ents.size := by
                rcases Nat.eq_zero_or_pos ents.size with h0 | h0
                · simp [Array.isEmpty, h0] at hemp
                · exact h0
              have hm0 : ents[0] ∈ ents := Array.getElem_mem h0
              have hlt0 := hlt ents[0] (hperm.mem_iff.2 (by simp))
              have : (ents.all fun x => decide (x.born ≥ clock)) = false := by
                rw [Bool.eq_false_iff]
                intro hh
                rw [Array.all_eq_true_iff_forall_mem] at hh
                have := hh _ hm0
                simp only [ge_iff_le, decide_eq_true_eq] at this
                omega
              rw [this]
              simp
          have hleft : Rels (entryRel E) (es.filter fun e => !seen.contains e.2.2) (l.filter fun e => !st.toList.contains e.born) := Rels.filter hl fun n a b ha hb hab => seen_eq hl hnd hst hall n a b ha hb hab
          have hpl := hperm.filter (fun e => !st.toList.contains e.born)
          have hA : (ents.filter fun e => !st.contains e.born).toList = ents.toList.filter fun e => !st.toList.contains e.born := by simp
          generalize hL : ents.filter (fun e => !st.contains e.born) = L at hA
          rw [← hA] at hpl
          have hold : ∀ x ∈ L.toList, x.born < clock := fun x hx => hlt x (List.mem_filter.1 (hpl.mem_iff.2 hx)).1
          have e1 : L.filter (fun x => decide (x.born < clock)) = L := Array.filter_eq_self.2 (fun x hx => by simpa using hold x (by simpa using hx))
          have e2 : L.filter (fun x => decide (x.born ≥ clock)) = #[] := by
            rw [Array.filter_eq_empty_iff]
            intro x hx
            have := hold x (by simpa using hx)
            simp
            omega
          have hform : (L.size = 0 ∧ (Instr.next (.pointer (some ⟨p.blk, p.dl + 0, none⟩)) false ty).run C.P w = .ok (.tuple #[.bool false]) w) ∨
              ∃ e ∈ L.toList, ∃ w1 : World, w1.heap = w.heap ∧ w1.os = w.os ∧ w1.tape = w.tape ∧ w1.output = w.output ∧ (Instr.next (.pointer (some ⟨p.blk, p.dl + 0, none⟩)) false ty).run C.P w = .ok (.tuple #[.bool true, e.key, e.val]) { w1 with heap := w1.heap.setIfInBounds p.blk (.mapIter (some q.blk) clock (st.push e.born) clock) } := by
            by_cases h0 : L.size = 0
            · left
              have hLe : L = #[] := Array.eq_empty_of_size_eq_zero h0
              refine ⟨h0, ?_⟩
              simp only [Instr.next, hd, Sem.run_bind, hgi, hgm, Result.andThen_ok, t1, Bool.false_eq_true, if_false, hL, e1, e2, Array.append_empty, hLe, Nat.add_zero]
              simp [choose, Sem.run, Question.forced]
            · right
              have hne : L.isEmpty = false := by simp [Array.isEmpty, h0]
              have hch : ∃ (j : Nat) (w1 : World), j < L.size ∧ w1.heap = w.heap ∧ w1.os = w.os ∧ w1.tape = w.tape ∧ w1.output = w.output ∧ (choose (Question.mapNext L.size)).run C.P w = .ok j w1 := by
                by_cases hf : L.size ≤ 1
                · exact ⟨0, w, by omega, rfl, rfl, rfl, rfl, by simp [choose, Sem.run, Question.forced, hf]⟩
                · exact ⟨_, w.drew, Nat.mod_lt _ (by omega), rfl, rfl, rfl, rfl, by
                    simp only [choose, Sem.run, Question.forced, decide_eq_true_eq, hf, if_false, Question.cut]
                    rfl⟩
              obtain ⟨j, w1, hj, w11, w12, w13, w14, hrun⟩ := hch
              refine ⟨L[j], by simp, w1, w11, w12, w13, w14, ?_⟩
              have ho1 : w1.heap[p.blk]? = some (.mapIter (some q.blk) clock st clock) := by rw [w11]; exact ho
              have hset := fun o' => run_setIter (P := C.P) ho1 o'
              simp only [Instr.next, hd, Sem.run_bind, hgi, hgm, Result.andThen_ok, t1, Bool.false_eq_true, if_false, hL, e1, e2, Array.append_empty, Nat.add_zero, hne, Array.empty_append, Array.size_map, hrun, Array.getElem?_map, Array.getElem?_eq_getElem hj, Option.map_some, hset]
              rfl
          rcases hform with ⟨h0, hrun⟩ | ⟨e, hem, w1, w11, w12, w13, w14, hrun⟩
          · have hlen := hleft.length
            rw [← hpl.length_eq.symm, Array.length_toList, h0] at hlen
            have hnil : (es.filter fun e => !seen.contains e.2.2) = [] := List.eq_nil_of_length_eq_zero hlen.symm
            rw [hnil] at he
            obtain rfl := Option.some.inj he
            exact ⟨_, List.mem_singleton.2 rfl, _, w, hrun, Goes.refl hr, [.bool false], rfl, rfl, trivial⟩
          · obtain ⟨n, hn⟩ := List.mem_iff_getElem?.1 (hpl.mem_iff.2 hem)
            obtain ⟨x, hx, k1, k2, k3⟩ := hleft.get' n e hn
            have hrs : rs = (es.filter fun e => !seen.contains e.2.2).map fun e => (.tup [.s (.bool true), e.1, e.2.1], h.set i (.it (some m) clock (seen ++ [e.2.2]) clock)) := by
              split at he
              · rename_i hnil
                rw [hnil] at hx
                simp at hx
              · exact (Option.some.inj he).symm
            have hg1 : Goes E h nx w E h nx w1 := Goes.draw hr w11 w12 w13 w14
            have ho1 : w1.heap[p.blk]? = some (.mapIter (some q.blk) clock st clock) := by rw [w11]; exact ho
            obtain ⟨ht, hs⟩ := set_heap w1 p.blk _ (.mapIter (some q.blk) clock (st.push e.born) clock) ho1
            refine ⟨(.tup [.s (.bool true), x.1, x.2.1], h.set i (.it (some m) clock (seen ++ [x.2.2]) clock)), by rw [hrs]; exact List.mem_map.2 ⟨x, List.mem_of_getElem? hx, rfl⟩, _, _, hrun, hg1.trans (Goes.write hg1.rel hb hp ht hs ⟨hd, _, _, rfl, ⟨q, hq, rfl⟩, ?_⟩), [.bool true, e.key, e.val], rfl, rfl, k1, k2, trivial⟩
            rw [Array.toList_push]
            exact hst.app ⟨k3, trivial⟩
        · cases he
      · cases he
    · cases he
  · cases he

def evEntry (h : T Blk) : EV → Option EV
  | .a (.s (.ptr i 0)) =>
    match h.get i with
    | some (.it (some m) since seen last) =>
      match h.get m, seen.getLast? with
      | some (.mp es clock), some stamp => if clock = last then (es.find? fun e => decide (e.2.2 = stamp)).map fun e => .tup [e.1, e.2.1] else none
      | _, _ => none
    | _ => none
  | _ => none
theorem evEntry_run {C : Ctx} {E : Env} {h : T Blk} {w : World} {x r : EV} {v : Value} (he : evEntry h x = some r) (hr : HRel E h w) (hx : x.rel E v) : Reads C E w (Instr.entry v) r := by
  unfold evEntry at he
  split at he
  · rename_i i
    obtain ⟨p, hp, rfl⟩ := hx
    split at he
    · rename_i m since seen last hb
      obtain ⟨o, ho, hd, mb, st, rfl, ⟨q, hq, rfl⟩, hst⟩ := hr.blk hb hp
      have hgi := run_getIter (P := C.P) ho
      split at he
      · rename_i es clock stamp hmb hlast
        obtain ⟨o2, ho2, ents, rfl, l, hperm, hl, hnd, hlt⟩ := hr.blk hmb hq
        have hgm := run_getMap (P := C.P) ho2
        split at he
        · rename_i hcl
          subst hcl
          obtain ⟨y, hy, rfl⟩ := Option.map_eq_some_iff.1 he
          have hy1 := List.find?_some hy
          rw [decide_eq_true_eq] at hy1
          obtain ⟨n, hn⟩ := List.mem_iff_getElem?.1 (List.mem_of_find?_eq_some hy)
          obtain ⟨f, hf, h2, h3, q2, hq2, hb2⟩ := hl.get n y hn
          rw [List.getLast?_eq_getElem?] at hlast
          obtain ⟨s, hs, q3, hq3, hs3⟩ := hst.get _ _ hlast
          rw [hy1, hq3] at hq2
          obtain rfl := Option.some.inj hq2
          have hlen := hst.length
          have hback : st.back? = some f.born := by
            rw [Array.back?_eq_getElem?, ← Array.getElem?_toList, ← Array.length_toList, hlen, hs, hs3, hb2]
          have hfind : ents.find? (·.born == f.born) = some f := by
            rw [← Array.find?_toList]
            exact find_born f ents.toList ((hperm.map _).nodup_iff.1 hnd) (hperm.mem_iff.1 (List.mem_of_getElem? hf))
          refine ⟨.tuple #[f.key, f.val], ?_, [f.key, f.val], rfl, h2, h3, trivial⟩
          simp [Instr.entry, hd, hgi, hgm, hback, hfind]
        · cases he
      · cases he
    · cases he
  · cases he

/-! ### Bytes into a string -/
def bytesOf : List SV → Option (List Int)
  | [] => some []
  | .int .u8 n :: l => (bytesOf l).map fun ns => n :: ns
  | _ :: _ => none
theorem bytesOf_rel {E : Env} : ∀ {l : List SV} {ns : List Int} {vs : List Value}, bytesOf l = some ns → Rels (SV.rel E) l vs → vs = ns.map (Value.int .u8)
  | [], ns, [], h, _ => by
    obtain rfl := Option.some.inj h
    rfl
  | x :: l, ns, v :: vs, h, hr => by
    unfold bytesOf at h
    split at h
    · rename_i he
      cases he
    · rename_i n l' he
      obtain ⟨rfl, rfl⟩ := List.cons.inj he
      obtain ⟨ms, h1, rfl⟩ := Option.map_eq_some_iff.1 h
      rw [List.map_cons, bytesOf_rel h1 hr.2]
      have : v = .int .u8 n := hr.1
      rw [this]
    · cases h
  | [], _, _ :: _, _, hr => hr.elim
  | _ :: _, _, [], _, hr => hr.elim
def evConv (C : Ctx) (h : T Blk) (s d : TypeId) : EV → Option EV
  | .a (.s (.sl i o l _ _)) => (C.tab s).bind fun es => (C.tab d).bind fun ed =>
    match es.und, ed.und with
    | .slice e, .string => (C.tab e).bind fun ee =>
      match ee.und, h.get i with
      | .int .u8, some (.cells _ _ c _) => if o + l ≤ c.n then (bytesOf (c.list o l)).map fun ns => .a (.s (.str (ns.foldl (fun r n => r.push (UInt8.ofNat n.toNat)) ByteArray.empty))) else none
      | _, _ => none
    | _, _ => none
  | x => evConvInt C s d x
theorem evConv_run {C : Ctx} (hC : C.Ok) {E : Env} {h : T Blk} {w : World} {s d : TypeId} {x r : EV} {v : Value} (he : evConv C h s d x = some r) (hr : HRel E h w) (hx : x.rel E v) : Reads C E w (convert s d v) r := by
  unfold evConv at he
  split at he
  · rename_i i o l cap k
    replace he := Option.bind_eq_some_iff.1 he
    obtain ⟨es, h1, he⟩ := he
    replace he := Option.bind_eq_some_iff.1 he
    obtain ⟨ed, h2, he⟩ := he
    split at he
    · rename_i e hu1 hu2
      replace he := Option.bind_eq_some_iff.1 he
      obtain ⟨ee, h3, he⟩ := he
      split at he
      · rename_i t opn c fz hu3 hb
        split at he
        · rename_i hle
          obtain ⟨ns, hn, rfl⟩ := Option.map_eq_some_iff.1 he
          have u1 := (hC.tab _ _ h1).und
          have u2 := (hC.tab _ _ h2).und
          have u3 := (hC.tab _ _ h3).und
          rw [hu1] at u1
          rw [hu2] at u2
          rw [hu3] at u3
          obtain ⟨p, cp, hp, rfl⟩ : ∃ p cp, E.m i = some p ∧ v = .slice (some ⟨p.blk, p.dl + o, none⟩) l cp := by
            cases cap with
            | none => obtain ⟨p, hp, _, rfl⟩ := hx; exact ⟨p, _, hp, rfl⟩
            | some c => obtain ⟨p, hp, _, rfl⟩ := hx; exact ⟨p, _, hp, rfl⟩
          obtain ⟨vs, v1, v2, v3⟩ := HRel.run_load (P := C.P) hr hb hp o l hle
          obtain rfl := bytesOf_rel hn v2
          exact ⟨_, by rw [run_convert_bytes_string w s d _ _ l cp u1 u3 u2, run_bytesToString w _ l cp ns v3], rfl⟩
        · cases he
      · cases he
    · cases he
  · exact evConvInt_run hC he hx

end Go.Proofs.YtoehfadjpficiaaGreat.Ev
