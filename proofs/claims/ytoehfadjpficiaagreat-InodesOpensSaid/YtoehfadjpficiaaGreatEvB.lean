/- The evaluator: operations in a row, and calls. -/
import Derived.Test.YtoehfadjpficiaaGreatEvA
import Derived.Laws.IdiomStrings
namespace Go.Proofs.YtoehfadjpficiaaGreat.Ev
open Go Go.RowKit
set_option linter.unusedVariables false
set_option linter.unusedSimpArgs false

def FreshU (E : Env) (nx : Nat) : Prop := ∀ i, nx ≤ i → E.m i = none
theorem FreshU.fresh {E : Env} {nx : Nat} (h : FreshU E nx) (n : Nat) : Fresh E nx n := fun i hi _ => h i hi
theorem FreshU.goes {E E' : Env} {h h' : T Blk} {nx nx' : Nat} {w w' : World} (hf : FreshU E nx) (g : Goes E h nx w E' h' nx' w') : FreshU E' nx' := fun i hi => by
  have := g.le
  rw [g.out i (by omega)]
  exact hf i (by omega)

abbrev Call := Nat → List EV → T Blk → Nat → Option Res
/-- What a call of a function answers is what the function answers. -/
def CallOk (C : Ctx) (call : Call) : Prop := ∀ g args h nx r, call g args h nx = some r → ∀ E w (vs : List Value), HRel E h w → E.ρ = C.ρ → FreshU E nx → Rels (EV.rel E) args vs →
  Calls C.P g vs.toArray w fun e w' => ∃ v E', e = .returned v ∧ Goes E h nx w E' r.2.1 r.2.2 w' ∧ r.1.rel E' v
/-- Functions with a body of their own. -/
def FunOk (C : Ctx) (funs : Nat → Option Func) : Prop := ∀ g fn, funs g = some fn → C.P.funcs[g]? = some fn ∧ (fn.name == "runtime.NumGoroutine") = false ∧ fn.body.isNone = false

def ptrs (cs : List (Nat × Nat)) : List EV := cs.map fun c => .a (.s (.ptr c.1 c.2))
theorem ptrs_rel {E : Env} : ∀ {cs : List (Nat × Nat)} {vs : List Value}, Rels (relP E) cs vs → Rels (EV.rel E) (ptrs cs) vs
  | [], [], _ => trivial
  | c :: cs, v :: vs, h => ⟨h.1, ptrs_rel h.2⟩
  | [], _ :: _, h => h.elim
  | _ :: _, [], h => h.elim

/-- The bytes of a text, in a new row whose capacity is open. -/
def byteSV (x : UInt8) : SV := .int .u8 x.toNat
def evBytes (C : Ctx) (h : T Blk) (nx : Nat) (s d : TypeId) : EV → Option Res
  | .a (.s (.str b)) => (C.tab s).bind fun es => (C.tab d).bind fun ed =>
    match es.und, ed.und with
    | .string, .slice e => (C.tab e).bind fun ee =>
      match ee.und with
      | .int .u8 => some (.a (.s (.sl nx 0 b.size none 0)), h.set nx (.cells e (some 1) (Cells.ofList (b.data.toList.map byteSV)) true), nx + 1)
      | _ => none
    | _, _ => none
  | _ => none
theorem evBytes_run {C : Ctx} (hC : C.Ok) {E : Env} {h : T Blk} {nx : Nat} {w : World} {s d : TypeId} {x : EV} {r : Res} {v : Value} (he : evBytes C h nx s d x = some r) (hx : x.rel E v) (hr : HRel E h w) (hn : E.m nx = none) :
    ∃ v' w' E', (convert s d v).run C.P w = .ok v' w' ∧ Goes E h nx w E' r.2.1 r.2.2 w' ∧ r.1.rel E' v' := by
  unfold evBytes at he
  split at he
  · rename_i b
    obtain ⟨es, hes, he⟩ := Option.bind_eq_some_iff.1 he
    obtain ⟨ed, hed, he⟩ := Option.bind_eq_some_iff.1 he
    split at he
    · rename_i e hus hud
      obtain ⟨ee, hee, he⟩ := Option.bind_eq_some_iff.1 he
      split at he
      · rename_i hue
        obtain rfl := Option.some.inj he
        obtain rfl := hx
        have h1 := (hC.tab _ _ hes).und
        have h2 := (hC.tab _ _ hed).und
        have h3 := (hC.tab _ _ hee).und
        rw [hus] at h1
        rw [hud] at h2
        rw [hue] at h3
        have hrun := run_bytes_of_string (P := C.P) w s d e b h1 h2 h3
        have hd : Goes E h nx w E h nx w.drew := Goes.draw hr rfl rfl rfl rfl
        have hge := grownCap_ge w b.size 0 e
        have hsz : (bytesRow b (grownCap w b.size 0 e)).size = grownCap w b.size 0 e := by
          unfold bytesRow
          rw [Array.size_append, Array.size_map, Array.size_replicate]
          show b.data.size + _ = _
          have : b.size = b.data.size := rfl
          omega
        refine ⟨_, _, _, hrun, hd.trans (Goes.new (b := .cells e (some 1) (Cells.ofList (b.data.toList.map byteSV)) true) hd.rel hn ⟨w.heap.size, 0, grownCap w b.size 0 e⟩ rfl ⟨_, _, _, rfl, ?_⟩), ?_⟩
        · exact {
            fz := fun h => by cases h
            free := fun j hj => by omega
            room := fun sz hsz' => by
              obtain rfl := Option.some.inj hsz'
              show 0 + grownCap w b.size 0 e * 1 ≤ _
              omega
            fits := by
              rw [Cells.ofList_n, List.length_map, hsz]
              show 0 + b.data.toList.length ≤ _
              have : b.size = b.data.size := rfl
              rw [Array.length_toList]
              omega
            dl := fun h => by cases h
            get := fun j hj => by
              rw [Cells.ofList_n, List.length_map, Array.length_toList] at hj
              refine ⟨.int .u8 (b.data[j]).toNat, ?_, ?_⟩
              · unfold bytesRow
                show (b.data.map _ ++ _)[0 + j]? = _
                rw [Nat.zero_add, Array.getElem?_append_left (by simpa using hj), Array.getElem?_map, Array.getElem?_eq_getElem hj]
                rfl
              · rw [Cells.get_ofList _ j (byteSV b.data[j]) (by rw [List.getElem?_map, Array.getElem?_toList, Array.getElem?_eq_getElem hj]; rfl)]
                rfl }
        · exact ⟨⟨w.heap.size, 0, grownCap w b.size 0 e⟩, Env.put_at _ _ _, hge, rfl⟩
      · cases he
    · cases he
  · cases he
def evAny (C : Ctx) (funs : Nat → Option Func) (call : Call) (tm : T EV) (h : T Blk) (nx : Nat) (o : Oper) : Option Res :=
  match o.op with
  | .call { callee := .value f, args, .. } => (opnd tm f).bind fun fv =>
    match fv with
    | .a (.s (.func g cs)) => (funs g).bind fun _ => (opL tm args.toList).bind fun xs => call g (xs ++ ptrs cs) h nx
    | _ => none
  | .convert s d x =>
    match evOp C h nx tm o with
    | some r => some r
    | none => (opnd tm x).bind fun x => evBytes C h nx s d x
  | _ => evOp C h nx tm o

/-- What follows an operation. -/
def OpWp (C : Ctx) (E : Env) (h : T Blk) (nx : Nat) (a : Act) (w : World) (o : Oper) (r : Res) : Prop :=
  ∀ (K : Act → World → Prop) (Q : Exit → Act → World → Prop), (∀ v' w' E', Goes E h nx w E' r.2.1 r.2.2 w' → r.1.rel E' v' → K (a.put o.dst v') w') → o.wp C.P a w K Q
theorem OpRuns.wp {C : Ctx} {E : Env} {h : T Blk} {nx : Nat} {a : Act} {w : World} {o : Oper} {r : Res} (hr : OpRuns C E h nx a w o r) : OpWp C E h nx a w o r := by
  intro K Q hK
  obtain ⟨v', w', E', h1, h2, h3⟩ := hr
  unfold Oper.wp
  rcases h1 with h1 | ⟨h1, rfl⟩
  · rw [h1]
    exact hK v' w' E' h2 h3
  · rw [h1]
    exact hK undef w' E' h2 h3

theorem evAny_run {C : Ctx} (hC : C.Ok) {funs : Nat → Option Func} (hfun : FunOk C funs) {call : Call} (hcall : CallOk C call) {E : Env} (hρ : E.ρ = C.ρ) {h : T Blk} {nx : Nat} {tm : T EV} {a : Act} {w : World} {o : Oper} {r : Res}
    (he : evAny C funs call tm h nx o = some r) (hr : HRel E h w) (ht : RelT E tm a.tmps) (hf : FreshU E nx) : OpWp C E h nx a w o r := by
  unfold evAny at he
  split at he
  · rename_i f args ts hop
    replace he := Option.bind_eq_some_iff.1 he
    obtain ⟨fv, hfv, he⟩ := he
    have hfr := opnd_rel ht hfv
    split at he
    · rename_i g cs
      replace he := Option.bind_eq_some_iff.1 he
      obtain ⟨fn, hfn, he⟩ := he
      replace he := Option.bind_eq_some_iff.1 he
      obtain ⟨xs, hxs, he⟩ := he
      obtain ⟨vs, hv, hcs⟩ := hfr
      obtain ⟨p1, p2, p3⟩ := hfun g fn hfn
      have hxr := opL_rel ht hxs
      have hall := hxr.app (ptrs_rel hcs)
      have hc := hcall g _ h nx r he E w _ hr hρ hf hall
      intro K Q hK
      unfold Oper.wp
      have hexec : (execOp a.eval o).run C.P w = .ok (.enter g (args.map a.eval ++ vs.toArray)) w := by
        unfold execOp
        rw [hop]
        simp only [resolve, hv, Deferred.ofValue, Sem.run_bind, Sem.run_pure, Result.andThen_ok, invoke, callFunc, run_program, p1, p2, Bool.false_eq_true, if_false, p3]
        simp
      rw [hexec]
      show Calls C.P g (args.map a.eval ++ vs.toArray) w _
      have e : (args.map a.eval ++ vs.toArray) = (args.toList.map a.eval ++ vs).toArray := by
        apply Array.toList_inj.1
        simp
      rw [e]
      refine hc.mono fun e w' ⟨v, E', he', hg, hrel⟩ => ?_
      subst he'
      exact hK v w' E' hg hrel
    · cases he
  · rename_i s d x hop
    split at he
    · rename_i r' hr'
      obtain rfl := Option.some.inj he
      exact (evOp_run hC hρ hr' hr ht (hf.fresh _)).wp
    · obtain ⟨x', hx', he⟩ := Option.bind_eq_some_iff.1 he
      obtain ⟨v', w', E', h1, h2, h3⟩ := evBytes_run hC he (opnd_rel ht hx') hr (hf nx (Nat.le_refl _))
      refine OpRuns.wp ⟨v', w', E', .inl ?_, h2, h3⟩
      unfold execOp
      rw [hop]
      simp [h1]
  · exact (evOp_run hC hρ he hr ht (hf.fresh _)).wp

/-! ### Is an operation wanted? -/
def evGuard (ops : Array Oper) (tm : T EV) (o : Oper) : Option Bool :=
  match o.guard with
  | none => some true
  | some (j, want) =>
    match (ops[j]?).bind (·.dst) with
    | none => some false
    | some d =>
      match tm.get d with
      | some (.a (.s (.bool b))) => some (b == want)
      | some (.tup _) => some false
      | _ => none
theorem evGuard_run {E : Env} {ops : Array Oper} {tm : T EV} {o : Oper} {tmps : Array Value} {q : Bool} (he : evGuard ops tm o = some q) (ht : RelT E tm tmps) : Region.wanted o (yielded ops tmps) = q := by
  unfold evGuard at he
  unfold Region.wanted
  split at he
  · rename_i hg
    rw [hg]
    exact Option.some.inj he
  · rename_i j want hg
    simp only [hg]
    split at he
    · rename_i hd
      unfold yielded
      rw [hd]
      exact Option.some.inj he
    · rename_i d hd
      have hy : yielded ops tmps j = (match tmps[d]? with | some (.bool b) => some b | _ => none) := by
        unfold yielded
        rw [hd]
        rfl
      rw [hy]
      split at he
      · rename_i b hb
        have h1 : tmps.getD d undef = .bool b := ht d _ hb
        rw [Array.getD_eq_getD_getElem?] at h1
        cases hq : tmps[d]? with
        | none => rw [hq] at h1; cases h1
        | some v =>
          rw [hq] at h1
          have h2 : v = .bool b := h1
          subst h2
          have := Option.some.inj he
          rw [← this]
          rfl
      · rename_i l hb
        obtain ⟨vs, h1, _⟩ := ht d _ hb
        rw [Array.getD_eq_getD_getElem?] at h1
        have := Option.some.inj he
        rw [← this]
        cases hq : tmps[d]? with
        | none => rfl
        | some v =>
          rw [hq] at h1
          have h2 : v = _ := h1
          subst h2
          rfl
      · cases he

/-! ### A row of operations -/
structure S where
  tm : T EV
  h : T Blk
  nx : Nat
def putS (N : Nat) (tm : T EV) (dst : Option Tmp) (r : Res) : Option S :=
  match dst with
  | none => some ⟨tm, r.2.1, r.2.2⟩
  | some d => if d < N then some ⟨tm.set d r.1, r.2.1, r.2.2⟩ else none
theorem putS_rel {N : Nat} {tm : T EV} {dst : Option Tmp} {r : Res} {s : S} (h : putS N tm dst r = some s) : s.h = r.2.1 ∧ s.nx = r.2.2 ∧ ∀ {E : Env} {a : Act} {v : Value}, RelT E tm a.tmps → N ≤ a.tmps.size → r.1.rel E v → RelT E s.tm (a.put dst v).tmps ∧ (a.put dst v).tmps.size = a.tmps.size ∧ (a.put dst v).defers = a.defers := by
  unfold putS at h
  split at h
  · obtain rfl := Option.some.inj h
    exact ⟨rfl, rfl, fun ht _ _ => ⟨ht, rfl, rfl⟩⟩
  · split at h
    · rename_i d hd
      obtain rfl := Option.some.inj h
      exact ⟨rfl, rfl, fun {E a v} ht hN hv => ⟨RelT.set ht (Nat.lt_of_lt_of_le hd hN) hv, by simp [Act.put], rfl⟩⟩
    · cases h

def evOper (C : Ctx) (funs : Nat → Option Func) (call : Call) (N : Nat) (ops : Array Oper) (s : S) (o : Oper) : Option S :=
  (evGuard ops s.tm o).bind fun q => if q = true then (evAny C funs call s.tm s.h s.nx o).bind fun r => putS N s.tm o.dst r else putS N s.tm o.dst (.tup [], s.h, s.nx)
def flatO {α β : Type} (f : α → Option (List β)) : List α → Option (List β)
  | [] => some []
  | a :: as => (f a).bind fun x => (flatO f as).map fun y => x ++ y
theorem flatO_mem {α β : Type} {f : α → Option (List β)} : ∀ {as : List α} {r : List β}, flatO f as = some r → ∀ a ∈ as, ∃ x, f a = some x ∧ ∀ b ∈ x, b ∈ r
  | [], _, _, a, h => by simp at h
  | a :: as, r, he, c, hc => by
    replace he := Option.bind_eq_some_iff.1 he
    obtain ⟨x, hx, he⟩ := he
    obtain ⟨y, hy, rfl⟩ := Option.map_eq_some_iff.1 he
    rcases List.mem_cons.1 hc with rfl | hc
    · exact ⟨x, hx, fun b hb => List.mem_append_left _ hb⟩
    · obtain ⟨z, h1, h2⟩ := flatO_mem hy c hc
      exact ⟨z, h1, fun b hb => List.mem_append_right _ (h2 b hb)⟩
/-- One operation: all that may come of it. -/
def evOperL (C : Ctx) (funs : Nat → Option Func) (call : Call) (N : Nat) (ops : Array Oper) (s : S) (o : Oper) : Option (List S) :=
  match o.op with
  | .next x false => (evGuard ops s.tm o).bind fun q =>
    if q = true then (opnd s.tm x).bind fun x => (evNext s.h x).bind fun rs => flatO (fun r => (putS N s.tm o.dst (r.1, r.2, s.nx)).map fun s => [s]) rs
    else (putS N s.tm o.dst (.tup [], s.h, s.nx)).map fun s => [s]
  | _ => (evOper C funs call N ops s o).map fun s => [s]
def evSeq (C : Ctx) (funs : Nat → Option Func) (call : Call) (N : Nat) (ops : Array Oper) : List Oper → S → Option (List S)
  | [], s => some [s]
  | o :: l, s => (evOperL C funs call N ops s o).bind fun ss => flatO (evSeq C funs call N ops l) ss

/-- The state s stands for the frame a and the world w. -/
structure At (C : Ctx) (E : Env) (N : Nat) (s : S) (a : Act) (w : World) : Prop where
  h : HRel E s.h w
  ρ : E.ρ = C.ρ
  fr : FreshU E s.nx
  tm : RelT E s.tm a.tmps
  N : N ≤ a.tmps.size
/-- What is known behind a piece of code. -/
structure After (C : Ctx) (E : Env) (N : Nat) (s : S) (a : Act) (w : World) (E' : Env) (s' : S) (a' : Act) (w' : World) : Prop where
  go : Goes E s.h s.nx w E' s'.h s'.nx w'
  tm : RelT E' s'.tm a'.tmps
  size : a'.tmps.size = a.tmps.size
  dfr : a'.defers = a.defers
theorem After.at {C : Ctx} {E E' : Env} {N : Nat} {s s' : S} {a a' : Act} {w w' : World} (h : At C E N s a w) (k : After C E N s a w E' s' a' w') : At C E' N s' a' w' :=
  ⟨k.go.rel, k.go.ext.ρ.trans h.ρ, h.fr.goes k.go, k.tm, by rw [k.size]; exact h.N⟩
theorem After.trans {C : Ctx} {E E1 E2 : Env} {N : Nat} {s s1 s2 : S} {a a1 a2 : Act} {w w1 w2 : World} (h : After C E N s a w E1 s1 a1 w1) (k : After C E1 N s1 a1 w1 E2 s2 a2 w2) : After C E N s a w E2 s2 a2 w2 :=
  ⟨h.go.trans k.go, k.tm, k.size.trans h.size, k.dfr.trans h.dfr⟩
theorem After.refl {C : Ctx} {E : Env} {N : Nat} {s : S} {a : Act} {w : World} (h : At C E N s a w) : After C E N s a w E s a w := ⟨Goes.refl h.h, h.tm, rfl, rfl⟩

section
variable {C : Ctx} (hC : C.Ok) {funs : Nat → Option Func} (hfun : FunOk C funs) {call : Call} (hcall : CallOk C call)
include hC hfun hcall

theorem evOper_run {E : Env} {N : Nat} {ops : Array Oper} {s s' : S} {o : Oper} {a : Act} {w : World} (he : evOper C funs call N ops s o = some s') (hA : At C E N s a w) {K : Act → World → Prop} {Q : Exit → Act → World → Prop}
    (hK : ∀ E' a' w', After C E N s a w E' s' a' w' → K a' w') : if Region.wanted o (yielded ops a.tmps) then o.wp C.P a w K Q else K (a.put o.dst undef) w := by
  replace he := Option.bind_eq_some_iff.1 he
  obtain ⟨q, hq, he⟩ := he
  rw [evGuard_run hq hA.tm]
  cases q with
  | true =>
    simp only [if_true] at he ⊢
    replace he := Option.bind_eq_some_iff.1 he
    obtain ⟨r, hr, he⟩ := he
    obtain ⟨e1, e2, hput⟩ := putS_rel he
    refine evAny_run hC hfun hcall hA.ρ hr hA.h hA.tm hA.fr K Q fun v' w' E' hg hrel => ?_
    obtain ⟨t1, t2, t3⟩ := hput (hA.tm.ext hg.ext) hA.N hrel
    exact hK E' _ w' ⟨by rw [e1, e2]; exact hg, t1, t2, t3⟩
  | false =>
    simp only [Bool.false_eq_true, if_false] at he ⊢
    obtain ⟨e1, e2, hput⟩ := putS_rel he
    obtain ⟨t1, t2, t3⟩ := hput hA.tm hA.N (v := undef) (⟨[], rfl, trivial⟩ : EV.rel E (.tup []) undef)
    exact hK E _ w ⟨by rw [e1, e2]; exact Goes.refl hA.h, t1, t2, t3⟩

theorem evOperL_run {E : Env} {N : Nat} {ops : Array Oper} {s : S} {ss : List S} {o : Oper} {a : Act} {w : World} (he : evOperL C funs call N ops s o = some ss) (hA : At C E N s a w) {K : Act → World → Prop} {Q : Exit → Act → World → Prop}
    (hK : ∀ s' ∈ ss, ∀ E' a' w', After C E N s a w E' s' a' w' → K a' w') : if Region.wanted o (yielded ops a.tmps) then o.wp C.P a w K Q else K (a.put o.dst undef) w := by
  unfold evOperL at he
  split at he
  · rename_i x hop
    replace he := Option.bind_eq_some_iff.1 he
    obtain ⟨q, hq, he⟩ := he
    rw [evGuard_run hq hA.tm]
    cases q with
    | true =>
      simp only [if_true] at he ⊢
      replace he := Option.bind_eq_some_iff.1 he
      obtain ⟨x', hx, he⟩ := he
      replace he := Option.bind_eq_some_iff.1 he
      obtain ⟨rs, hrs, he⟩ := he
      obtain ⟨r, hr, v', w', hrun, hg, hrel⟩ := evNext_run (C := C) (nx := s.nx) (ty := o.type) hrs hA.h (opnd_rel hA.tm hx)
      obtain ⟨l, hl, hmem⟩ := flatO_mem he r hr
      obtain ⟨s', hs, rfl⟩ := Option.map_eq_some_iff.1 hl
      obtain ⟨e1, e2, hput⟩ := putS_rel hs
      obtain ⟨t1, t2, t3⟩ := hput (hA.tm.ext hg.ext) hA.N hrel
      unfold Oper.wp
      have hexec : (execOp a.eval o).run C.P w = .ok (.value v') w' := by
        unfold execOp
        rw [hop]
        simp [hrun]
      rw [hexec]
      exact hK s' (hmem s' (by simp)) E _ w' ⟨by rw [e1, e2]; exact hg, t1, t2, t3⟩
    | false =>
      simp only [Bool.false_eq_true, if_false] at he ⊢
      obtain ⟨s', hs, rfl⟩ := Option.map_eq_some_iff.1 he
      obtain ⟨e1, e2, hput⟩ := putS_rel hs
      obtain ⟨t1, t2, t3⟩ := hput hA.tm hA.N (v := undef) (⟨[], rfl, trivial⟩ : EV.rel E (.tup []) undef)
      exact hK s' (by simp) E _ w ⟨by rw [e1, e2]; exact Goes.refl hA.h, t1, t2, t3⟩
  · obtain ⟨s', hs, rfl⟩ := Option.map_eq_some_iff.1 he
    exact evOper_run hC hfun hcall hs hA (hK s' (by simp))

theorem evSeq_run {N : Nat} {ops : Array Oper} {Q : Exit → Act → World → Prop} : ∀ (l : List Oper) {E : Env} {s : S} {ss : List S} {a : Act} {w : World}, evSeq C funs call N ops l s = some ss → At C E N s a w →
    (∀ s' ∈ ss, ∀ E' a' w', After C E N s a w E' s' a' w' → Q .normal a' w') → wpList C.P ops Q l a w
  | [], E, s, ss, a, w, he, hA, hQ => by
    obtain rfl := Option.some.inj he
    exact hQ s (by simp) E a w (After.refl hA)
  | o :: l, E, s, ss, a, w, he, hA, hQ => by
    replace he := Option.bind_eq_some_iff.1 he
    obtain ⟨s1, h1, h2⟩ := he
    refine wpList_step fun K hK => ?_
    refine evOperL_run hC hfun hcall h1 hA fun s2 hs2 E1 a1 w1 k1 => hK a1 w1 ?_
    obtain ⟨x, hx, hmem⟩ := flatO_mem h2 s2 hs2
    exact evSeq_run l hx (k1.at hA) fun s3 hs3 E2 a2 w2 k2 => hQ s3 (hmem s3 hs3) E2 a2 w2 (k1.trans k2)
end

end Go.Proofs.YtoehfadjpficiaaGreat.Ev
