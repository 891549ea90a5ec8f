/- The evaluator: code and functions. -/
import Derived.Test.YtoehfadjpficiaaGreatEvN
namespace Go.Proofs.YtoehfadjpficiaaGreat.Ev
open Go Go.RowKit
set_option linter.unusedVariables false
set_option linter.unusedSimpArgs false

inductive Out where
  | normal
  | exit (id : Nat)
  | ret
def Out.e : Out → Exit
  | .normal => .normal
  | .exit id => .exit id
  | .ret => .ret
abbrev OS := Option (List (Out × S))

def evRounds (b : S → OS) : Nat → S → OS
  | 0, _ => none
  | n + 1, s => (b s).bind fun rs => flatO (fun r =>
    match r.1 with
    | .normal => evRounds b n r.2
    | _ => some [r]) rs
def outB (id : Nat) (r : Out × S) : Out × S :=
  match r.1 with
  | .exit id' => if id' = id then (.normal, r.2) else r
  | _ => r
def evCode (C : Ctx) (funs : Nat → Option Func) (call : Call) (N F : Nat) : Code → S → OS
  | .skip, s => some [(.normal, s)]
  | .label _, s => some [(.normal, s)]
  | .region _ ops draw, s => if draw = true then (evDraw C funs call N ops s).map fun s => [(.normal, s)] else (evSeq C funs call N ops ops.toList s).map fun l => l.map fun s => (.normal, s)
  | .seq a b, s => (evCode C funs call N F a s).bind fun rs => flatO (fun r =>
    match r.1 with
    | .normal => evCode C funs call N F b r.2
    | _ => some [r]) rs
  | .cond c a b, s =>
    match opnd s.tm c with
    | some (.a (.s (.bool true))) => evCode C funs call N F a s
    | some (.a (.s (.bool false))) => evCode C funs call N F b s
    | _ => none
  | .block id b, s => (evCode C funs call N F b s).map fun rs => rs.map (outB id)
  | .loop b, s => evRounds (evCode C funs call N F b) F s
  | .exit id, s => some [(.exit id, s)]
  | .ret, s => some [(.ret, s)]
  | _, _ => none

section
variable {C : Ctx} (hC : C.Ok) (hm : C.P.follows .mixedOrders = true) {funs : Nat → Option Func} (hfun : FunOk C funs) {call : Call} (hcall : CallOk C call) {N F : Nat}
include hC hm hfun hcall

theorem evCode_run : ∀ (c : Code) {s : S} {rs : List (Out × S)} {E : Env} {a : Act} {w : World} {Q : Exit → Act → World → Prop}, evCode C funs call N F c s = some rs → At C E N s a w →
    (∀ r ∈ rs, ∀ E' a' w', After C E N s a w E' r.2 a' w' → Q r.1.e a' w') → c.wp C.P Q a w
  | .skip, s, r, E, a, w, Q, he, hA, hQ => by
    obtain rfl := Option.some.inj he
    exact wp_skip (hQ _ (List.mem_singleton.2 rfl) E a w (After.refl hA))
  | .label _, s, r, E, a, w, Q, he, hA, hQ => by
    obtain rfl := Option.some.inj he
    exact wp_label (hQ _ (List.mem_singleton.2 rfl) E a w (After.refl hA))
  | .exit id, s, r, E, a, w, Q, he, hA, hQ => by
    obtain rfl := Option.some.inj he
    exact wp_exit (hQ _ (List.mem_singleton.2 rfl) E a w (After.refl hA))
  | .ret, s, r, E, a, w, Q, he, hA, hQ => by
    obtain rfl := Option.some.inj he
    exact wp_ret (hQ _ (List.mem_singleton.2 rfl) E a w (After.refl hA))
  | .region id ops draw, s, r, E, a, w, Q, he, hA, hQ => by
    cases draw with
    | false =>
      obtain ⟨l, hs, rfl⟩ := Option.map_eq_some_iff.1 he
      exact wp_region_list (evSeq_run hC hfun hcall ops.toList hs hA fun s' hs' => hQ (.normal, s') (List.mem_map.2 ⟨s', hs', rfl⟩))
    | true =>
      obtain ⟨s', hs, rfl⟩ := Option.map_eq_some_iff.1 he
      have hd : Goes E s.h s.nx w E s.h s.nx { w with drawn := w.drawn + 1 } := Goes.draw hA.h rfl rfl rfl rfl
      have hA2 : At C E N s a { w with drawn := w.drawn + 1 } := ⟨hd.rel, hA.ρ, hA.fr, hA.tm, hA.N⟩
      refine wp_region_any hm (evDraw_run hC hfun hcall hs hA2 fun E' a' w' k => hQ (.normal, s') (List.mem_singleton.2 rfl) E' a' w' ?_)
      exact ⟨hd.trans k.go, k.tm, k.size, k.dfr⟩
  | .seq x y, s, r, E, a, w, Q, he, hA, hQ => by
    replace he := Option.bind_eq_some_iff.1 he
    obtain ⟨r1, h1, he⟩ := he
    refine wp_seq (evCode_run x h1 hA fun r2 hr2 E1 a1 w1 k1 => ?_)
    obtain ⟨l, hl, hmem⟩ := flatO_mem he r2 hr2
    obtain ⟨o1, s1⟩ := r2
    cases o1 with
    | normal => exact evCode_run y hl (k1.at hA) fun r3 hr3 E2 a2 w2 k2 => hQ r3 (hmem r3 hr3) E2 a2 w2 (k1.trans k2)
    | exit id =>
      obtain rfl := Option.some.inj hl
      exact hQ _ (hmem _ (List.mem_singleton.2 rfl)) E1 a1 w1 k1
    | ret =>
      obtain rfl := Option.some.inj hl
      exact hQ _ (hmem _ (List.mem_singleton.2 rfl)) E1 a1 w1 k1
  | .cond c x y, s, r, E, a, w, Q, he, hA, hQ => by
    unfold evCode at he
    split at he
    · rename_i hc
      exact wp_cond_true (opnd_rel hA.tm hc) (evCode_run x he hA hQ)
    · rename_i hc
      exact wp_cond_false (opnd_rel hA.tm hc) (evCode_run y he hA hQ)
    · cases he
  | .block id b, s, r, E, a, w, Q, he, hA, hQ => by
    obtain ⟨r1, h1, rfl⟩ := Option.map_eq_some_iff.1 he
    refine wp_block (evCode_run b h1 hA fun r2 hr2 E1 a1 w1 k1 => ?_)
    have hq := hQ (outB id r2) (List.mem_map.2 ⟨r2, hr2, rfl⟩) E1 a1 w1
    obtain ⟨o1, s1⟩ := r2
    cases o1 with
    | normal => exact hq k1
    | ret => exact hq k1
    | exit id' =>
      show if id' = id then Q .normal a1 w1 else Q (.exit id') a1 w1
      unfold outB at hq
      simp only at hq
      by_cases e : id' = id
      · rw [if_pos e] at hq ⊢
        exact hq k1
      · rw [if_neg e] at hq ⊢
        exact hq k1
  | .loop b, s, r, E, a, w, Q, he, hA, hQ => by
    have key : ∀ (n : Nat) {s : S} {rs : List (Out × S)} {E : Env} {a : Act} {w : World} {Q : Exit → Act → World → Prop}, evRounds (evCode C funs call N F b) n s = some rs → At C E N s a w → (∀ r ∈ rs, ∀ E' a' w', After C E N s a w E' r.2 a' w' → Q r.1.e a' w') → Code.rounds C.P b Q n a w := by
      intro n
      induction n with
      | zero => intro s r E a w Q he; cases he
      | succ n ih =>
        intro s r E a w Q he hA hQ
        replace he := Option.bind_eq_some_iff.1 he
        obtain ⟨r1, h1, he⟩ := he
        refine evCode_run b h1 hA fun r2 hr2 E1 a1 w1 k1 => ?_
        obtain ⟨l, hl, hmem⟩ := flatO_mem he r2 hr2
        obtain ⟨o1, s1⟩ := r2
        cases o1 with
        | normal => exact ih hl (k1.at hA) fun r3 hr3 E2 a2 w2 k2 => hQ r3 (hmem r3 hr3) E2 a2 w2 (k1.trans k2)
        | exit id =>
          obtain rfl := Option.some.inj hl
          exact hQ _ (hmem _ (List.mem_singleton.2 rfl)) E1 a1 w1 k1
        | ret =>
          obtain rfl := Option.some.inj hl
          exact hQ _ (hmem _ (List.mem_singleton.2 rfl)) E1 a1 w1 k1
    exact wp_loop_rounds F (key F he hA hQ)
end

/-! ### Results -/
def evRes1 (C : Ctx) (h : T Blk) (tm : T EV) : ResultVar → Option AV
  | .tmp t => match tm.get t with | some (.a x) => some x | _ => none
  | .cell a t => match tm.get a with | some (.a (.s (.ptr i o))) => evLoadAt C h t i o | _ => none
def evResL (C : Ctx) (h : T Blk) (tm : T EV) : List ResultVar → Option (List AV)
  | [] => some []
  | r :: l => (evRes1 C h tm r).bind fun x => (evResL C h tm l).map fun xs => x :: xs
def evRes (l : List AV) : EV := match l with
  | [x] => .a x
  | _ => .tup l
theorem evResL_run {C : Ctx} (hC : C.Ok) {E : Env} {h : T Blk} {w : World} {tm : T EV} {tmps : Array Value} (hr : HRel E h w) (ht : RelT E tm tmps) (f : ResultVar → Sem Value) (hf : ∀ u, f (.tmp u) = pure (tmps.getD u undef)) (hc : ∀ a t, f (.cell a t) = (do loadVar t (← asAddr (tmps.getD a undef)))) :
    ∀ {l : List ResultVar} {xs : List AV}, evResL C h tm l = some xs → ∃ vs, (l.mapM f).run C.P w = .ok vs w ∧ Rels (AV.rel E) xs vs
  | [], xs, he => by
    obtain rfl := Option.some.inj he
    exact ⟨[], by simp, trivial⟩
  | r :: l, xs, he => by
    replace he := Option.bind_eq_some_iff.1 he
    obtain ⟨x, hx, he⟩ := he
    obtain ⟨ys, hy, rfl⟩ := Option.map_eq_some_iff.1 he
    obtain ⟨vs, h1, h2⟩ := evResL_run hC hr ht f hf hc hy
    have : ∃ v, (f r).run C.P w = .ok v w ∧ x.rel E v := by
      cases r with
      | tmp t =>
        unfold evRes1 at hx
        simp only at hx
        split at hx
        · rename_i y hy
          obtain rfl := Option.some.inj hx
          exact ⟨tmps.getD t undef, by rw [hf]; rfl, ht t _ hy⟩
        · cases hx
      | cell a t =>
        unfold evRes1 at hx
        simp only at hx
        split at hx
        · rename_i i o hy
          have hp := ht a _ hy
          obtain ⟨p, hp, he⟩ := hp
          obtain ⟨v, h3, h4⟩ := evLoadAt_run hC hx hr hp
          exact ⟨v, by rw [hc, he]; simp [asAddr, h3], h4⟩
        · cases hx
    obtain ⟨v, h3, h4⟩ := this
    exact ⟨v :: vs, by rw [List.mapM_cons]; simp [h3, h1], h4, h2⟩
theorem evRes_run {C : Ctx} (hC : C.Ok) {E : Env} {h : T Blk} {w : World} {tm : T EV} {tmps : Array Value} (hr : HRel E h w) (ht : RelT E tm tmps) {fn : Func} {xs : List AV} (he : evResL C h tm fn.results.toList = some xs) :
    ∃ v, (results fn tmps).run C.P w = .ok v w ∧ (evRes xs).rel E v := by
  unfold results
  generalize hmine : (fun (r : ResultVar) => (match r with | .tmp t => pure (tmps.getD t undef) | .cell a t => do loadVar t (← asAddr (tmps.getD a undef)) : Sem Value)) = mine
  obtain ⟨vs, h1, h2⟩ := evResL_run hC hr ht mine (fun _ => by rw [← hmine]) (fun _ _ => by rw [← hmine]) he
  have h1' : ∀ f' : ResultVar → Sem Value, (∀ r, f' r = mine r) → (fn.results.toList.mapM f').run C.P w = .ok vs w := fun f' h => by rw [funext h]; exact h1
  have hl := Rels.length h2
  refine ⟨if h : vs.toArray.size = 1 then vs.toArray[0] else .tuple vs.toArray, ?_, ?_⟩
  · rw [show fn.results = fn.results.toList.toArray from rfl, List.mapM_toArray]
    simp only [Sem.run_bind, Sem.run_map]
    rw [h1' _ (fun r => by rw [← hmine]; (first | done | (cases r <;> rfl)))]
    rfl
  · unfold evRes
    split
    · rename_i x
      match vs, h2, hl with
      | [v], h2, _ => exact h2.1
    · rename_i hne
      have : vs.length ≠ 1 := by
        rw [hl]
        intro e
        obtain ⟨x, rfl⟩ := List.length_eq_one_iff.1 e
        exact hne x rfl
      rw [dif_neg (by simpa using this)]
      exact ⟨vs, rfl, h2⟩

/-! ### Functions -/
/-- 'sum': calls whose outcome is told beforehand. -/
def evCall (C : Ctx) (funs : Nat → Option Func) (sum : Call) (F : Nat) : Nat → Call
  | 0, _, _, _, _ => none
  | k + 1, g, args, h, nx =>
    match sum g args h nx with
    | some r => some r
    | none => (funs g).bind fun fn => fn.body.bind fun c =>
      (evCode C funs (evCall C funs sum F k) fn.ntmps F c ⟨T.ofList args 0 .nil, h, nx⟩).bind fun rs => (flatO (fun (r : Out × S) =>
        match r.1 with
        | .exit _ => none
        | _ => (evResL C r.2.h r.2.tm fn.results.toList).map fun xs => [(evRes xs, r.2.h, r.2.nx)]) rs).bind fun l => merge h nx l

theorem argT_rel {E : Env} {args : List EV} {vs : List Value} (h : Rels (EV.rel E) args vs) (n : Nat) : RelT E (T.ofList args 0 .nil) (vs.toArray ++ Array.replicate n undef) := fun t x hx => by
  rw [T.get_ofList] at hx
  split at hx
  · rename_i ht
    obtain ⟨v, h1, h2⟩ := Rels.get h (t - 0) x hx
    have e : (vs.toArray ++ Array.replicate n undef).getD t undef = v := by
      have hlt : t < vs.length := by
        have := (List.getElem?_eq_some_iff.1 h1).1
        simpa using this
      rw [Array.getD_eq_getD_getElem?, Array.getElem?_append_left (by simpa using hlt)]
      have h3 : vs.toArray[t]? = some v := by simpa using h1
      rw [h3]
      rfl
    rw [e]
    exact h2
  · cases hx

theorem evCall_ok {C : Ctx} (hC : C.Ok) (hm : C.P.follows .mixedOrders = true) {funs : Nat → Option Func} (hfun : FunOk C funs) {sum : Call} (hsum : CallOk C sum) {F : Nat} : ∀ (k : Nat), CallOk C (evCall C funs sum F k)
  | 0 => fun g args h nx r he => by cases he
  | k + 1 => fun g args h nx r he E w vs hr hρ hf hargs => by
    unfold evCall at he
    split at he
    · rename_i r' hs
      obtain rfl := Option.some.inj he
      exact hsum g args h nx r' hs E w vs hr hρ hf hargs
    replace he := Option.bind_eq_some_iff.1 he
    obtain ⟨fn, hfn, he⟩ := he
    replace he := Option.bind_eq_some_iff.1 he
    obtain ⟨c, hc, he⟩ := he
    replace he := Option.bind_eq_some_iff.1 he
    obtain ⟨r1, h1, he⟩ := he
    obtain ⟨p1, p2, p3⟩ := hfun g fn hfn
    have hA : At C E fn.ntmps ⟨T.ofList args 0 .nil, h, nx⟩ { tmps := vs.toArray ++ Array.replicate (fn.ntmps - vs.toArray.size) undef, defers := [] } w :=
      ⟨hr, hρ, hf, argT_rel hargs _, by
        show fn.ntmps ≤ (vs.toArray ++ Array.replicate (fn.ntmps - vs.toArray.size) undef).size
        rw [Array.size_append, Array.size_replicate]
        omega⟩
    replace he := Option.bind_eq_some_iff.1 he
    obtain ⟨l, hl, he⟩ := he
    refine calls_of_wp p1 hc (evCode_run hC hm hfun (evCall_ok hC hm hfun hsum k) c h1 hA fun r2 hr2 E' a' w' kk => ?_)
    obtain ⟨l2, hl2, hmem⟩ := flatO_mem hl r2 hr2
    have fin : ∀ xs, evResL C r2.2.h r2.2.tm fn.results.toList = some xs → l2 = [(evRes xs, r2.2.h, r2.2.nx)] → a'.defers = [] ∧ ∃ v, (results fn a'.tmps).run C.P w' = .ok v w' ∧ ∃ v' E', Ending.returned v = .returned v' ∧ Goes E h nx w E' r.2.1 r.2.2 w' ∧ r.1.rel E' v' := fun xs hxs hrr => by
      subst hrr
      obtain ⟨v, h2, h3⟩ := evRes_run hC kk.go.rel kk.tm hxs
      obtain ⟨E3, g1, g2⟩ := merge_goes he hf (hmem _ (List.mem_singleton.2 rfl)) kk.go h3
      exact ⟨kk.dfr, v, h2, v, E3, rfl, g1, g2⟩
    obtain ⟨o1, s1⟩ := r2
    cases o1 with
    | exit id => cases hl2
    | normal =>
      obtain ⟨xs, hxs, e⟩ := Option.map_eq_some_iff.1 hl2
      exact fin xs hxs e.symm
    | ret =>
      obtain ⟨xs, hxs, e⟩ := Option.map_eq_some_iff.1 hl2
      exact fin xs hxs e.symm

def noSum : Call := fun _ _ _ _ => none
theorem noSum_ok {C : Ctx} : CallOk C noSum := fun _ _ _ _ _ h => by cases h
end Go.Proofs.YtoehfadjpficiaaGreat.Ev
