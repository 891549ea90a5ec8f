/- The evaluator: an operation that is ready, in whatever order. -/
import Derived.Test.YtoehfadjpficiaaGreatEvE
namespace Go.Proofs.YtoehfadjpficiaaGreat.Ev
open Go Go.RowKit
set_option linter.unusedVariables false
set_option linter.unusedSimpArgs false

section step
variable {C : Ctx} {R : Rg} {g : Sg} {N n : Nat} {E0 : Env} {h0 : T Blk} {nx0 : Nat} {a0 : Act} {w0 : World}
variable {listed : Array Bool} {E : Env} {a : Act} {w : World} {k : Nat} {D : T Blk}

theorem pmE_false {j : Nat} : ∀ {k : Nat}, (∀ m e, k = m + 1 → g.es[m]? = some e → R.bit e j = false) → g.pmE R k j = false
  | 0, _ => rfl
  | k + 1, h => by
    show (match g.es[k]? with
      | some e => R.bit e j
      | none => false) = false
    split
    · rename_i e he
      exact h k e rfl he
    · rfl
theorem pmE_get {j m e : Nat} (he : g.es[m]? = some e) : g.pmE R (m + 1) j = R.bit e j := by
  show (match g.es[m]? with
      | some e => R.bit e j
      | none => false) = R.bit e j
  rw [he]
theorem J.pmE_un (hJ : J C R g n E0 h0 nx0 a0 w0 listed E a w k D) {i : Nat} (hun : listed.getD i false = false) : g.pmE R k i = false := pmE_false fun m e hk he => by
  cases hb : R.bit e i with
  | false => rfl
  | true =>
    have h1 := (hJ.act m e he).2 (by omega)
    have h2 := hJ.down e i h1 hb
    rw [hun] at h2
    cases h2
theorem J.act_none (hc : chkAll C R g N n nx0 = true) (hJ : J C R g n E0 h0 nx0 a0 w0 listed E a w k D) {i : Nat} {x : It} (hx : g.it.get i = some x) (hm : x.m = none) (m e : Nat) (he : g.es[m]? = some e) : (listed.getD e false = true ∨ e = i) ↔ m < k := by
  have hne : e ≠ i := fun h => by
    obtain ⟨_, y, hy, hym⟩ := (chk_rest hc).2.2.2.1 m e he
    subst h
    rw [hx] at hy
    obtain rfl := Option.some.inj hy
    rw [hm] at hym
    cases hym
  rw [← hJ.act m e he]
  exact ⟨fun h => h.resolve_right hne, .inl⟩
/-- A step that leaves the memory as it was. -/
theorem J.still (hc : chkAll C R g N n nx0 = true) (hN : N ≤ a0.tmps.size) (hJ : J C R g n E0 h0 nx0 a0 w0 listed E a w k D) {i : Nat} {o : Oper} {x : It} (hi : i < n) (ho : R.ops[i]? = some o) (hx : g.it.get i = some x) (hun : listed.getD i false = false)
    (hpm : ∀ t, R.bit i t = true → listed.getD t false = true) {E' : Env} {w' : World} {v' : Value} (hg : Goes E D x.lo w E' D x.hi w') (hl : x.lo = x.hi) (hv : x.v.rel E' v') (hal : x.al = none) (hm : x.m = none) :
    J C R g n E0 h0 nx0 a0 w0 (listed.setIfInBounds i true) E' (a.put o.dst v') w' k D :=
  hJ.next hc hN hi ho hx hun hpm hg (.inl hl) hv (hJ.act_none hc hx hm) hJ.kle hJ.s1
    (fun j y b hj hy hb hp => by
      rcases hj with hj | rfl
      · exact hJ.s2 j y b hj hy hb hp
      · rw [hx] at hy
        obtain rfl := Option.some.inj hy
        rw [hal] at hb
        cases hb)
    (fun B hB id b hb => by
      rcases hJ.s3 B hB id b hb with h | ⟨j, y, hj, r⟩
      · exact .inl h
      · exact .inr ⟨j, y, .inl hj, r⟩)

theorem J.possible (hJ : J C R g n E0 h0 nx0 a0 w0 listed E a w k D) {i : Nat} (hun : listed.getD i false = false) (hpm : ∀ t, R.bit i t = true → listed.getD t false = true) : possible R g i k = true := by
  unfold Ev.possible allB
  rw [List.all_eq_true]
  intro m _
  split
  · rename_i e he
    simp only [Bool.and_eq_true, Bool.or_eq_true, Bool.not_eq_true', decide_eq_true_eq, decide_eq_false_iff_not]
    constructor
    · cases hb : R.bit i e with
      | false => exact .inl rfl
      | true => exact .inr ((hJ.act m e he).1 (hpm e hb))
    · by_cases hk : m < k
      · refine .inr ?_
        cases hb : R.bit e i with
        | false => rfl
        | true =>
          have := hJ.down e i ((hJ.act m e he).2 hk) hb
          rw [hun] at this
          cases this
      · exact .inl hk
  · rfl

theorem J.visible (hJ : J C R g n E0 h0 nx0 a0 w0 listed E a w k D) {i : Nat} (hpm : ∀ t, R.bit i t = true → listed.getD t false = true) {B H : T Blk} {l : List Nat} (hB : g.bs[k]? = some B) (hH : mkH g B l = some H)
    (hl : ∀ j ∈ l, R.bit i j = true ∧ g.pmE R k j = false) : ∀ id b, H.get id = some b → D.get id = some b := fun id b hb => by
  rcases (mkH_get hH).1 id b hb with h | ⟨j, hj, x, hx, rfl, hal⟩
  · exact hJ.s1 B hB id b h
  · exact hJ.s2 j x b (hpm j (hl j hj).1) hx hal (hl j hj).2

theorem J.fresh (hJ : J C R g n E0 h0 nx0 a0 w0 listed E a w k D) {t lo : Nat} (hlo : nx0 ≤ t) (hno : ∀ j x, listed.getD j false = true → g.it.get j = some x → ¬ (x.lo ≤ t ∧ t < x.hi)) : E.m t = none := by
  cases h : E.m t with
  | none => rfl
  | some p =>
    obtain ⟨j, x, hj, hx, hr⟩ := hJ.own t p hlo h
    exact absurd hr (hno j x hj hx)

theorem listed_lt (hJ : J C R g n E0 h0 nx0 a0 w0 listed E a w k D) {j : Nat} (h : listed.getD j false = true) : j < n := by
  rw [← hJ.size]
  exact getD_lt h

/-- An operation that only makes a block. -/
theorem J.alloc (hC : C.Ok) (hc : chkAll C R g N n nx0 = true) (hN : N ≤ a0.tmps.size) (hJ : J C R g n E0 h0 nx0 a0 w0 listed E a w k D) {i : Nat} {o : Oper} {x : It} (hi : i < n) (ho : R.ops[i]? = some o) (hx : g.it.get i = some x) (hun : listed.getD i false = false)
    (hpm : ∀ t, R.bit i t = true → listed.getD t false = true) {T' : T EV} (hT : RelT E T' a.tmps) {b : Blk} {h' : T Blk} (hal : x.al = some b) (hm : x.m = none) (he : evOp C .nil x.lo T' o = some (x.v, h', x.lo + 1)) (hb : h'.get x.lo = some b) (hhi : x.hi = x.lo + 1)
    {K : Act → World → Prop} {Q : Exit → Act → World → Prop} (hK : ∀ E' a' w' k' D', J C R g n E0 h0 nx0 a0 w0 (listed.setIfInBounds i true) E' a' w' k' D' → K a' w') : o.wp C.P a w K Q := by
  obtain ⟨o1, x1, _, e1, _, _, _, _, _, cal⟩ := chk_one hc hi
  rw [hx] at e1
  obtain rfl := Option.some.inj e1
  unfold chkAl at cal
  rw [hal] at cal
  simp only [Bool.and_eq_true, decide_eq_true_eq] at cal
  obtain ⟨⟨⟨c1, c2⟩, c3⟩, c4⟩ := cal
  have hfr : E.m x.lo = none := hJ.fresh (lo := 0) c2 fun j y hj hy hr => by
    have h := allB_lt c1 j (listed_lt hJ hj)
    unfold loA hiA at h
    rw [hy] at h
    simp only [Option.map_some, Option.getD_some, Bool.or_eq_true, decide_eq_true_eq] at h
    rcases h with (rfl | h) | h
    · rw [hun] at hj; cases hj
    · omega
    · omega
  have hnot : ∀ id c, D.get id = some c → id ≠ x.lo := fun id c hid e => by
    obtain ⟨p, _, hp, _⟩ := hJ.go.rel.at_ id c hid
    rw [e, hfr] at hp
    cases hp
  have hrun := evOp_run hC hJ.ρ he (hJ.go.rel.sub (h := .nil) (fun _ _ h => by cases h)) hT (fun t h1 h2 => by
    obtain rfl : t = x.lo := by simp only at h2; omega
    exact hfr)
  refine hrun.wp K Q fun v' w' E' hg hv => ?_
  refine hK E' _ w' k (D.set x.lo b) (hJ.next hc hN hi ho hx hun hpm (hhi ▸ hg.wide (D' := D.set x.lo b) hJ.go.rel (fun _ _ h => by cases h) fun t => ?_) (.inr ⟨c2, c3⟩) hv (hJ.act_none hc hx hm) hJ.kle ?_ ?_ ?_)
  · rw [T.get_set]
    by_cases ht : t = x.lo
    · subst ht
      rw [if_pos rfl, if_pos (.inr ⟨Nat.le_refl _, Nat.lt_succ_self _⟩)]
      exact hb.symm
    · rw [if_neg ht, if_neg]
      intro h
      rcases h with h | h
      · cases h
      · simp only at h; omega
  · intro B hB id c hc'
    have := hJ.s1 B hB id c hc'
    rw [T.get_set, if_neg (hnot id c this)]
    exact this
  · intro j y c hj hy hyc hp
    rcases hj with hj | rfl
    · have := hJ.s2 j y c hj hy hyc hp
      rw [T.get_set, if_neg (hnot _ c this)]
      exact this
    · rw [hx] at hy
      obtain rfl := Option.some.inj hy
      rw [T.get_set, if_pos rfl, ← hyc, hal]
  · intro B hB id c hc'
    rw [T.get_set] at hc'
    by_cases ht : id = x.lo
    · rw [if_pos ht] at hc'
      obtain rfl := Option.some.inj hc'
      exact .inr ⟨i, x, .inr rfl, hx, ht.symm, hal, hJ.pmE_un hun⟩
    · rw [if_neg ht] at hc'
      rcases hJ.s3 B hB id c hc' with h | ⟨j, y, hj, r⟩
      · exact .inl h
      · exact .inr ⟨j, y, .inl hj, r⟩

/-- An operation that acts. -/
theorem J.acts (hC : C.Ok) {funs : Nat → Option Func} (hfun : FunOk C funs) {call : Call} (hcall : CallOk C call) (hf0 : FreshU E0 nx0) (hc : chkAll C R g N n nx0 = true) (hN : N ≤ a0.tmps.size) (hJ : J C R g n E0 h0 nx0 a0 w0 listed E a w k D) {i : Nat} {o : Oper} {x : It} (hi : i < n) (ho : R.ops[i]? = some o) (hx : g.it.get i = some x) (hun : listed.getD i false = false)
    (hpm : ∀ t, R.bit i t = true → listed.getD t false = true) {T' : T EV} (hT : RelT E T' a.tmps) {m : Nat} {B B' H : T Blk} (hal : x.al = none) (hm : x.m = some m) (hB : g.bs[m]? = some B) (hB' : g.bs[m + 1]? = some B') (hH : mkH g B x.use = some H) (he : evAny C funs call T' H x.lo o = some (x.v, B', x.hi))
    {K : Act → World → Prop} {Q : Exit → Act → World → Prop} (hK : ∀ E' a' w' k' D', J C R g n E0 h0 nx0 a0 w0 (listed.setIfInBounds i true) E' a' w' k' D' → K a' w') : o.wp C.P a w K Q := by
  obtain ⟨o1, x1, _, e1, _, _, _, _, cef, _⟩ := chk_one hc hi
  rw [hx] at e1
  obtain rfl := Option.some.inj e1
  unfold chkEf at cef
  rw [hm] at cef
  simp only [Bool.and_eq_true, decide_eq_true_eq] at cef
  obtain ⟨⟨⟨⟨⟨⟨⟨⟨c1, c2⟩, c3⟩, c4⟩, c5⟩, c6⟩, c7⟩, c8⟩, c9⟩ := cef
  have hlt : m < g.es.length := (List.getElem?_eq_some_iff.1 c1).1
  have hprev : ∀ m' e, m' < m → g.es[m']? = some e → R.bit i e = true ∧ R.pmA e &&& R.pmA i = R.pmA e := fun m' e hm' he' => by
    have h := allB_lt c2 m' hm'
    rw [he'] at h
    simp only [Bool.and_eq_true, decide_eq_true_eq] at h
    exact h
  obtain rfl : m = k := by
    have h1 : ¬ m < k := fun h => by
      have := (hJ.act m i c1).2 h
      rw [hun] at this
      cases this
    have h2 : ¬ k < m := fun h => by
      have hk : k < g.es.length := by omega
      have hke := List.getElem?_eq_getElem hk
      have := (hJ.act k _ hke).1 (hpm _ (hprev k _ h hke).1)
      omega
    omega
  have hsub : ∀ id b, H.get id = some b → D.get id = some b := hJ.visible hpm hB hH fun j hj => by
    have h := List.all_eq_true.1 c7 j hj
    simp only [Bool.and_eq_true, Bool.not_eq_true'] at h
    exact h
  have hfr : FreshU E x.lo := fun t ht => hJ.fresh (lo := 0) (Nat.le_trans c4 ht) fun j y hj hy hr => by
    have h := allB_lt c3 j (listed_lt hJ hj)
    unfold hiA at h
    rw [hy] at h
    simp only [Option.map_some, Option.getD_some, Bool.or_eq_true, decide_eq_true_eq] at h
    rcases h with (rfl | h) | h
    · rw [hun] at hj; cases hj
    · omega
    · have := hJ.down j i hj h
      rw [hun] at this
      cases this
  have hDnone : ∀ t, g.nx ≤ t → D.get t = none := fun t ht => by
    cases h : D.get t with
    | none => rfl
    | some b =>
      obtain ⟨p, _, hp, _⟩ := hJ.go.rel.at_ t b h
      have h0 := (chk_rest hc).2.1
      rw [hJ.go.out t (by omega), hf0 t (by omega)] at hp
      cases hp
  refine evAny_run hC hfun hcall hJ.ρ he (hJ.go.rel.sub hsub) hT hfr K Q fun v' w' E' hg hv => ?_
  simp only at hg hv
  let f : Nat → Option Blk := fun t => if (H.get t).isSome = true ∨ (x.lo ≤ t ∧ t < x.hi) then B'.get t else D.get t
  have hD' : ∀ t, (T.ofFun f g.nx).get t = if (H.get t).isSome = true ∨ (x.lo ≤ t ∧ t < x.hi) then B'.get t else D.get t := fun t => by
    rw [T.get_ofFun]
    by_cases ht : t < g.nx
    · rw [if_pos ht]
    · have hn := hDnone t (by omega)
      rw [if_neg ht, if_neg, hn]
      intro h
      rcases h with h | h
      · cases hh : H.get t with
        | none => rw [hh] at h; cases h
        | some b => rw [hsub t b hh] at hn; cases hn
      · omega
  refine hK E' _ w' (m + 1) (T.ofFun f g.nx) (hJ.next hc hN hi ho hx hun hpm (hg.wide hJ.go.rel hsub hD') (.inr ⟨c4, c6⟩) hv ?_ hlt ?_ ?_ ?_)
  · intro m' e he'
    constructor
    · rintro (h | rfl)
      · have := (hJ.act m' e he').1 h
        omega
      · obtain ⟨_, y, hy, hym⟩ := (chk_rest hc).2.2.2.1 m' e he'
        rw [hx] at hy
        obtain rfl := Option.some.inj hy
        rw [hm] at hym
        have := Option.some.inj hym
        omega
    · intro h
      rcases Nat.lt_or_ge m' m with h | h
      · exact .inl ((hJ.act m' e he').2 h)
      · obtain rfl : m' = m := by omega
        rw [c1] at he'
        exact .inr (Option.some.inj he').symm
  · intro B2 hB2 id b hb
    rw [hB'] at hB2
    obtain rfl := Option.some.inj hB2
    rw [hD', if_pos, hb]
    rcases hg.ids id b hb with ⟨c, hc'⟩ | h
    · exact .inl (by rw [hc']; rfl)
    · exact .inr h
  · intro j y b hj hy hyb hp
    have hbit : R.bit i j = false := by
      rw [pmE_get c1] at hp
      exact hp
    rcases hj with hj | rfl
    · have hjn := listed_lt hJ hj
      obtain ⟨_, y1, _, e1, _, _, _, _, _, cj⟩ := chk_one hc hjn
      rw [hy] at e1
      obtain rfl := Option.some.inj e1
      unfold chkAl at cj
      rw [hyb] at cj
      simp only [Bool.and_eq_true, decide_eq_true_eq] at cj
      have hjm : j ∈ g.als := by simpa using cj.2
      have h9 := List.all_eq_true.1 c9 j hjm
      rw [hbit, hB] at h9
      simp only [Bool.false_or, Option.bind_some, hH, Bool.and_eq_true, Bool.or_eq_true, decide_eq_true_eq] at h9
      have hlo : loA g j = y.lo := by unfold loA; rw [hy]; rfl
      rw [hlo] at h9
      rw [hD', if_neg]
      · refine hJ.s2 j y b hj hy hyb ?_
        refine pmE_false fun m0 e0 hm0 he0 => ?_
        cases hb0 : R.bit e0 j with
        | false => rfl
        | true =>
          have := (hprev m0 e0 (by omega) he0).2
          have h2 : (R.pmA e0 &&& R.pmA i).testBit j = true := by rw [this]; exact hb0
          rw [Nat.testBit_and] at h2
          simp only [Bool.and_eq_true] at h2
          have h3 : R.bit i j = true := h2.2
          rw [hbit] at h3
          cases h3
      · intro h
        rcases h with h | h
        · rw [Option.isNone_iff_eq_none] at h9
          rw [h9.1] at h
          cases h
        · omega
    · rw [hx] at hy
      obtain rfl := Option.some.inj hy
      rw [hal] at hyb
      cases hyb
  · intro B2 hB2 id b hb
    rw [hB'] at hB2
    obtain rfl := Option.some.inj hB2
    rw [hD'] at hb
    by_cases hq : (H.get id).isSome = true ∨ (x.lo ≤ id ∧ id < x.hi)
    · rw [if_pos hq] at hb
      exact .inl hb
    · rw [if_neg hq] at hb
      rcases hJ.s3 B hB id b hb with h | ⟨j, y, hj, hy, hlo, hyb, hp⟩
      · exact absurd (.inl ((mkH_get hH).2.1 id (by rw [h]; rfl))) hq
      · refine .inr ⟨j, y, .inl hj, hy, hlo, hyb, ?_⟩
        rw [pmE_get c1]
        cases hbit : R.bit i j with
        | false => rfl
        | true =>
          exfalso
          have hjn := listed_lt hJ hj
          obtain ⟨_, y1, _, e1, _, _, _, _, _, cj⟩ := chk_one hc hjn
          rw [hy] at e1
          obtain rfl := Option.some.inj e1
          unfold chkAl at cj
          rw [hyb] at cj
          simp only [Bool.and_eq_true, decide_eq_true_eq] at cj
          have hjm : j ∈ g.als := by simpa using cj.2
          have h8 := List.all_eq_true.1 c8 j hjm
          rw [hbit, hp] at h8
          have hu : j ∈ x.use := by simpa using h8
          exact hq (.inl (hlo ▸ (mkH_get hH).2.2 j hu y hy))

/-- What is ready is carried out, and the region has come one further. -/
theorem J.step (hC : C.Ok) {funs : Nat → Option Func} (hfun : FunOk C funs) {call : Call} (hcall : CallOk C call) (hf0 : FreshU E0 nx0) (hF : Facts C funs call R g) (hc : chkAll C R g N n nx0 = true) (hN : N ≤ a0.tmps.size) (hJ : J C R g n E0 h0 nx0 a0 w0 listed E a w k D)
    {i : Nat} (hi : i ∈ Region.ready .any R.ops listed) {K : Act → World → Prop} {Q : Exit → Act → World → Prop} (hK : ∀ E' a' w' k' D', J C R g n E0 h0 nx0 a0 w0 (listed.setIfInBounds i true) E' a' w' k' D' → K a' w') : wpOp C.P R.ops Q i K a w := by
  rw [mem_ready] at hi
  obtain ⟨hun', o, ho, hafter⟩ := hi
  have hin : i < n := by
    rw [← (chk_rest hc).1]
    exact (Array.getElem?_eq_some_iff.1 ho).1
  have hun : listed.getD i false = false := by
    have hsz : i < listed.size := by rw [hJ.size]; exact hin
    simp only [Array.getD, hsz, dif_pos] at hun' ⊢
    exact hun'
  obtain ⟨o1, x, e1, hx, cp, _, _, crd, _, _⟩ := chk_one hc hin
  rw [ho] at e1
  obtain rfl := Option.some.inj e1
  unfold chkPre at cp
  simp only [Bool.and_eq_true, decide_eq_true_eq] at cp
  have hpm : ∀ t, R.bit i t = true → listed.getD t false = true := fun t ht => by
    have ht' : (pmOf R.pmA o.after.toList).testBit t = true := by rw [← cp.1]; exact ht
    obtain ⟨e, hem, hb, h⟩ := pmOf_bit R.pmA _ t ht'
    have hl := hafter e (by simpa using hem) hb
    rcases h with rfl | h
    · exact hl
    · exact hJ.down e.on t hl h
  obtain ⟨o2, T', e2, hT', hq, hcase⟩ := (hF i x hx).out
  rw [ho] at e2
  obtain rfl := Option.some.inj e2
  have hT := hJ.tmps hc hin hx hun hpm hT'
  have hw := evGuard_run hq hT
  unfold wpOp
  rw [ho]
  show if Region.wanted o (yielded R.ops a.tmps) then _ else _
  rw [hw]
  rcases hcase with ⟨h1, h2, h3, h4, h5⟩ | ⟨h1, h2, h3, h4, h5⟩ | ⟨h1, b, h', h2, h3, h4, h5, h6⟩ | ⟨h1, m, B, B', H, h2, h3, h4, h5, h6, h7⟩
  · rw [h1]
    exact hK E _ w k D (hJ.still hc hN hin ho hx hun hpm (h5 ▸ (Goes.refl (nx := 0) hJ.go.rel).renum x.lo) h5 (by rw [h2]; exact ⟨[], rfl, trivial⟩) h3 h4)
  · rw [h1, if_pos rfl]
    refine .inl ?_
    have crd := crd h1 h2
    unfold chkRd at crd
    have hk : k < g.es.length + 1 := Nat.lt_succ_of_le hJ.kle
    have h := allB_lt crd k hk
    rw [hJ.possible hun hpm, hT'] at h
    simp only [Bool.not_true, Bool.false_or] at h
    split at h
    · rename_i T2 H hT2 hH
      obtain rfl := Option.some.inj hT2
      split at h
      · rename_i r hr
        rw [decide_eq_true_eq] at h
        unfold visOf at hH
        replace hH := Option.bind_eq_some_iff.1 hH
        obtain ⟨B, hB, hH⟩ := hH
        have hsub := hJ.visible hpm hB hH fun j hj => by
          have := (List.mem_filter.1 hj).2
          simp only [Bool.and_eq_true, Bool.not_eq_true'] at this
          exact this
        obtain ⟨r1, r2⟩ := evOp_rd h2 hr
        have hrun := evOp_run hC hJ.ρ hr (hJ.go.rel.sub hsub) hT (fun t ht1 ht2 => by rw [r2] at ht2; omega)
        refine hrun.wp _ _ fun v' w' E' hg hv => ?_
        rw [r1, r2] at hg
        rw [h] at hv
        refine hK E' _ w' k D (hJ.still hc hN hin ho hx hun hpm (h5 ▸ (hg.wide (D' := D) hJ.go.rel hsub fun t => ?_).renum x.lo) h5 hv h3 h4)
        by_cases ht : (H.get t).isSome = true ∨ (0 ≤ t ∧ t < 0)
        · rw [if_pos ht]
          rcases ht with ht | ht
          · cases hh : H.get t with
            | none => rw [hh] at ht; cases ht
            | some b => exact hsub t b hh
          · omega
        · rw [if_neg ht]
      · cases h
    · cases h
  · rw [h1, if_pos rfl]
    refine .inl ?_
    exact hJ.alloc hC hc hN hin ho hx hun hpm hT h2 h3 h4 h5 h6 hK
  · rw [h1, if_pos rfl]
    refine .inl ?_
    exact hJ.acts hC hfun hcall hf0 hc hN hin ho hx hun hpm hT h2 h3 h4 h5 h6 h7 hK
end step

end Go.Proofs.YtoehfadjpficiaaGreat.Ev
