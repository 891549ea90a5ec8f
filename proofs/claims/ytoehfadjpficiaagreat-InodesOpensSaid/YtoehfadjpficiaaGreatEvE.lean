/- The evaluator: whatever order a region draws, it comes to what was evaluated. -/
import Derived.Test.YtoehfadjpficiaaGreatEvD
namespace Go.Proofs.YtoehfadjpficiaaGreat.Ev
open Go Go.RowKit
set_option linter.unusedVariables false
set_option linter.unusedSimpArgs false

theorem le_refl' (g : Sg) : g.Le g := ⟨fun _ _ h => h, fun _ _ h => h⟩
theorem le_trans' {a b c : Sg} (h : a.Le b) (k : b.Le c) : a.Le c := ⟨fun i x hx => k.it i x (h.it i x hx), fun m B hB => k.bs m B (h.bs m B hB)⟩
theorem evIt_le {C : Ctx} {funs : Nat → Option Func} {call : Call} {R : Rg} {g g' : Sg} {i : Nat} (he : evIt C funs call R g i = some g') : g.Le g' := by
  unfold evIt at he
  split at he
  · cases he
  rename_i hn
  replace he := Option.bind_eq_some_iff.1 he
  obtain ⟨o, ho, he⟩ := he
  replace he := Option.bind_eq_some_iff.1 he
  obtain ⟨T, hT, he⟩ := he
  replace he := Option.bind_eq_some_iff.1 he
  obtain ⟨q, hq, he⟩ := he
  split at he
  · obtain rfl := Option.some.inj he
    exact le_set hn (fun k B h => h)
  · split at he
    · replace he := Option.bind_eq_some_iff.1 he
      obtain ⟨H, hH, he⟩ := he
      replace he := Option.bind_eq_some_iff.1 he
      obtain ⟨r, hr, he⟩ := he
      obtain rfl := Option.some.inj he
      exact le_set hn (fun k B h => h)
    · split at he
      · replace he := Option.bind_eq_some_iff.1 he
        obtain ⟨r, hr, he⟩ := he
        replace he := Option.bind_eq_some_iff.1 he
        obtain ⟨b, hb, he⟩ := he
        split at he
        · obtain rfl := Option.some.inj he
          exact le_set hn (fun k B h => h)
        · cases he
      · replace he := Option.bind_eq_some_iff.1 he
        obtain ⟨B, hB, he⟩ := he
        replace he := Option.bind_eq_some_iff.1 he
        obtain ⟨H, hH, he⟩ := he
        replace he := Option.bind_eq_some_iff.1 he
        obtain ⟨r, hr, he⟩ := he
        split at he
        · obtain rfl := Option.some.inj he
          exact le_set hn (fun k B h => by rw [List.getElem?_append_left (List.getElem?_eq_some_iff.1 h).1]; exact h)
        · cases he
theorem evIts_le {C : Ctx} {funs : Nat → Option Func} {call : Call} {R : Rg} : ∀ {l : List Nat} {g g' : Sg}, evIts C funs call R l g = some g' → g.Le g'
  | [], g, g', h => by
    obtain rfl := Option.some.inj h
    exact le_refl' g
  | i :: l, g, g', h => by
    replace h := Option.bind_eq_some_iff.1 h
    obtain ⟨g1, h1, h2⟩ := h
    exact le_trans' (evIt_le h1) (evIts_le h2)

def allB (n : Nat) (f : Nat → Bool) : Bool := (List.range n).all f
theorem allB_lt {n : Nat} {f : Nat → Bool} (h : allB n f = true) (i : Nat) (hi : i < n) : f i = true := List.all_eq_true.1 h i (List.mem_range.2 hi)

section chk
variable (C : Ctx) (R : Rg) (g : Sg) (N n nx0 : Nat)
def loA (j : Nat) : Nat := ((g.it.get j).map (·.lo)).getD 0
def hiA (j : Nat) : Nat := ((g.it.get j).map (·.hi)).getD 0
def possible (i k : Nat) : Bool := allB g.es.length fun m => match g.es[m]? with
  | some e => (!R.bit i e || decide (m < k)) && (!decide (m < k) || !R.bit e i)
  | none => true
def visOf (i k : Nat) : Option (T Blk) := (g.bs[k]?).bind fun B => mkH g B (g.als.filter fun j => R.bit i j && !g.pmE R k j)
def chkPre (i : Nat) (o : Oper) : Bool := decide (R.pmA i = pmOf R.pmA o.after.toList) && o.after.toList.all fun e => !Region.binds .any e || decide (e.on < i)
def chkDst (i : Nat) (o : Oper) : Bool := match o.dst with
  | none => true
  | some d => decide (d < N) && decide (R.wr.get d = some i)
def chkTmp (i : Nat) (x : It) : Bool := x.tmp.all fun p => match p.2 with
  | some j => decide ((R.ops[j]?).bind (·.dst) = some p.1) && R.bit i j
  | none => match R.wr.get p.1 with
    | none => true
    | some j => decide (j = i) || R.bit j i
def chkRd (i : Nat) (o : Oper) (x : It) : Bool := allB (g.es.length + 1) fun k => !possible R g i k || (match mkT R g x.tmp, visOf R g i k with
  | some T, some H => (match evOp C H 0 T o with
    | some r => decide (r.1 = x.v)
    | none => false)
  | _, _ => false)
def chkEf (i : Nat) (x : It) : Bool := match x.m with
  | none => true
  | some m => decide (g.es[m]? = some i) && allB m (fun m' => match g.es[m']? with | some e => R.bit i e && decide (R.pmA e &&& R.pmA i = R.pmA e) | none => false)
      && allB n (fun j => decide (j = i) || decide (hiA g j ≤ x.lo) || R.bit j i) && decide (nx0 ≤ x.lo) && decide (x.lo ≤ x.hi) && decide (x.hi ≤ g.nx)
      && x.use.all (fun j => R.bit i j && !g.pmE R m j) && g.als.all (fun j => !(R.bit i j && !g.pmE R m j) || x.use.contains j)
      && g.als.all (fun j => R.bit i j || ((match (g.bs[m]?).bind fun B => mkH g B x.use with | some H => (H.get (loA g j)).isNone | none => false) && (decide (loA g j < x.lo) || decide (x.hi ≤ loA g j))))
def chkAl (i : Nat) (x : It) : Bool := match x.al with
  | none => true
  | some _ => allB n (fun j => decide (j = i) || decide (x.lo < loA g j) || decide (hiA g j ≤ x.lo)) && decide (nx0 ≤ x.lo) && decide (x.hi ≤ g.nx) && g.als.contains i
def chkOne (i : Nat) : Bool := match R.ops[i]?, g.it.get i with
  | some o, some x => chkPre R i o && chkDst R N i o && chkTmp R i x && (!(x.q && isRd o.op) || chkRd C R g i o x) && chkEf R g n nx0 i x && chkAl g n nx0 i x
  | _, _ => false
def chkAll : Bool := allB n (chkOne C R g N n nx0) && decide (R.ops.size = n) && decide (nx0 ≤ g.nx) && decide (g.bs.length = g.es.length + 1)
  && allB g.es.length (fun m => match g.es[m]? with | some e => decide (e < n) && (match g.it.get e with | some x => decide (x.m = some m) | none => false) | none => false)
  && g.als.all (fun j => decide (j < n) && (match g.it.get j with | some x => x.al.isSome | none => false))
end chk

/-- The region has come so far: the operations of L have been carried out, k of those that act among them. -/
structure J (C : Ctx) (R : Rg) (g : Sg) (n : Nat) (E0 : Env) (h0 : T Blk) (nx0 : Nat) (a0 : Act) (w0 : World) (listed : Array Bool) (E : Env) (a : Act) (w : World) (k : Nat) (D : T Blk) : Prop where
  size : listed.size = n
  down : ∀ i t, listed.getD i false = true → R.bit i t = true → listed.getD t false = true
  act : ∀ (m e : Nat), g.es[m]? = some e → (listed.getD e false = true ↔ m < k)
  kle : k ≤ g.es.length
  go : Goes E0 h0 nx0 w0 E D g.nx w
  s1 : ∀ B : T Blk, g.bs[k]? = some B → ∀ id b, B.get id = some b → D.get id = some b
  s2 : ∀ j x b, listed.getD j false = true → g.it.get j = some x → x.al = some b → g.pmE R k j = false → D.get x.lo = some b
  s3 : ∀ B : T Blk, g.bs[k]? = some B → ∀ id b, D.get id = some b → B.get id = some b ∨ ∃ j x, listed.getD j false = true ∧ g.it.get j = some x ∧ x.lo = id ∧ x.al = some b ∧ g.pmE R k j = false
  own : ∀ t p, nx0 ≤ t → E.m t = some p → ∃ j x, listed.getD j false = true ∧ g.it.get j = some x ∧ x.lo ≤ t ∧ t < x.hi
  t1 : ∀ (j : Nat) (o : Oper) d x, listed.getD j false = true → R.ops[j]? = some o → o.dst = some d → g.it.get j = some x → x.v.rel E (a.tmps.getD d undef)
  t2 : ∀ t x, R.tm0.get t = some x → (∀ (j : Nat) (o : Oper), listed.getD j false = true → R.ops[j]? = some o → o.dst ≠ some t) → x.rel E (a.tmps.getD t undef)
  sz : a.tmps.size = a0.tmps.size
  df : a.defers = a0.defers
  ρ : E.ρ = C.ρ

theorem getD_lt {l : Array Bool} {i : Nat} (h : l.getD i false = true) : i < l.size := by
  rcases Nat.lt_or_ge i l.size with h' | h'
  · exact h'
  · simp [Array.getElem?_eq_none h'] at h
theorem listed_set {l : Array Bool} {i j : Nat} (hi : i < l.size) : (l.setIfInBounds i true).getD j false = true ↔ (l.getD j false = true ∨ j = i) := by
  by_cases h : j = i
  · subst h
    simp [hi]
  · simp [Array.getElem?_setIfInBounds_ne (Ne.symm h), h]


theorem Goes.renum {E E' : Env} {h h' : T Blk} {n : Nat} {w w' : World} (g : Goes E h n w E' h' n w') (m : Nat) : Goes E h m w E' h' m w' :=
  { ext := g.ext, out := fun i _ => g.out i (by omega), le := Nat.le_refl _, rel := g.rel, frame := g.frame, ids := fun i b hb => by
      rcases g.ids i b hb with h | h
      · exact .inl h
      · omega
    own := g.own }

section step
variable {C : Ctx} {R : Rg} {g : Sg} {N n : Nat} {E0 : Env} {h0 : T Blk} {nx0 : Nat} {a0 : Act} {w0 : World}

theorem chk_one (hc : chkAll C R g N n nx0 = true) {i : Nat} (hi : i < n) : ∃ o x, R.ops[i]? = some o ∧ g.it.get i = some x ∧ chkPre R i o = true ∧ chkDst R N i o = true ∧ chkTmp R i x = true ∧ (x.q = true → isRd o.op = true → chkRd C R g i o x = true) ∧ chkEf R g n nx0 i x = true ∧ chkAl g n nx0 i x = true := by
  simp only [chkAll, Bool.and_eq_true] at hc
  have h := allB_lt hc.1.1.1.1.1 i hi
  unfold chkOne at h
  split at h
  · rename_i o x ho hx
    simp only [Bool.and_eq_true, Bool.or_eq_true, Bool.not_eq_true'] at h
    refine ⟨o, x, ho, hx, h.1.1.1.1.1, h.1.1.1.1.2, h.1.1.1.2, fun h1 h2 => ?_, h.1.2, h.2⟩
    rcases h.1.1.2 with h3 | h3
    · rw [h1, h2] at h3; cases h3
    · exact h3
  · cases h
theorem chk_rest (hc : chkAll C R g N n nx0 = true) : R.ops.size = n ∧ nx0 ≤ g.nx ∧ g.bs.length = g.es.length + 1 ∧ (∀ (m e : Nat), g.es[m]? = some e → e < n ∧ ∃ x, g.it.get e = some x ∧ x.m = some m) ∧ ∀ j ∈ g.als, j < n ∧ ∃ x, g.it.get j = some x ∧ x.al.isSome = true := by
  simp only [chkAll, Bool.and_eq_true, decide_eq_true_eq] at hc
  obtain ⟨⟨⟨⟨⟨_, h1⟩, h2⟩, h3⟩, h4⟩, h5⟩ := hc
  refine ⟨h1, h2, h3, fun m e he => ?_, fun j hj => ?_⟩
  · have h := allB_lt h4 m (List.getElem?_eq_some_iff.1 he).1
    rw [he] at h
    simp only [Bool.and_eq_true, decide_eq_true_eq] at h
    refine ⟨h.1, ?_⟩
    have h6 := h.2
    split at h6
    · rename_i x hx
      exact ⟨x, hx, by simpa using h6⟩
    · cases h6
  · have h := List.all_eq_true.1 h5 j hj
    simp only [Bool.and_eq_true, decide_eq_true_eq] at h
    refine ⟨h.1, ?_⟩
    have h6 := h.2
    split at h6
    · rename_i x hx
      exact ⟨x, hx, h6⟩
    · cases h6

variable {listed : Array Bool} {E : Env} {a : Act} {w : World} {k : Nat} {D : T Blk}

theorem J.next (hc : chkAll C R g N n nx0 = true) (hN : N ≤ a0.tmps.size) (hJ : J C R g n E0 h0 nx0 a0 w0 listed E a w k D) {i : Nat} {o : Oper} {x : It} (hi : i < n) (ho : R.ops[i]? = some o) (hx : g.it.get i = some x) (hun : listed.getD i false = false)
    (hpm : ∀ t, R.bit i t = true → listed.getD t false = true) {E' : Env} {w' : World} {v' : Value} {k' : Nat} {D' : T Blk} (hg : Goes E D x.lo w E' D' x.hi w') (hrange : x.lo = x.hi ∨ (nx0 ≤ x.lo ∧ x.hi ≤ g.nx)) (hv : x.v.rel E' v')
    (hact : ∀ (m e : Nat), g.es[m]? = some e → ((listed.getD e false = true ∨ e = i) ↔ m < k')) (hk : k' ≤ g.es.length)
    (h1 : ∀ B : T Blk, g.bs[k']? = some B → ∀ id b, B.get id = some b → D'.get id = some b)
    (h2 : ∀ j y b, (listed.getD j false = true ∨ j = i) → g.it.get j = some y → y.al = some b → g.pmE R k' j = false → D'.get y.lo = some b)
    (h3 : ∀ B : T Blk, g.bs[k']? = some B → ∀ id b, D'.get id = some b → B.get id = some b ∨ ∃ j y, (listed.getD j false = true ∨ j = i) ∧ g.it.get j = some y ∧ y.lo = id ∧ y.al = some b ∧ g.pmE R k' j = false) :
    J C R g n E0 h0 nx0 a0 w0 (listed.setIfInBounds i true) E' (a.put o.dst v') w' k' D' := by
  have hsz : i < listed.size := by rw [hJ.size]; exact hi
  have hL : ∀ j, (listed.setIfInBounds i true).getD j false = true ↔ (listed.getD j false = true ∨ j = i) := fun j => listed_set hsz
  have hdst : ∀ (j : Nat) (oj : Oper) d, listed.getD j false = true → R.ops[j]? = some oj → oj.dst = some d → o.dst ≠ some d := fun j oj d hj hoj hd hod => by
    have hjn : j < n := by rw [← hJ.size]; exact getD_lt hj
    obtain ⟨o1, x1, e1, _, _, c1, _⟩ := chk_one hc hi
    obtain ⟨o2, x2, e2, _, _, c2, _⟩ := chk_one hc hjn
    rw [ho] at e1
    obtain rfl := Option.some.inj e1
    rw [hoj] at e2
    obtain rfl := Option.some.inj e2
    unfold chkDst at c1 c2
    rw [hod] at c1
    rw [hd] at c2
    simp only [Bool.and_eq_true, decide_eq_true_eq] at c1 c2
    rw [c1.2] at c2
    have := Option.some.inj c2.2
    subst this
    rw [hun] at hj
    cases hj
  have hput : ∀ d, o.dst ≠ some d → (a.put o.dst v').tmps.getD d undef = a.tmps.getD d undef := fun d hd => by
    unfold Act.put
    split
    · rename_i q hq
      show (a.tmps.setIfInBounds q v').getD d undef = _
      rw [Array.getD_eq_getD_getElem?, Array.getElem?_setIfInBounds_ne (fun e => hd (by rw [hq, e])), ← Array.getD_eq_getD_getElem?]
    · rfl
  exact {
    size := by rw [Array.size_setIfInBounds]; exact hJ.size
    down := fun j t hj ht => by
      rw [hL] at hj ⊢
      rcases hj with hj | rfl
      · exact .inl (hJ.down j t hj ht)
      · exact .inl (hpm t ht)
    act := fun m e he => by rw [hL]; exact hact m e he
    kle := hk
    go := hJ.go.step hg hrange
    s1 := h1
    s2 := fun j y b hj => h2 j y b ((hL j).1 hj)
    s3 := fun B hB id b hb => by
      rcases h3 B hB id b hb with h | ⟨j, y, hj, r⟩
      · exact .inl h
      · exact .inr ⟨j, y, (hL j).2 hj, r⟩
    own := fun t p ht hp => by
      by_cases hin : x.lo ≤ t ∧ t < x.hi
      · exact ⟨i, x, (hL i).2 (.inr rfl), hx, hin⟩
      · rw [hg.out t hin] at hp
        obtain ⟨j, y, hj, r⟩ := hJ.own t p ht hp
        exact ⟨j, y, (hL j).2 (.inl hj), r⟩
    t1 := fun j oj d y hj hoj hd hy => by
      rcases (hL j).1 hj with hj | rfl
      · rw [hput d (hdst j oj d hj hoj hd)]
        exact EV.ext hg.ext (hJ.t1 j oj d y hj hoj hd hy)
      · rw [ho] at hoj
        obtain rfl := Option.some.inj hoj
        rw [hx] at hy
        obtain rfl := Option.some.inj hy
        obtain ⟨o1, x1, e1, _, _, c1, _⟩ := chk_one hc hi
        rw [ho] at e1
        obtain rfl := Option.some.inj e1
        unfold chkDst at c1
        rw [hd] at c1
        simp only [Bool.and_eq_true, decide_eq_true_eq] at c1
        rw [hd]
        show x.v.rel E' ((a.tmps.setIfInBounds d v').getD d undef)
        rw [Array.getD_eq_getD_getElem?, Array.getElem?_setIfInBounds_self_of_lt (by rw [hJ.sz]; exact Nat.lt_of_lt_of_le c1.1 hN)]
        exact hv
    t2 := fun t y hy hno => by
      rw [hput t (hno i o ((hL i).2 (.inr rfl)) ho)]
      exact EV.ext hg.ext (hJ.t2 t y hy fun j oj hj hoj => hno j oj ((hL j).2 (.inl hj)) hoj)
    sz := by
      rw [← hJ.sz]
      unfold Act.put
      split <;> simp
    df := by
      rw [← hJ.df]
      unfold Act.put
      split <;> rfl
    ρ := hg.ext.ρ.trans hJ.ρ }

/-- The temporaries that an operation looks at are what was thought. -/
theorem J.tmps (hc : chkAll C R g N n nx0 = true) (hJ : J C R g n E0 h0 nx0 a0 w0 listed E a w k D) {i : Nat} (hi : i < n) {x : It} (hx : g.it.get i = some x) (hun : listed.getD i false = false) (hpm : ∀ t, R.bit i t = true → listed.getD t false = true) {T : T EV} (hT : mkT R g x.tmp = some T) : RelT E T a.tmps := fun t y hy => by
  obtain ⟨s, hs, hv⟩ := mkT_get hT t y hy
  obtain ⟨o1, x1, _, e1, _, _, ct, _⟩ := chk_one hc hi
  rw [hx] at e1
  obtain rfl := Option.some.inj e1
  have h := List.all_eq_true.1 ct (t, s) hs
  cases s with
  | some j =>
    simp only [Bool.and_eq_true, decide_eq_true_eq] at h
    obtain ⟨z, hz, rfl⟩ := Option.map_eq_some_iff.1 hv
    obtain ⟨oj, hoj, hd⟩ := Option.bind_eq_some_iff.1 h.1
    exact hJ.t1 j oj t z (hpm j h.2) hoj hd hz
  | none =>
    refine hJ.t2 t y hv fun j oj hj hoj hd => ?_
    have hjn : j < n := by rw [← hJ.size]; exact getD_lt hj
    obtain ⟨o2, x2, e2, _, _, c2, _⟩ := chk_one hc hjn
    rw [hoj] at e2
    obtain rfl := Option.some.inj e2
    unfold chkDst at c2
    rw [hd] at c2
    simp only [Bool.and_eq_true, decide_eq_true_eq] at c2
    simp only [c2.2] at h
    simp only [Bool.or_eq_true, decide_eq_true_eq] at h
    rcases h with rfl | h
    · rw [hun] at hj; cases hj
    · have := hJ.down j i hj h
      rw [hun] at this
      cases this
end step

end Go.Proofs.YtoehfadjpficiaaGreat.Ev
