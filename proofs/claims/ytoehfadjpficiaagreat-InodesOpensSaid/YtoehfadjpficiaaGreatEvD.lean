/- The evaluator: a region that draws its order, evaluated once. -/
import Derived.Test.YtoehfadjpficiaaGreatEvC
namespace Go.Proofs.YtoehfadjpficiaaGreat.Ev
open Go Go.RowKit
set_option linter.unusedVariables false
set_option linter.unusedSimpArgs false

/-- What is known of one operation: is it wanted, its value, the numbers that it takes, where its temporaries come from, the block that it makes, the blocks that are handed to it, the how-manieth that acts it is. -/
structure It where
  q : Bool
  v : EV
  lo : Nat
  hi : Nat
  tmp : List (Nat × Option Nat)
  al : Option Blk
  use : List Nat
  m : Option Nat
structure Sg where
  it : T It
  bs : List (T Blk)
  nx : Nat
  es : List Nat
  als : List Nat

/-! ### What must come ahead -/
def pmOf (pm : Nat → Nat) : List Edge → Nat
  | [] => 0
  | e :: l => if Region.binds .any e = true then (2 ^ e.on ||| pm e.on) ||| pmOf pm l else pmOf pm l
theorem pmOf_bit (pm : Nat → Nat) : ∀ (l : List Edge) (t : Nat), (pmOf pm l).testBit t = true → ∃ e ∈ l, Region.binds .any e = true ∧ (t = e.on ∨ (pm e.on).testBit t = true)
  | [], t, h => by simp [pmOf] at h
  | e :: l, t, h => by
    unfold pmOf at h
    split at h
    · rename_i hb
      rw [Nat.testBit_or, Nat.testBit_or, Nat.testBit_two_pow] at h
      simp only [Bool.or_eq_true, decide_eq_true_eq] at h
      rcases h with (h | h) | h
      · exact ⟨e, by simp, hb, .inl h.symm⟩
      · exact ⟨e, by simp, hb, .inr h⟩
      · obtain ⟨e2, h1, h2⟩ := pmOf_bit pm l t h
        exact ⟨e2, by simp [h1], h2⟩
    · obtain ⟨e2, h1, h2⟩ := pmOf_bit pm l t h
      exact ⟨e2, by simp [h1], h2⟩
def pmT : List Oper → Nat → T Nat → T Nat
  | [], _, t => t
  | o :: l, i, t => pmT l (i + 1) (t.set i (pmOf (fun j => (t.get j).getD 0) o.after.toList))
def wrT : List Oper → Nat → T Nat → T Nat
  | [], _, t => t
  | o :: l, i, t => wrT l (i + 1) (match o.dst with | some d => t.set d i | none => t)

structure Rg where
  ops : Array Oper
  pm : T Nat
  wr : T Nat
  tm0 : T EV
def Rg.bit (R : Rg) (i j : Nat) : Bool := ((R.pm.get i).getD 0).testBit j
def Rg.pmA (R : Rg) (i : Nat) : Nat := (R.pm.get i).getD 0
/-- What comes ahead of the k-th that acts, and it. -/
def Sg.pmE (R : Rg) (g : Sg) : Nat → Nat → Bool
  | 0, _ => false
  | k + 1, j => match g.es[k]? with
    | some e => R.bit e j
    | none => false

/-! ### Temporaries and memory of an operation -/
def srcV (R : Rg) (g : Sg) (t : Nat) : Option Nat → Option EV
  | some j => (g.it.get j).map (·.v)
  | none => R.tm0.get t
def mkT (R : Rg) (g : Sg) : List (Nat × Option Nat) → Option (T EV)
  | [] => some .nil
  | (t, s) :: r => (mkT R g r).bind fun T => (srcV R g t s).map fun x => T.set t x
theorem mkT_get {R : Rg} {g : Sg} : ∀ {l : List (Nat × Option Nat)} {T : T EV}, mkT R g l = some T → ∀ t x, T.get t = some x → ∃ s, (t, s) ∈ l ∧ srcV R g t s = some x
  | [], T, h, t, x, hx => by
    obtain rfl := Option.some.inj h
    cases hx
  | (u, s) :: r, T, h, t, x, hx => by
    replace h := Option.bind_eq_some_iff.1 h
    obtain ⟨T2, h1, h⟩ := h
    obtain ⟨y, h2, rfl⟩ := Option.map_eq_some_iff.1 h
    rw [T.get_set] at hx
    by_cases e : t = u
    · subst e
      rw [if_pos rfl] at hx
      obtain rfl := Option.some.inj hx
      exact ⟨s, by simp, h2⟩
    · rw [if_neg e] at hx
      obtain ⟨s2, h3, h4⟩ := mkT_get h1 t x hx
      exact ⟨s2, by simp [h3], h4⟩
def mkH (g : Sg) (B : T Blk) : List Nat → Option (T Blk)
  | [] => some B
  | j :: r => (mkH g B r).bind fun H => (g.it.get j).bind fun x => x.al.map fun b => H.set x.lo b
theorem mkH_get {g : Sg} {B : T Blk} : ∀ {l : List Nat} {H : T Blk}, mkH g B l = some H → (∀ i b, H.get i = some b → B.get i = some b ∨ ∃ j ∈ l, ∃ x, g.it.get j = some x ∧ x.lo = i ∧ x.al = some b) ∧ (∀ i, (B.get i).isSome = true → (H.get i).isSome = true) ∧ ∀ j ∈ l, ∀ x, g.it.get j = some x → (H.get x.lo).isSome = true
  | [], H, h => by
    obtain rfl := Option.some.inj h
    exact ⟨fun i b hb => .inl hb, fun i hi => hi, fun j hj => by simp at hj⟩
  | j :: r, H, h => by
    replace h := Option.bind_eq_some_iff.1 h
    obtain ⟨H2, h1, h⟩ := h
    replace h := Option.bind_eq_some_iff.1 h
    obtain ⟨x, h2, h⟩ := h
    obtain ⟨b, h3, rfl⟩ := Option.map_eq_some_iff.1 h
    obtain ⟨g1, g2, g3⟩ := mkH_get h1
    refine ⟨fun i c hc => ?_, fun i hi => ?_, fun k hk y hy => ?_⟩
    · rw [T.get_set] at hc
      by_cases e : i = x.lo
      · rw [if_pos e] at hc
        obtain rfl := Option.some.inj hc
        exact .inr ⟨j, by simp, x, h2, e.symm, h3⟩
      · rw [if_neg e] at hc
        rcases g1 i c hc with h | ⟨k, hk, y, hy⟩
        · exact .inl h
        · exact .inr ⟨k, by simp [hk], y, hy⟩
    · rw [T.get_set]
      split
      · rfl
      · exact g2 i hi
    · rw [T.get_set]
      split
      · rfl
      · rename_i hne
        rcases List.mem_cons.1 hk with rfl | hk
        · rw [h2] at hy
          obtain rfl := Option.some.inj hy
          exact absurd rfl hne
        · exact g3 k hk y hy

/-- One has grown out of the other. -/
structure Sg.Le (g g' : Sg) : Prop where
  it : ∀ i x, g.it.get i = some x → g'.it.get i = some x
  bs : ∀ (k : Nat) (B : T Blk), g.bs[k]? = some B → g'.bs[k]? = some B
theorem mkT_le {R : Rg} {g g' : Sg} (h : g.Le g') : ∀ {l : List (Nat × Option Nat)} {T : T EV}, mkT R g l = some T → mkT R g' l = some T
  | [], _, hT => hT
  | (t, s) :: r, T, hT => by
    replace hT := Option.bind_eq_some_iff.1 hT
    obtain ⟨T2, h1, hT⟩ := hT
    obtain ⟨y, h2, rfl⟩ := Option.map_eq_some_iff.1 hT
    have h3 : srcV R g' t s = some y := by
      cases s with
      | none => exact h2
      | some j =>
        obtain ⟨x, hx, rfl⟩ := Option.map_eq_some_iff.1 h2
        show (g'.it.get j).map (·.v) = _
        rw [h.it j x hx]
        rfl
    show (mkT R g' r).bind _ = _
    rw [mkT_le h h1]
    show (srcV R g' t s).map _ = _
    rw [h3]
    rfl
theorem mkH_le {g g' : Sg} (h : g.Le g') {B : T Blk} : ∀ {l : List Nat} {H : T Blk}, mkH g B l = some H → mkH g' B l = some H
  | [], _, hH => hH
  | j :: r, H, hH => by
    replace hH := Option.bind_eq_some_iff.1 hH
    obtain ⟨H2, h1, hH⟩ := hH
    replace hH := Option.bind_eq_some_iff.1 hH
    obtain ⟨x, h2, hH⟩ := hH
    show (mkH g' B r).bind _ = _
    rw [mkH_le h h1]
    show (g'.it.get j).bind _ = _
    rw [h.it j x h2]
    exact hH

/-! ### The evaluation, in an order of its own -/
section
variable (C : Ctx) (funs : Nat → Option Func) (call : Call) (R : Rg)

def opTmps (ops : Array Oper) (o : Oper) : List Nat :=
  (o.op.operands.toList.filterMap fun | .tmp t => some t | _ => none) ++ (match o.guard with | some (j, _) => ((ops[j]?).bind (·.dst)).toList | none => [])
def srcOf (i : Nat) : List Nat → List (Nat × Option Nat)
  | [] => []
  | t :: r =>
    match R.wr.get t with
    | none => if (R.tm0.get t).isSome = true then (t, none) :: srcOf i r else srcOf i r
    | some j => if R.bit i j = true then (t, some j) :: srcOf i r else if (j = i ∨ R.bit j i = true) ∧ (R.tm0.get t).isSome = true then (t, none) :: srcOf i r else srcOf i r
def evIt (g : Sg) (i : Nat) : Option Sg :=
  match g.it.get i with
  | some _ => none
  | none => (R.ops[i]?).bind fun o => (mkT R g (srcOf R i (opTmps R.ops o))).bind fun T => (evGuard R.ops T o).bind fun q =>
    if q = false then some { g with it := g.it.set i ⟨false, .tup [], 0, 0, srcOf R i (opTmps R.ops o), none, [], none⟩ }
    else if isRd o.op = true then
      (mkH g ((g.bs[g.es.length]?).getD .nil) (g.als.filter fun j => R.bit i j && !g.pmE R g.es.length j)).bind fun H => (evOp C H 0 T o).bind fun r =>
        some { g with it := g.it.set i ⟨true, r.1, 0, 0, srcOf R i (opTmps R.ops o), none, [], none⟩ }
    else if isAl o.op = true then
      (evOp C .nil g.nx T o).bind fun r => (r.2.1.get g.nx).bind fun b =>
        if r.2.2 = g.nx + 1 then some { g with it := g.it.set i ⟨true, r.1, g.nx, g.nx + 1, srcOf R i (opTmps R.ops o), some b, [], none⟩, nx := g.nx + 1, als := g.als ++ [i] } else none
    else
      (g.bs[g.es.length]?).bind fun B => (mkH g B (g.als.filter fun j => R.bit i j && !g.pmE R g.es.length j)).bind fun H => (evAny C funs call T H g.nx o).bind fun r =>
        if g.bs.length = g.es.length + 1 then
          some { g with it := g.it.set i ⟨true, r.1, g.nx, r.2.2, srcOf R i (opTmps R.ops o), none, g.als.filter fun j => R.bit i j && !g.pmE R g.es.length j, some g.es.length⟩, nx := r.2.2, bs := g.bs ++ [r.2.1], es := g.es ++ [i] }
        else none
def evIts : List Nat → Sg → Option Sg
  | [], g => some g
  | i :: l, g => (evIt C funs call R g i).bind fun g' => evIts l g'

/-- What stands behind the record of an operation. -/
structure Fact (g : Sg) (i : Nat) (x : It) : Prop where
  mk :: (out : ∃ o T, R.ops[i]? = some o ∧ mkT R g x.tmp = some T ∧ evGuard R.ops T o = some x.q ∧
    ((x.q = false ∧ x.v = .tup [] ∧ x.al = none ∧ x.m = none ∧ x.lo = x.hi) ∨
     (x.q = true ∧ isRd o.op = true ∧ x.al = none ∧ x.m = none ∧ x.lo = x.hi) ∨
     (x.q = true ∧ ∃ b h', x.al = some b ∧ x.m = none ∧ evOp C .nil x.lo T o = some (x.v, h', x.lo + 1) ∧ h'.get x.lo = some b ∧ x.hi = x.lo + 1) ∨
     (x.q = true ∧ ∃ m B B' H, x.al = none ∧ x.m = some m ∧ g.bs[m]? = some B ∧ g.bs[m + 1]? = some B' ∧ mkH g B x.use = some H ∧ evAny C funs call T H x.lo o = some (x.v, B', x.hi))))
def Facts (g : Sg) : Prop := ∀ i x, g.it.get i = some x → Fact C funs call R g i x
end

theorem Fact.le {C : Ctx} {funs : Nat → Option Func} {call : Call} {R : Rg} {g g' : Sg} (h : g.Le g') {i : Nat} {x : It} (hf : Fact C funs call R g i x) : Fact C funs call R g' i x := by
  obtain ⟨o, T, h1, h2, h3, h4⟩ := hf.out
  refine ⟨⟨o, T, h1, mkT_le h h2, h3, ?_⟩⟩
  rcases h4 with h4 | h4 | h4 | ⟨hq, m, B, B', H, h5, h6, h7, h8, h9, h10⟩
  · exact .inl h4
  · exact .inr (.inl h4)
  · exact .inr (.inr (.inl h4))
  · exact .inr (.inr (.inr ⟨hq, m, B, B', H, h5, h6, h.bs _ _ h7, h.bs _ _ h8, mkH_le h h9, h10⟩))

theorem le_set {g : Sg} {i : Nat} {x : It} {bs : List (T Blk)} {nx : Nat} {es als : List Nat} (hi : g.it.get i = none) (hb : ∀ (k : Nat) (B : T Blk), g.bs[k]? = some B → bs[k]? = some B) : g.Le ⟨g.it.set i x, bs, nx, es, als⟩ :=
  ⟨fun j y hy => by
    show (g.it.set i x).get j = some y
    rw [T.get_set, if_neg (fun e => by subst e; rw [hi] at hy; cases hy)]
    exact hy, hb⟩
theorem facts_set {C : Ctx} {funs : Nat → Option Func} {call : Call} {R : Rg} {g g' : Sg} {i : Nat} {x : It} (hg : Facts C funs call R g) (hle : g.Le g') (hit : g'.it = g.it.set i x) (hx : Fact C funs call R g' i x) : Facts C funs call R g' := fun j y hy => by
  rw [hit, T.get_set] at hy
  by_cases e : j = i
  · subst e
    rw [if_pos rfl] at hy
    obtain rfl := Option.some.inj hy
    exact hx
  · rw [if_neg e] at hy
    exact (hg j y hy).le hle

theorem evIt_facts {C : Ctx} {funs : Nat → Option Func} {call : Call} {R : Rg} {g g' : Sg} {i : Nat} (he : evIt C funs call R g i = some g') (hg : Facts C funs call R g) : Facts C funs call R g' := by
  unfold evIt at he
  split at he
  · cases he
  rename_i hn
  replace he := Option.bind_eq_some_iff.1 he
  obtain ⟨o, ho, he⟩ := he
  replace he := Option.bind_eq_some_iff.1 he
  obtain ⟨T, hT, he⟩ := he
  replace he := Option.bind_eq_some_iff.1 he
  obtain ⟨q, hq, he⟩ := he
  split at he
  · rename_i hqf
    subst hqf
    obtain rfl := Option.some.inj he
    have hle : g.Le { g with it := g.it.set i ⟨false, .tup [], 0, 0, srcOf R i (opTmps R.ops o), none, [], none⟩ } := le_set hn (fun k B h => h)
    exact facts_set hg hle rfl ⟨⟨o, T, ho, mkT_le hle hT, hq, .inl ⟨rfl, rfl, rfl, rfl, rfl⟩⟩⟩
  · rename_i hqf
    obtain rfl : q = true := by simpa using hqf
    split at he
    · rename_i hrd
      replace he := Option.bind_eq_some_iff.1 he
      obtain ⟨H, hH, he⟩ := he
      replace he := Option.bind_eq_some_iff.1 he
      obtain ⟨r, hr, he⟩ := he
      obtain rfl := Option.some.inj he
      have hle : g.Le { g with it := g.it.set i ⟨true, r.1, 0, 0, srcOf R i (opTmps R.ops o), none, [], none⟩ } := le_set hn (fun k B h => h)
      exact facts_set hg hle rfl ⟨⟨o, T, ho, mkT_le hle hT, hq, .inr (.inl ⟨rfl, hrd, rfl, rfl, rfl⟩)⟩⟩
    · split at he
      · replace he := Option.bind_eq_some_iff.1 he
        obtain ⟨r, hr, he⟩ := he
        replace he := Option.bind_eq_some_iff.1 he
        obtain ⟨b, hb, he⟩ := he
        split at he
        · rename_i hnx
          obtain rfl := Option.some.inj he
          have hle : g.Le { g with it := g.it.set i ⟨true, r.1, g.nx, g.nx + 1, srcOf R i (opTmps R.ops o), some b, [], none⟩, nx := g.nx + 1, als := g.als ++ [i] } := le_set hn (fun k B h => h)
          refine facts_set hg hle rfl ⟨⟨o, T, ho, mkT_le hle hT, hq, .inr (.inr (.inl ⟨rfl, b, r.2.1, rfl, rfl, ?_, hb, rfl⟩))⟩⟩
          rw [hr]
          show some r = some (r.1, r.2.1, g.nx + 1)
          rw [← hnx]
        · cases he
      · replace he := Option.bind_eq_some_iff.1 he
        obtain ⟨B, hB, he⟩ := he
        replace he := Option.bind_eq_some_iff.1 he
        obtain ⟨H, hH, he⟩ := he
        replace he := Option.bind_eq_some_iff.1 he
        obtain ⟨r, hr, he⟩ := he
        split at he
        · rename_i hlen
          obtain rfl := Option.some.inj he
          have hle : g.Le { g with it := g.it.set i ⟨true, r.1, g.nx, r.2.2, srcOf R i (opTmps R.ops o), none, g.als.filter fun j => R.bit i j && !g.pmE R g.es.length j, some g.es.length⟩, nx := r.2.2, bs := g.bs ++ [r.2.1], es := g.es ++ [i] } := le_set hn (fun k B h => by rw [List.getElem?_append_left (List.getElem?_eq_some_iff.1 h).1]; exact h)
          refine facts_set hg hle rfl ⟨⟨o, T, ho, mkT_le hle hT, hq, .inr (.inr (.inr ⟨rfl, g.es.length, B, r.2.1, H, rfl, rfl, hle.bs _ _ hB, ?_, mkH_le hle hH, hr⟩))⟩⟩
          show (g.bs ++ [r.2.1])[g.es.length + 1]? = some r.2.1
          rw [← hlen, List.getElem?_append_right (Nat.le_refl _), Nat.sub_self]
          rfl
        · cases he
theorem evIts_facts {C : Ctx} {funs : Nat → Option Func} {call : Call} {R : Rg} : ∀ {l : List Nat} {g g' : Sg}, evIts C funs call R l g = some g' → Facts C funs call R g → Facts C funs call R g'
  | [], g, g', h, hg => by
    obtain rfl := Option.some.inj h
    exact hg
  | i :: l, g, g', h, hg => by
    replace h := Option.bind_eq_some_iff.1 h
    obtain ⟨g1, h1, h2⟩ := h
    exact evIts_facts h2 (evIt_facts h1 hg)

/-- An order: what acts as late as may be. -/
def pickOp (R : Rg) (done : Nat) (n : Nat) : Option Nat :=
  let rdy := (List.range n).filter fun i => !done.testBit i && (R.pmA i &&& done == R.pmA i)
  match rdy.find? (fun i => match R.ops[i]? with | some o => isRd o.op || isAl o.op | none => false) with
  | some i => some i
  | none => rdy.head?
def order (R : Rg) (n : Nat) : Nat → Nat → List Nat
  | 0, _ => []
  | f + 1, done => match pickOp R done n with
    | some i => i :: order R n f (done ||| 2 ^ i)
    | none => []

end Go.Proofs.YtoehfadjpficiaaGreat.Ev
