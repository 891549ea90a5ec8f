/- An evaluator of the model's programs over a memory of its own: values, memory, and what they stand for. -/
import Derived.Calls
import Derived.LoopN
import Derived.Orders
import Derived.Below
import Derived.Laws.Rows
import Derived.Laws.CopyRow
import Derived.KernelRfl
namespace Go.Proofs.YtoehfadjpficiaaGreat.Ev
open Go Go.RowKit
set_option linter.unusedVariables false

/-! ### A map of numbers -/
inductive T (α : Type) where
  | nil
  | node (v : Option α) (l r : T α)
  deriving DecidableEq

namespace T
variable {α : Type}
def get : T α → Nat → Option α
  | nil, _ => none
  | node v l r, i => if i = 0 then v else if i % 2 = 1 then l.get (i / 2) else r.get (i / 2 - 1)
def put : Nat → T α → Nat → Option α → T α
  | 0, t, _, _ => t
  | f + 1, nil, i, x => if i = 0 then node x nil nil else if i % 2 = 1 then node none (put f nil (i / 2) x) nil else node none nil (put f nil (i / 2 - 1) x)
  | f + 1, node v l r, i, x => if i = 0 then node x l r else if i % 2 = 1 then node v (put f l (i / 2) x) r else node v l (put f r (i / 2 - 1) x)
theorem get_put : ∀ (f : Nat) (t : T α) (i j : Nat) (x : Option α), i < f → (put f t i x).get j = if j = i then x else t.get j
  | 0, _, _, _, _, h => by omega
  | f + 1, nil, i, j, x, h => by
    unfold put
    by_cases h0 : i = 0
    · rw [if_pos h0]; subst h0
      unfold get
      by_cases hj : j = 0
      · simp [hj]
      · simp only [if_neg hj]
        split <;> rfl
    · rw [if_neg h0]
      by_cases h1 : i % 2 = 1
      · rw [if_pos h1]
        simp only [get]
        by_cases hj : j = 0
        · rw [if_pos hj, if_neg (by omega)]
        · rw [if_neg hj]
          by_cases hj1 : j % 2 = 1
          · rw [if_pos hj1, get_put f nil _ _ x (by omega)]
            by_cases he : j = i
            · rw [if_pos he, if_pos (by omega)]
            · rw [if_neg he, if_neg (by omega)]; rfl
          · rw [if_neg hj1, if_neg (by intro e; subst e; exact hj1 h1)]
      · rw [if_neg h1]
        simp only [get]
        by_cases hj : j = 0
        · rw [if_pos hj, if_neg (by omega)]
        · rw [if_neg hj]
          by_cases hj1 : j % 2 = 1
          · rw [if_pos hj1, if_neg (by intro e; subst e; exact h1 hj1)]
          · rw [if_neg hj1, get_put f nil _ _ x (by omega)]
            by_cases he : j = i
            · rw [if_pos he, if_pos (by omega)]
            · rw [if_neg he, if_neg (by omega)]; rfl
  | f + 1, node v l r, i, j, x, h => by
    unfold put
    by_cases h0 : i = 0
    · rw [if_pos h0]; subst h0
      unfold get
      by_cases hj : j = 0
      · simp [hj]
      · simp only [if_neg hj]
    · rw [if_neg h0]
      by_cases h1 : i % 2 = 1
      · rw [if_pos h1]
        simp only [get]
        by_cases hj : j = 0
        · rw [if_pos hj, if_neg (by omega), if_pos hj]
        · rw [if_neg hj, if_neg hj]
          by_cases hj1 : j % 2 = 1
          · rw [if_pos hj1, if_pos hj1, get_put f l _ _ x (by omega)]
            by_cases he : j = i
            · rw [if_pos he, if_pos (by omega)]
            · rw [if_neg he, if_neg (by omega)]
          · rw [if_neg hj1, if_neg hj1, if_neg (by intro e; subst e; exact hj1 h1)]
      · rw [if_neg h1]
        simp only [get]
        by_cases hj : j = 0
        · rw [if_pos hj, if_neg (by omega), if_pos hj]
        · rw [if_neg hj, if_neg hj]
          by_cases hj1 : j % 2 = 1
          · rw [if_pos hj1, if_pos hj1, if_neg (by intro e; subst e; exact h1 hj1)]
          · rw [if_neg hj1, if_neg hj1, get_put f r _ _ x (by omega)]
            by_cases he : j = i
            · rw [if_pos he, if_pos (by omega)]
            · rw [if_neg he, if_neg (by omega)]
def set (t : T α) (i : Nat) (x : α) : T α := put (i + 1) t i (some x)
def del (t : T α) (i : Nat) : T α := put (i + 1) t i none
theorem get_set (t : T α) (i j : Nat) (x : α) : (t.set i x).get j = if j = i then some x else t.get j := get_put _ _ _ _ _ (Nat.lt_succ_self _)
theorem get_del (t : T α) (i j : Nat) : (t.del i).get j = if j = i then none else t.get j := get_put _ _ _ _ _ (Nat.lt_succ_self _)
def ofList : List α → Nat → T α → T α
  | [], _, t => t
  | x :: xs, i, t => ofList xs (i + 1) (t.set i x)
theorem get_ofList : ∀ (xs : List α) (i : Nat) (t : T α) (j : Nat), (ofList xs i t).get j = if i ≤ j ∧ j < i + xs.length then xs[j - i]? else t.get j
  | [], i, t, j => by simp [ofList]; omega
  | x :: xs, i, t, j => by
    rw [ofList, get_ofList xs (i + 1) _ j, get_set, List.length_cons]
    by_cases hj : j = i
    · subst hj
      rw [if_neg (by omega), if_pos rfl, if_pos (by omega), Nat.sub_self]
      rfl
    · by_cases h : i + 1 ≤ j ∧ j < i + 1 + xs.length
      · rw [if_pos h, if_pos (by omega), show j - i = (j - (i + 1)) + 1 by omega, List.getElem?_cons_succ]
      · rw [if_neg h, if_neg hj, if_neg (by omega)]
end T

/-! ### Values -/
/-- Where a block of the evaluator's lies in the world: the world's block, the offset of its first cell, and the capacity of a slice whose capacity is the model's own choice. -/
structure Pl where
  blk : Nat
  dl : Nat
  cap : Nat
structure Env where
  m : Nat → Option Pl
  ρ : Nat → Value

/-- One cell's value. -/
inductive SV where
  | bool (b : Bool)
  | int (k : IntKind) (n : Int)
  | str (s : ByteArray)
  | nilp
  | ptr (i o : Nat)
  | nils
  | sl (i o len : Nat) (cap : Option Nat) (k : Nat)
  | slz (cap : Option Nat)
  | nilm
  | map (i : Nat)
  | func (f : FuncId) (cs : List (Nat × Nat))
  | nilf
  | nili
  | var (i : Nat)
  deriving DecidableEq
/-- A value: one cell, or a struct's or an array's cells. -/
inductive AV where
  | s (v : SV)
  | agg (cs : List SV)
  deriving DecidableEq
inductive EV where
  | a (v : AV)
  | tup (l : List AV)
  deriving DecidableEq

def Rels {α β : Type} (R : α → β → Prop) : List α → List β → Prop
  | [], [] => True
  | a :: as, b :: bs => R a b ∧ Rels R as bs
  | _, _ => False

section rels
variable {α β : Type} {R S : α → β → Prop}
theorem Rels.imp (h : ∀ a b, R a b → S a b) : ∀ {as : List α} {bs : List β}, Rels R as bs → Rels S as bs
  | [], [], _ => trivial
  | a :: as, b :: bs, hr => ⟨h _ _ hr.1, Rels.imp h hr.2⟩
  | [], _ :: _, hr => hr.elim
  | _ :: _, [], hr => hr.elim
theorem Rels.length : ∀ {as : List α} {bs : List β}, Rels R as bs → bs.length = as.length
  | [], [], _ => rfl
  | a :: as, b :: bs, hr => by rw [List.length_cons, List.length_cons, Rels.length hr.2]
  | [], _ :: _, hr => hr.elim
  | _ :: _, [], hr => hr.elim
theorem Rels.get : ∀ {as : List α} {bs : List β}, Rels R as bs → ∀ (i : Nat) (a : α), as[i]? = some a → ∃ b, bs[i]? = some b ∧ R a b
  | [], [], _, i, a, h => by simp at h
  | a :: as, b :: bs, hr, 0, x, h => by simp at h; subst h; exact ⟨b, rfl, hr.1⟩
  | a :: as, b :: bs, hr, i + 1, x, h => by
    obtain ⟨y, h1, h2⟩ := Rels.get hr.2 i x (by simpa using h)
    exact ⟨y, by simpa using h1, h2⟩
  | [], _ :: _, hr, _, _, _ => hr.elim
  | _ :: _, [], hr, _, _, _ => hr.elim
theorem Rels.app : ∀ {as as2 : List α} {bs bs2 : List β}, Rels R as bs → Rels R as2 bs2 → Rels R (as ++ as2) (bs ++ bs2)
  | [], _, [], _, _, h2 => h2
  | a :: as, _, b :: bs, _, h, h2 => ⟨h.1, Rels.app h.2 h2⟩
  | [], _, _ :: _, _, h, _ => h.elim
  | _ :: _, _, [], _, h, _ => h.elim
theorem Rels.take : ∀ (n : Nat) {as : List α} {bs : List β}, Rels R as bs → Rels R (as.take n) (bs.take n)
  | 0, _, _, _ => by simp [Rels]
  | n + 1, [], [], _ => by simp [Rels]
  | n + 1, a :: as, b :: bs, h => ⟨h.1, Rels.take n h.2⟩
  | _ + 1, [], _ :: _, h => h.elim
  | _ + 1, _ :: _, [], h => h.elim
theorem Rels.drop : ∀ (n : Nat) {as : List α} {bs : List β}, Rels R as bs → Rels R (as.drop n) (bs.drop n)
  | 0, _, _, h => h
  | n + 1, [], [], _ => by simp [Rels]
  | n + 1, a :: as, b :: bs, h => Rels.drop n h.2
  | _ + 1, [], _ :: _, h => h.elim
  | _ + 1, _ :: _, [], h => h.elim
theorem Rels.of_get : ∀ {as : List α} {bs : List β}, bs.length = as.length → (∀ (i : Nat) (a : α) (b : β), as[i]? = some a → bs[i]? = some b → R a b) → Rels R as bs
  | [], [], _, _ => trivial
  | a :: as, b :: bs, hl, h => ⟨h 0 a b rfl rfl, Rels.of_get (by simpa using hl) fun i x y hx hy => h (i + 1) x y (by simpa using hx) (by simpa using hy)⟩
  | [], _ :: _, hl, _ => by simp at hl
  | _ :: _, [], hl, _ => by simp at hl
end rels

def relP (E : Env) (x : Nat × Nat) (v : Value) : Prop := ∃ p, E.m x.1 = some p ∧ v = .pointer (some ⟨p.blk, p.dl + x.2, none⟩)

def SV.rel (E : Env) : SV → Value → Prop
  | .bool b, v => v = .bool b
  | .int k n, v => v = .int k n
  | .str s, v => v = .string s
  | .nilp, v => v = .pointer none
  | .ptr i o, v => ∃ p, E.m i = some p ∧ v = .pointer (some ⟨p.blk, p.dl + o, none⟩)
  | .nils, v => v = .slice none 0 0
  | .sl i o l (some c) _, v => ∃ p, E.m i = some p ∧ l ≤ c ∧ v = .slice (some ⟨p.blk, p.dl + o, none⟩) l c
  | .sl i o l none k, v => ∃ p, E.m i = some p ∧ l + k ≤ p.cap ∧ v = .slice (some ⟨p.blk, p.dl + o, none⟩) l (p.cap - k)
  | .slz (some c), v => ∃ a, v = .slice (some a) 0 c
  | .slz none, v => ∃ a c, v = .slice (some a) 0 c
  | .nilm, v => v = .map none
  | .map i, v => ∃ p, E.m i = some p ∧ v = .map (some p.blk)
  | .func f cs, v => ∃ vs : List Value, v = .func (.func f) #[] vs.toArray ∧ Rels (relP E) cs vs
  | .nilf, v => v = .nilFunc
  | .nili, v => v = .nilIface
  | .var i, v => v = E.ρ i ∧ v.oneCell' = true
def AV.rel (E : Env) : AV → Value → Prop
  | .s x, v => x.rel E v
  | .agg cs, v => ∃ vs : List Value, v = .agg vs.toArray ∧ Rels (SV.rel E) cs vs
def EV.rel (E : Env) : EV → Value → Prop
  | .a x, v => x.rel E v
  | .tup l, v => ∃ vs : List Value, v = .tuple vs.toArray ∧ Rels (AV.rel E) l vs

/-- The environment has grown. -/
structure Ext (E E' : Env) : Prop where
  ρ : E'.ρ = E.ρ
  m : ∀ i p, E.m i = some p → E'.m i = some p
theorem Ext.refl (E : Env) : Ext E E := ⟨rfl, fun _ _ h => h⟩
theorem Ext.trans {A B C : Env} (h : Ext A B) (k : Ext B C) : Ext A C := ⟨k.ρ.trans h.ρ, fun i p hp => k.m i p (h.m i p hp)⟩

section ext
variable {E E' : Env} (h : Ext E E')
include h
theorem relP.ext {x : Nat × Nat} {v : Value} (hx : relP E x v) : relP E' x v := by
  obtain ⟨p, hp, rfl⟩ := hx
  exact ⟨p, h.m _ _ hp, rfl⟩
theorem SV.ext : ∀ {x : SV} {v : Value}, x.rel E v → x.rel E' v
  | .bool _, _, hx | .int _ _, _, hx | .str _, _, hx | .nilp, _, hx | .nils, _, hx | .slz (some _), _, hx | .slz none, _, hx | .nilm, _, hx | .nilf, _, hx | .nili, _, hx => hx
  | .ptr _ _, _, ⟨p, hp, e⟩ => ⟨p, h.m _ _ hp, e⟩
  | .sl _ _ _ (some _) _, _, ⟨p, hp, e⟩ => ⟨p, h.m _ _ hp, e⟩
  | .sl _ _ _ none _, _, ⟨p, hp, e⟩ => ⟨p, h.m _ _ hp, e⟩
  | .map _, _, ⟨p, hp, e⟩ => ⟨p, h.m _ _ hp, e⟩
  | .func _ _, _, ⟨vs, e, hr⟩ => ⟨vs, e, Rels.imp (fun _ _ => relP.ext h) hr⟩
  | .var i, _, hx => by
    unfold SV.rel at hx ⊢
    rw [h.ρ]
    exact hx
theorem AV.ext : ∀ {x : AV} {v : Value}, x.rel E v → x.rel E' v
  | .s _, _, hx => SV.ext h hx
  | .agg _, _, ⟨vs, e, hr⟩ => ⟨vs, e, Rels.imp (fun _ _ => SV.ext h) hr⟩
theorem EV.ext : ∀ {x : EV} {v : Value}, x.rel E v → x.rel E' v
  | .a _, _, hx => AV.ext h hx
  | .tup _, _, ⟨vs, e, hr⟩ => ⟨vs, e, Rels.imp (fun _ _ => AV.ext h) hr⟩
end ext

theorem SV.oneCell {E : Env} : ∀ {x : SV} {v : Value}, x.rel E v → v.oneCell' = true
  | .bool _, _, rfl | .int _ _, _, rfl | .str _, _, rfl | .nilp, _, rfl | .nils, _, rfl | .nilm, _, rfl | .nilf, _, rfl | .nili, _, rfl => rfl
  | .ptr _ _, _, ⟨_, _, rfl⟩ => rfl
  | .sl _ _ _ (some _) _, _, ⟨_, _, _, rfl⟩ => rfl
  | .sl _ _ _ none _, _, ⟨_, _, _, rfl⟩ => rfl
  | .slz (some _), _, ⟨_, rfl⟩ => rfl
  | .slz none, _, ⟨_, _, rfl⟩ => rfl
  | .map _, _, ⟨_, _, rfl⟩ => rfl
  | .func _ _, _, ⟨_, rfl, _⟩ => rfl
  | .var _, _, h => h.2
theorem cells_one {v : Value} (h : v.oneCell' = true) : v.cells = #[v] := by
  cases v <;> first | rfl | (simp [Value.oneCell'] at h)

def AV.cells : AV → List SV
  | .s x => [x]
  | .agg cs => cs
theorem AV.cells_rel {E : Env} : ∀ {x : AV} {v : Value}, x.rel E v → Rels (SV.rel E) x.cells v.cells.toList
  | .s _, v, h => by
    rw [cells_one (SV.oneCell h)]
    exact ⟨h, trivial⟩
  | .agg _, _, ⟨vs, rfl, h⟩ => h

/-! ### Memory -/
structure Cells where
  n : Nat
  d : SV
  t : T SV
def Cells.get (c : Cells) (j : Nat) : SV := (c.t.get j).getD c.d
def Cells.set (c : Cells) (j : Nat) (x : SV) : Cells := { c with t := c.t.set j x }
theorem Cells.get_set (c : Cells) (i j : Nat) (x : SV) : (c.set i x).get j = if j = i then x else c.get j := by
  unfold Cells.get Cells.set
  rw [T.get_set]
  split <;> rfl
/-- The list of the cells from o on. -/
def Cells.list (c : Cells) (o : Nat) : Nat → List SV
  | 0 => []
  | n + 1 => c.get o :: c.list (o + 1) n
def Cells.puts (c : Cells) (o : Nat) : List SV → Cells
  | [] => c
  | x :: xs => (c.set o x).puts (o + 1) xs
def SV.same : SV → SV → Bool
  | .bool a, .bool b => a == b
  | .int k a, .int q b => k == q && a == b
  | .nilp, .nilp | .nils, .nils | .nilm, .nilm | .nilf, .nilf | .nili, .nili => true
  | _, _ => false
theorem SV.same_eq {a b : SV} (h : SV.same a b = true) : a = b := by
  unfold SV.same at h
  split at h <;> first | rfl | (simp only [Bool.and_eq_true, beq_iff_eq] at h; obtain ⟨rfl, rfl⟩ := h; rfl) | (rw [beq_iff_eq] at h; subst h; rfl) | cases h
def Cells.ofList (l : List SV) : Cells :=
  match l with
  | [] => ⟨0, .nilp, .nil⟩
  | z :: r => if (Nat.ble 63 r.length && r.all (SV.same z)) = true then ⟨r.length + 1, z, .nil⟩ else ⟨r.length + 1, .nilp, T.ofList (z :: r) 0 .nil⟩
theorem Cells.ofList_n (l : List SV) : (Cells.ofList l).n = l.length := by
  unfold Cells.ofList
  split
  · rfl
  · split <;> rfl
theorem Cells.get_ofList (l : List SV) (j : Nat) (x : SV) (h : l[j]? = some x) : (Cells.ofList l).get j = x := by
  have hj := (List.getElem?_eq_some_iff.1 h).1
  unfold Cells.ofList
  split
  · simp at hj
  · rename_i z r
    split
    · rename_i ha
      replace ha := (Bool.and_eq_true _ _ ▸ ha : _ ∧ _).2
      unfold Cells.get
      show (none : Option SV).getD z = x
      cases j with
      | zero => simpa using h
      | succ j =>
        have hm : x ∈ r := List.mem_of_getElem? (by simpa using h)
        exact SV.same_eq (List.all_eq_true.1 ha x hm)
    · unfold Cells.get
      rw [T.get_ofList, if_pos (by omega), Nat.sub_zero, h]
      rfl
theorem Cells.list_length (c : Cells) : ∀ (n o : Nat), (c.list o n).length = n
  | 0, _ => rfl
  | n + 1, o => by rw [Cells.list, List.length_cons, Cells.list_length c n]
theorem Cells.list_get (c : Cells) : ∀ (n o i : Nat), i < n → (c.list o n)[i]? = some (c.get (o + i))
  | 0, _, _, h => by omega
  | n + 1, o, 0, _ => rfl
  | n + 1, o, i + 1, h => by
    rw [Cells.list, List.getElem?_cons_succ, Cells.list_get c n (o + 1) i (by omega)]
    congr 2
    omega
theorem Cells.puts_n : ∀ (xs : List SV) (c : Cells) (o : Nat), (c.puts o xs).n = c.n
  | [], _, _ => rfl
  | x :: xs, c, o => by rw [Cells.puts, Cells.puts_n xs]; rfl
theorem Cells.get_puts : ∀ (xs : List SV) (c : Cells) (o j : Nat), (c.puts o xs).get j = if h : o ≤ j ∧ j < o + xs.length then xs[j - o]'(by omega) else c.get j
  | [], c, o, j => by
    rw [dif_neg (by simp)]
    rfl
  | x :: xs, c, o, j => by
    rw [Cells.puts, Cells.get_puts xs, Cells.get_set]
    by_cases h : o + 1 ≤ j ∧ j < o + 1 + xs.length
    · rw [dif_pos h, dif_pos (by simp; omega)]
      have e : j - o = (j - (o + 1)) + 1 := by omega
      simp only [e, List.getElem_cons_succ]
    · rw [dif_neg h]
      by_cases hj : j = o
      · subst hj
        rw [if_pos rfl, dif_pos (by simp)]
        first | rfl | simp
      · rw [if_neg hj, dif_neg (by simp; omega)]

/-- A block: cells (opn: of a slice whose capacity is open, with its elements' size), a map, or a walk over a map. -/
inductive Blk where
  | cells (t : TypeId) (opn : Option Nat) (c : Cells) (fz : Bool)
  | mp (es : List (AV × AV × Nat)) (clock : Nat)
  | it (m : Option Nat) (since : Nat) (seen : List Nat) (last : Nat)

structure CellsRel (E : Env) (p : Pl) (opn : Option Nat) (c : Cells) (fz : Bool) (cs : Array Value) (lo hi : Nat) : Prop where
  fz : fz = false → lo = 0 ∧ hi = 0
  free : ∀ j, j < cs.size → ¬ (lo ≤ j ∧ j < hi)
  room : ∀ sz, opn = some sz → p.dl + p.cap * sz ≤ cs.size
  fits : p.dl + c.n ≤ cs.size
  dl : opn = none → p.dl = 0
  get : ∀ j, j < c.n → ∃ v, cs[p.dl + j]? = some v ∧ (c.get j).rel E v
/-- The stamp of an entry has a number of its own, whose place tells the stamp. -/
def stampRel (E : Env) (i : Nat) (s : Nat) : Prop := ∃ p, E.m i = some p ∧ s = p.dl
def entryRel (E : Env) (x : AV × AV × Nat) (e : MapEntry) : Prop := x.1.rel E e.key ∧ x.2.1.rel E e.val ∧ stampRel E x.2.2 e.born
/-- A map's entries, in an order of the evaluator's own. -/
def mpRel (E : Env) (es : List (AV × AV × Nat)) (clock : Nat) (ents : Array MapEntry) : Prop :=
  ∃ l : List MapEntry, l.Perm ents.toList ∧ Rels (entryRel E) es l ∧ (l.map (·.born)).Nodup ∧ ∀ e ∈ l, e.born < clock
def itRel (E : Env) : Option Nat → Option Nat → Prop
  | none, m => m = none
  | some i, m => ∃ q, E.m i = some q ∧ m = some q.blk
def Blk.rel (E : Env) (p : Pl) : Blk → Obj → Prop
  | .cells t opn c fz, o => ∃ cs lo hi, o = .cells cs t (lo, hi) ∧ CellsRel E p opn c fz cs lo hi
  | .mp es clock, o => ∃ ents : Array MapEntry, o = .map ents clock ∧ mpRel E es clock ents
  | .it m since seen last, o => p.dl = 0 ∧ ∃ mb st, o = .mapIter mb since st last ∧ itRel E m mb ∧ Rels (stampRel E) seen st.toList
theorem stampRel.ext {E E' : Env} (h : Ext E E') {i s : Nat} : stampRel E i s → stampRel E' i s
  | ⟨p, hp, e⟩ => ⟨p, h.m _ _ hp, e⟩
theorem entryRel.ext {E E' : Env} (h : Ext E E') {x : AV × AV × Nat} {e : MapEntry} (hx : entryRel E x e) : entryRel E' x e := ⟨AV.ext h hx.1, AV.ext h hx.2.1, hx.2.2.ext h⟩
theorem mpRel.ext {E E' : Env} (h : Ext E E') {es : List (AV × AV × Nat)} {clock : Nat} {ents : Array MapEntry} : mpRel E es clock ents → mpRel E' es clock ents
  | ⟨l, h1, h2, h3⟩ => ⟨l, h1, Rels.imp (fun _ _ => entryRel.ext h) h2, h3⟩
theorem Blk.ext {E E' : Env} (h : Ext E E') {p : Pl} : ∀ {b : Blk} {o : Obj}, b.rel E p o → b.rel E' p o
  | .cells _ _ _ _, _, ⟨cs, lo, hi, e, hr⟩ => ⟨cs, lo, hi, e, ⟨hr.fz, hr.free, hr.room, hr.fits, hr.dl, fun j hj => by
      obtain ⟨v, h1, h2⟩ := hr.get j hj
      exact ⟨v, h1, SV.ext h h2⟩⟩⟩
  | .mp _ _, _, ⟨ents, e, hr⟩ => ⟨ents, e, mpRel.ext h hr⟩
  | .it none _ _ _, _, ⟨hd, mb, st, e, hm, hs⟩ => ⟨hd, mb, st, e, hm, Rels.imp (fun _ _ => stampRel.ext h) hs⟩
  | .it (some _) _ _ _, _, ⟨hd, mb, st, e, ⟨q, hq, hm⟩, hs⟩ => ⟨hd, mb, st, e, ⟨q, h.m _ _ hq, hm⟩, Rels.imp (fun _ _ => stampRel.ext h) hs⟩

/-- The memory h stands for what lies in the world w. -/
structure HRel (E : Env) (h : T Blk) (w : World) : Prop where
  at_ : ∀ i b, h.get i = some b → ∃ p o, E.m i = some p ∧ w.heap[p.blk]? = some o ∧ b.rel E p o
  inj : ∀ i j b c p q, h.get i = some b → h.get j = some c → E.m i = some p → E.m j = some q → p.blk = q.blk → i = j

/-- The blocks that the memory h does not stand for are as they were. -/
structure Frame (E : Env) (h : T Blk) (w w' : World) : Prop where
  os : w'.os = w.os
  tape : w'.tape = w.tape
  output : w'.output = w.output
  size : w.heap.size ≤ w'.heap.size
  block : ∀ k, k < w.heap.size → (∀ i b p, h.get i = some b → E.m i = some p → p.blk ≠ k) → w'.heap[k]? = w.heap[k]?

end Go.Proofs.YtoehfadjpficiaaGreat.Ev
