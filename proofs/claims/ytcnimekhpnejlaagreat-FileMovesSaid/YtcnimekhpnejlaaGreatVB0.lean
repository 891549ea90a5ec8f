/- Texts of this seat joined into one: P0, St, EvX, Ev0, Ev1, Ev2, Ev3. -/
import Derived.Calls
import Derived.KernelRfl
import Derived.LoopN
import Derived.Orders
import Derived.Below
import Derived.Laws.Rows
import Derived.Laws.CopyRow
import Derived.Laws.StructEq
import Derived.ChangeKeysEq

/- Bytes of files and their leaves. -/
namespace Go.Proofs.YtcnimekhpnejlaaGreat
set_option linter.unusedVariables false

/-- How many leaves so many bytes take. -/
def leavesN (n : Nat) : Nat := (n + 255) / 256
def zeros (n : Nat) : List UInt8 := List.replicate n 0
/-- A leaf of bytes. -/
def leafOf (bs : List UInt8) (p : Nat) : List UInt8 := (bs.drop (256 * p)).take 256 ++ zeros (256 - (bs.length - 256 * p))
/-- A leaf without what is behind a size. -/
def cutB (b : List UInt8) (p n : Nat) : List UInt8 := b.take (n - 256 * p) ++ zeros (256 - (n - 256 * p))
/-- Bytes of another size. -/
def resizeB (bs : List UInt8) (n : Nat) : List UInt8 := bs.take n ++ zeros (n - bs.length)
/-- Bytes over others. -/
def overB (bs : List UInt8) (i : Nat) (s : List UInt8) : List UInt8 := bs.take i ++ s ++ bs.drop (i + s.length)
/-- Bytes with another leaf. -/
def setB (bs : List UInt8) (p : Nat) (b : List UInt8) : List UInt8 := overB bs (256 * p) (b.take (bs.length - 256 * p))

theorem zeros_length (n : Nat) : (zeros n).length = n := List.length_replicate
theorem zeros_get (n i : Nat) : (zeros n)[i]? = if i < n then some 0 else none := List.getElem?_replicate
theorem leafOf_length (bs : List UInt8) (p : Nat) : (leafOf bs p).length = 256 := by
  unfold leafOf
  rw [List.length_append, zeros_length, List.length_take, List.length_drop]
  omega
theorem leafOf_get (bs : List UInt8) (p i : Nat) : (leafOf bs p)[i]? = if i < 256 then some ((bs[256 * p + i]?).getD 0) else none := by
  unfold leafOf
  rw [List.getElem?_append, List.length_take, List.length_drop, zeros_get]
  by_cases h : i < min 256 (bs.length - 256 * p)
  · rw [if_pos h, List.getElem?_take_of_lt (by omega), List.getElem?_drop, if_pos (by omega), List.getElem?_eq_getElem (by omega)]
    rfl
  · rw [if_neg h]
    by_cases h2 : i < 256
    · rw [if_pos h2, if_pos (by omega), List.getElem?_eq_none (by omega)]
      rfl
    · rw [if_neg h2, if_neg (by omega)]
theorem cutB_length {b : List UInt8} (h : b.length = 256) (p n : Nat) : (cutB b p n).length = 256 := by
  unfold cutB
  rw [List.length_append, zeros_length, List.length_take]
  omega
theorem cutB_get {b : List UInt8} (h : b.length = 256) (p n i : Nat) : (cutB b p n)[i]? = if i < 256 then some (if 256 * p + i < n then (b[i]?).getD 0 else 0) else none := by
  unfold cutB
  rw [List.getElem?_append, List.length_take, zeros_get]
  by_cases h1 : i < min (n - 256 * p) b.length
  · rw [if_pos h1, List.getElem?_take_of_lt (by omega), if_pos (by omega), if_pos (by omega), List.getElem?_eq_getElem (by omega)]
    rfl
  · rw [if_neg h1]
    by_cases h2 : i < 256
    · rw [if_pos h2, if_pos (by omega), if_neg (by omega)]
    · rw [if_neg h2, if_neg (by omega)]
theorem resizeB_length (bs : List UInt8) (n : Nat) : (resizeB bs n).length = n := by
  unfold resizeB
  rw [List.length_append, zeros_length, List.length_take]
  omega
theorem resizeB_get (bs : List UInt8) (n i : Nat) : (resizeB bs n)[i]? = if i < n then some ((bs[i]?).getD 0) else none := by
  unfold resizeB
  rw [List.getElem?_append, List.length_take, zeros_get]
  by_cases h : i < min n bs.length
  · rw [if_pos h, List.getElem?_take_of_lt (by omega), if_pos (by omega), List.getElem?_eq_getElem (by omega)]
    rfl
  · rw [if_neg h]
    by_cases h2 : i < n
    · rw [if_pos h2, if_pos (by omega), List.getElem?_eq_none (by omega)]
      rfl
    · rw [if_neg h2, if_neg (by omega)]
theorem overB_length {bs : List UInt8} {i : Nat} {s : List UInt8} (h : i + s.length ≤ bs.length) : (overB bs i s).length = bs.length := by
  unfold overB
  rw [List.length_append, List.length_append, List.length_take, List.length_drop]
  omega
theorem overB_get {bs : List UInt8} {i : Nat} {s : List UInt8} (h : i + s.length ≤ bs.length) (j : Nat) : (overB bs i s)[j]? = if i ≤ j ∧ j < i + s.length then s[j - i]? else bs[j]? := by
  unfold overB
  rw [List.getElem?_append, List.length_append, List.length_take, List.getElem?_append, List.length_take]
  by_cases h1 : j < min i bs.length
  · rw [if_pos (by omega), if_pos h1, List.getElem?_take_of_lt (by omega), if_neg (by omega)]
  · by_cases h2 : j < min i bs.length + s.length
    · rw [if_pos h2, if_neg h1, if_pos (by omega)]
      congr 1
      omega
    · rw [if_neg h2, if_neg (by omega), List.getElem?_drop]
      congr 1
      omega

theorem leavesN_lt {n p : Nat} : p < leavesN n ↔ 256 * p < n := by
  unfold leavesN
  omega
theorem setB_length {bs b : List UInt8} {p : Nat} (h : b.length = 256) : (setB bs p b).length = bs.length := by
  unfold setB
  by_cases hp : 256 * p ≤ bs.length
  · exact overB_length (by rw [List.length_take]; omega)
  · unfold overB
    rw [List.take_of_length_le (by omega), show bs.length - 256 * p = 0 by omega]
    rw [List.drop_of_length_le (by simp; omega)]
    simp
theorem setB_get {bs b : List UInt8} {p : Nat} (h : b.length = 256) (hp : 256 * p ≤ bs.length) (j : Nat) : (setB bs p b)[j]? = if 256 * p ≤ j ∧ j < 256 * p + 256 ∧ j < bs.length then b[j - 256 * p]? else bs[j]? := by
  unfold setB
  rw [overB_get (by rw [List.length_take]; omega), List.length_take]
  by_cases h1 : 256 * p ≤ j ∧ j < 256 * p + 256 ∧ j < bs.length
  · rw [if_pos (by omega), if_pos h1, List.getElem?_take_of_lt (by omega)]
  · rw [if_neg (by omega), if_neg h1]
theorem leafOf_set_same {bs b : List UInt8} {p : Nat} (h : b.length = 256) (hp : p < leavesN bs.length) : leafOf (setB bs p b) p = cutB b p bs.length := by
  have hp := leavesN_lt.1 hp
  apply List.ext_getElem?
  intro i
  rw [leafOf_get, cutB_get h, setB_get h (by omega)]
  by_cases h1 : i < 256
  · rw [if_pos h1, if_pos h1]
    by_cases h2 : 256 * p + i < bs.length
    · rw [if_pos (by omega), if_pos h2, show 256 * p + i - 256 * p = i by omega]
    · rw [if_neg (by omega), if_neg h2, List.getElem?_eq_none (by omega)]
      rfl
  · rw [if_neg h1, if_neg h1]
theorem leafOf_set_other {bs b : List UInt8} {p q : Nat} (h : b.length = 256) (hp : p < leavesN bs.length) (hq : q ≠ p) : leafOf (setB bs p b) q = leafOf bs q := by
  have hp := leavesN_lt.1 hp
  apply List.ext_getElem?
  intro i
  rw [leafOf_get, leafOf_get, setB_get h (by omega)]
  by_cases h1 : i < 256
  · rw [if_pos h1, if_pos h1, if_neg (by omega)]
  · rw [if_neg h1, if_neg h1]
theorem leafOf_past {bs : List UInt8} {p : Nat} (hp : leavesN bs.length ≤ p) : leafOf bs p = zeros 256 := by
  have hp : ¬ 256 * p < bs.length := fun h => by
    have := leavesN_lt.2 h
    omega
  apply List.ext_getElem?
  intro i
  rw [leafOf_get, zeros_get, List.getElem?_eq_none (by omega)]
  rfl
theorem leafOf_resize {bs : List UInt8} {n p : Nat} : leafOf (resizeB bs n) p = cutB (leafOf bs p) p n := by
  apply List.ext_getElem?
  intro i
  rw [leafOf_get, cutB_get (leafOf_length bs p), leafOf_get, resizeB_get]
  by_cases h1 : i < 256
  · rw [if_pos h1, if_pos h1, if_pos h1]
    by_cases h2 : 256 * p + i < n
    · rw [if_pos h2, if_pos h2]
    · rw [if_neg h2, if_neg h2]
      rfl
  · rw [if_neg h1, if_neg h1]
theorem cutB_whole {bs : List UInt8} {n p : Nat} (h : bs.length ≤ n ∨ 256 * (p + 1) ≤ n) : cutB (leafOf bs p) p n = leafOf bs p := by
  apply List.ext_getElem?
  intro i
  rw [cutB_get (leafOf_length bs p), leafOf_get]
  by_cases h1 : i < 256
  · rw [if_pos h1, if_pos h1]
    by_cases h2 : 256 * p + i < n
    · rw [if_pos h2]
      rfl
    · rw [if_neg h2, List.getElem?_eq_none (by omega)]
      rfl
  · rw [if_neg h1, if_neg h1]
theorem leafOf_same {bs : List UInt8} {n p : Nat} (h : bs.length ≤ n ∨ 256 * (p + 1) ≤ n) : leafOf (resizeB bs n) p = leafOf bs p := leafOf_resize.trans (cutB_whole h)
end Go.Proofs.YtcnimekhpnejlaaGreat

/- What lies behind handles, for the evaluator. -/
namespace Go.Proofs.YtcnimekhpnejlaaGreat
/-- An inode; of kind 0: none. -/
structure Nd where
  kind : Int
  links : Int
  stamp : Int
  bytes : List UInt8
def Nd.none : Nd := ⟨0, 0, 0, []⟩
inductive St where
  | ino (S : Int → Nd)
  | grow (n : Nat) (lf : Nat → List UInt8)
  | works (f : Int → Option Nat)
  | leaves (f : Int → Option (List UInt8))
end Go.Proofs.YtcnimekhpnejlaaGreat

/- Open values: expressions, and what they stand for. -/
namespace Go.Proofs.YtcnimekhpnejlaaGreat.Ev
open Go
set_option linter.unusedVariables false

/-- What an expression may stand for. -/
inductive D where
  | z
  | i (n : Int)
  | b (x : Bool)
  | s (x : ByteArray)
  | st (x : St)
  | p (a b : D)
def D.int : D → Int
  | .i n => n
  | _ => 0
def D.bool : D → Bool
  | .b x => x
  | _ => false
def D.str : D → ByteArray
  | .s x => x
  | _ => ⟨#[]⟩

inductive X where
  | va (n : Nat)
  | li (n : Int)
  | lb (x : Bool)
  | ls (x : ByteArray)
  | bin (op : BinOp) (k : IntKind) (a b : X)
  | lt (a b : X)
  | eq (a b : X)
  | slt (a b : X)
  | seq (a b : X)
  | big (a b : X)
  | not (a : X)
  | cat (a b : X)
  | len (a : X)
  | byte (a i : X)
  | sub (a lo hi : X)
  | conv (k : IntKind) (a : X)
  | mn (a b : X)
  | mx (a b : X)
  | beq (a b : X)
  | app (f : Nat) (a : X)
  | nil
  | cons (a b : X)
  deriving DecidableEq

def intBin (op : BinOp) (k : IntKind) (a b : Int) : Int :=
  match op with
  | .add => k.wrap (a + b)
  | .sub => k.wrap (a - b)
  | .mul => k.wrap (a * b)
  | .quo => k.wrap (a.tdiv b)
  | .rem => a.tmod b
  | .shl => k.wrap (a * 2 ^ min b.toNat k.bits)
  | _ => 0

/-- What the letters and the functions are; what opaque blocks hold; what lies behind handles. -/
structure Abs where
  is : D → Nat → World → Prop
  own : Nat → World → Nat → Prop
  self : ∀ d a w, is d a w → own a w a
  lt : ∀ d a w, is d a w → ∀ j, own a w j → j < w.heap.size
  keep : ∀ d a w w', is d a w → (∀ j, own a w j → w'.heap[j]? = w.heap[j]?) → w.heap.size ≤ w'.heap.size → is d a w' ∧ ∀ j, own a w' j ↔ own a w j
structure Rho where
  v : Nat → D
  o : Nat → Value
  f : Nat → D → D
  oq : D → (Int → Option Nat) → Obj → Prop
  A : Abs

def X.val (ρ : Rho) : X → D
  | .va n => ρ.v n
  | .li n => .i n
  | .lb x => .b x
  | .ls x => .s x
  | .bin op k a b => .i (intBin op k (a.val ρ).int (b.val ρ).int)
  | .lt a b => .b (decide ((a.val ρ).int < (b.val ρ).int))
  | .eq a b => .b ((a.val ρ).int == (b.val ρ).int)
  | .slt a b => .b (Op.bytesLess (a.val ρ).str.toList (b.val ρ).str.toList)
  | .seq a b => .b ((a.val ρ).str.toList == (b.val ρ).str.toList)
  | .big a b => .b (decide ((((a.val ρ).str.size + (b.val ρ).str.size : Nat) : Int) > IntKind.i64.max))
  | .not a => .b (!(a.val ρ).bool)
  | .cat a b => .s ((a.val ρ).str ++ (b.val ρ).str)
  | .len a => .i ((a.val ρ).str.size : Nat)
  | .byte a i => .i (((a.val ρ).str.data.getD (i.val ρ).int.toNat 0).toNat : Nat)
  | .sub a lo hi => .s ((a.val ρ).str.extract (lo.val ρ).int.toNat (hi.val ρ).int.toNat)
  | .conv k a => .i (k.wrap (a.val ρ).int)
  | .mn a b => .i (if (b.val ρ).int < (a.val ρ).int then (b.val ρ).int else (a.val ρ).int)
  | .mx a b => .i (if (b.val ρ).int > (a.val ρ).int then (b.val ρ).int else (a.val ρ).int)
  | .beq a b => .b ((a.val ρ).bool == (b.val ρ).bool)
  | .app f a => ρ.f f (a.val ρ)
  | .nil => .z
  | .cons a b => .p (a.val ρ) (b.val ρ)
def X.int (ρ : Rho) (e : X) : Int := (e.val ρ).int
def X.bool (ρ : Rho) (e : X) : Bool := (e.val ρ).bool
def X.str (ρ : Rho) (e : X) : ByteArray := (e.val ρ).str
end Go.Proofs.YtcnimekhpnejlaaGreat.Ev

/- An evaluator of the model's programs over a memory of its own: values, memory, and what they stand for. -/
namespace Go.Proofs.YtcnimekhpnejlaaGreat.Ev
open Go Go.RowKit
set_option linter.unusedVariables false

/-! ### A map of numbers -/
inductive T (α : Type) where
  | nil
  | node (v : Option α) (l r : T α)
  deriving DecidableEq

namespace T
variable {α : Type}
def get : T α → Nat → Option α
  | nil, _ => none
  | node v l r, i => if i = 0 then v else if i % 2 = 1 then l.get (i / 2) else r.get (i / 2 - 1)
def put : Nat → T α → Nat → Option α → T α
  | 0, t, _, _ => t
  | f + 1, nil, i, x => if i = 0 then node x nil nil else if i % 2 = 1 then node none (put f nil (i / 2) x) nil else node none nil (put f nil (i / 2 - 1) x)
  | f + 1, node v l r, i, x => if i = 0 then node x l r else if i % 2 = 1 then node v (put f l (i / 2) x) r else node v l (put f r (i / 2 - 1) x)
theorem get_put : ∀ (f : Nat) (t : T α) (i j : Nat) (x : Option α), i < f → (put f t i x).get j = if j = i then x else t.get j
  | 0, _, _, _, _, h => by omega
  | f + 1, nil, i, j, x, h => by
    unfold put
    by_cases h0 : i = 0
    · rw [if_pos h0]; subst h0
      unfold get
      by_cases hj : j = 0
      · simp [hj]
      · simp only [if_neg hj]
        split <;> rfl
    · rw [if_neg h0]
      by_cases h1 : i % 2 = 1
      · rw [if_pos h1]
        simp only [get]
        by_cases hj : j = 0
        · rw [if_pos hj, if_neg (by omega)]
        · rw [if_neg hj]
          by_cases hj1 : j % 2 = 1
          · rw [if_pos hj1, get_put f nil _ _ x (by omega)]
            by_cases he : j = i
            · rw [if_pos he, if_pos (by omega)]
            · rw [if_neg he, if_neg (by omega)]; rfl
          · rw [if_neg hj1, if_neg (by intro e; subst e; exact hj1 h1)]
      · rw [if_neg h1]
        simp only [get]
        by_cases hj : j = 0
        · rw [if_pos hj, if_neg (by omega)]
        · rw [if_neg hj]
          by_cases hj1 : j % 2 = 1
          · rw [if_pos hj1, if_neg (by intro e; subst e; exact h1 hj1)]
          · rw [if_neg hj1, get_put f nil _ _ x (by omega)]
            by_cases he : j = i
            · rw [if_pos he, if_pos (by omega)]
            · rw [if_neg he, if_neg (by omega)]; rfl
  | f + 1, node v l r, i, j, x, h => by
    unfold put
    by_cases h0 : i = 0
    · rw [if_pos h0]; subst h0
      unfold get
      by_cases hj : j = 0
      · simp [hj]
      · simp only [if_neg hj]
    · rw [if_neg h0]
      by_cases h1 : i % 2 = 1
      · rw [if_pos h1]
        simp only [get]
        by_cases hj : j = 0
        · rw [if_pos hj, if_neg (by omega), if_pos hj]
        · rw [if_neg hj, if_neg hj]
          by_cases hj1 : j % 2 = 1
          · rw [if_pos hj1, if_pos hj1, get_put f l _ _ x (by omega)]
            by_cases he : j = i
            · rw [if_pos he, if_pos (by omega)]
            · rw [if_neg he, if_neg (by omega)]
          · rw [if_neg hj1, if_neg hj1, if_neg (by intro e; subst e; exact hj1 h1)]
      · rw [if_neg h1]
        simp only [get]
        by_cases hj : j = 0
        · rw [if_pos hj, if_neg (by omega), if_pos hj]
        · rw [if_neg hj, if_neg hj]
          by_cases hj1 : j % 2 = 1
          · rw [if_pos hj1, if_pos hj1, if_neg (by intro e; subst e; exact h1 hj1)]
          · rw [if_neg hj1, if_neg hj1, get_put f r _ _ x (by omega)]
            by_cases he : j = i
            · rw [if_pos he, if_pos (by omega)]
            · rw [if_neg he, if_neg (by omega)]
def set (t : T α) (i : Nat) (x : α) : T α := put (i + 1) t i (some x)
def del (t : T α) (i : Nat) : T α := put (i + 1) t i none
theorem get_set (t : T α) (i j : Nat) (x : α) : (t.set i x).get j = if j = i then some x else t.get j := get_put _ _ _ _ _ (Nat.lt_succ_self _)
theorem get_del (t : T α) (i j : Nat) : (t.del i).get j = if j = i then none else t.get j := get_put _ _ _ _ _ (Nat.lt_succ_self _)
def ofList : List α → Nat → T α → T α
  | [], _, t => t
  | x :: xs, i, t => ofList xs (i + 1) (t.set i x)
theorem get_ofList : ∀ (xs : List α) (i : Nat) (t : T α) (j : Nat), (ofList xs i t).get j = if i ≤ j ∧ j < i + xs.length then xs[j - i]? else t.get j
  | [], i, t, j => by simp [ofList]; omega
  | x :: xs, i, t, j => by
    rw [ofList, get_ofList xs (i + 1) _ j, get_set, List.length_cons]
    by_cases hj : j = i
    · subst hj
      rw [if_neg (by omega), if_pos rfl, if_pos (by omega), Nat.sub_self]
      rfl
    · by_cases h : i + 1 ≤ j ∧ j < i + 1 + xs.length
      · rw [if_pos h, if_pos (by omega), show j - i = (j - (i + 1)) + 1 by omega, List.getElem?_cons_succ]
      · rw [if_neg h, if_neg hj, if_neg (by omega)]
end T

/-! ### Values -/
/-- Where a block of the evaluator's lies in the world: the world's block, the offset of its first cell, and the capacity of a slice whose capacity is the model's own choice. -/
structure Pl where
  blk : Nat
  dl : Nat
  cap : Nat
structure Env where
  m : Nat → Option Pl
  ρ : Rho

/-- One cell's value. -/
inductive SV where
  | bool (b : Bool)
  | int (k : IntKind) (n : Int)
  | str (s : ByteArray)
  | nilp
  | ptr (i o : Nat)
  | nils
  | sl (i o len : Nat) (cap : Option Nat) (k : Nat)
  | slz (cap : Option Nat)
  | nilm
  | map (i : Nat)
  | func (f : FuncId) (cs : List (Nat × Nat))
  | nilf
  | nili
  | xi (k : IntKind) (e : X)
  | xb (e : X)
  | xs (e : X)
  | op (i : Nat)
  deriving DecidableEq
/-- A value: one cell, or a struct's or an array's cells. -/
inductive AV where
  | s (v : SV)
  | agg (cs : List SV)
  deriving DecidableEq
inductive EV where
  | a (v : AV)
  | tup (l : List AV)
  deriving DecidableEq

def Rels {α β : Type} (R : α → β → Prop) : List α → List β → Prop
  | [], [] => True
  | a :: as, b :: bs => R a b ∧ Rels R as bs
  | _, _ => False

section rels
variable {α β : Type} {R S : α → β → Prop}
theorem Rels.imp (h : ∀ a b, R a b → S a b) : ∀ {as : List α} {bs : List β}, Rels R as bs → Rels S as bs
  | [], [], _ => trivial
  | a :: as, b :: bs, hr => ⟨h _ _ hr.1, Rels.imp h hr.2⟩
  | [], _ :: _, hr => hr.elim
  | _ :: _, [], hr => hr.elim
theorem Rels.length : ∀ {as : List α} {bs : List β}, Rels R as bs → bs.length = as.length
  | [], [], _ => rfl
  | a :: as, b :: bs, hr => by rw [List.length_cons, List.length_cons, Rels.length hr.2]
  | [], _ :: _, hr => hr.elim
  | _ :: _, [], hr => hr.elim
theorem Rels.get : ∀ {as : List α} {bs : List β}, Rels R as bs → ∀ (i : Nat) (a : α), as[i]? = some a → ∃ b, bs[i]? = some b ∧ R a b
  | [], [], _, i, a, h => by simp at h
  | a :: as, b :: bs, hr, 0, x, h => by simp at h; subst h; exact ⟨b, rfl, hr.1⟩
  | a :: as, b :: bs, hr, i + 1, x, h => by
    obtain ⟨y, h1, h2⟩ := Rels.get hr.2 i x (by simpa using h)
    exact ⟨y, by simpa using h1, h2⟩
  | [], _ :: _, hr, _, _, _ => hr.elim
  | _ :: _, [], hr, _, _, _ => hr.elim
theorem Rels.app : ∀ {as as2 : List α} {bs bs2 : List β}, Rels R as bs → Rels R as2 bs2 → Rels R (as ++ as2) (bs ++ bs2)
  | [], _, [], _, _, h2 => h2
  | a :: as, _, b :: bs, _, h, h2 => ⟨h.1, Rels.app h.2 h2⟩
  | [], _, _ :: _, _, h, _ => h.elim
  | _ :: _, _, [], _, h, _ => h.elim
theorem Rels.take : ∀ (n : Nat) {as : List α} {bs : List β}, Rels R as bs → Rels R (as.take n) (bs.take n)
  | 0, _, _, _ => by simp [Rels]
  | n + 1, [], [], _ => by simp [Rels]
  | n + 1, a :: as, b :: bs, h => ⟨h.1, Rels.take n h.2⟩
  | _ + 1, [], _ :: _, h => h.elim
  | _ + 1, _ :: _, [], h => h.elim
theorem Rels.drop : ∀ (n : Nat) {as : List α} {bs : List β}, Rels R as bs → Rels R (as.drop n) (bs.drop n)
  | 0, _, _, h => h
  | n + 1, [], [], _ => by simp [Rels]
  | n + 1, a :: as, b :: bs, h => Rels.drop n h.2
  | _ + 1, [], _ :: _, h => h.elim
  | _ + 1, _ :: _, [], h => h.elim
theorem Rels.of_get : ∀ {as : List α} {bs : List β}, bs.length = as.length → (∀ (i : Nat) (a : α) (b : β), as[i]? = some a → bs[i]? = some b → R a b) → Rels R as bs
  | [], [], _, _ => trivial
  | a :: as, b :: bs, hl, h => ⟨h 0 a b rfl rfl, Rels.of_get (by simpa using hl) fun i x y hx hy => h (i + 1) x y (by simpa using hx) (by simpa using hy)⟩
  | [], _ :: _, hl, _ => by simp at hl
  | _ :: _, [], hl, _ => by simp at hl
end rels

def relP (E : Env) (x : Nat × Nat) (v : Value) : Prop := ∃ p, E.m x.1 = some p ∧ v = .pointer (some ⟨p.blk, p.dl + x.2, none⟩)

def SV.rel (E : Env) : SV → Value → Prop
  | .bool b, v => v = .bool b
  | .int k n, v => v = .int k n
  | .str s, v => v = .string s
  | .nilp, v => v = .pointer none
  | .ptr i o, v => ∃ p, E.m i = some p ∧ v = .pointer (some ⟨p.blk, p.dl + o, none⟩)
  | .nils, v => v = .slice none 0 0
  | .sl i o l (some c) _, v => ∃ p, E.m i = some p ∧ l ≤ c ∧ v = .slice (some ⟨p.blk, p.dl + o, none⟩) l c
  | .sl i o l none k, v => ∃ p, E.m i = some p ∧ l + k ≤ p.cap ∧ v = .slice (some ⟨p.blk, p.dl + o, none⟩) l (p.cap - k)
  | .slz (some c), v => ∃ a, v = .slice (some a) 0 c
  | .slz none, v => ∃ a c, v = .slice (some a) 0 c
  | .nilm, v => v = .map none
  | .map i, v => ∃ p, E.m i = some p ∧ v = .map (some p.blk)
  | .func f cs, v => ∃ vs : List Value, v = .func (.func f) #[] vs.toArray ∧ Rels (relP E) cs vs
  | .nilf, v => v = .nilFunc
  | .nili, v => v = .nilIface
  | .xi k e, v => v = .int k (e.int E.ρ)
  | .xb e, v => v = .bool (e.bool E.ρ)
  | .xs e, v => v = .string (e.str E.ρ)
  | .op i, v => v = E.ρ.o i ∧ v.oneCell' = true
def AV.rel (E : Env) : AV → Value → Prop
  | .s x, v => x.rel E v
  | .agg cs, v => ∃ vs : List Value, v = .agg vs.toArray ∧ Rels (SV.rel E) cs vs
def EV.rel (E : Env) : EV → Value → Prop
  | .a x, v => x.rel E v
  | .tup l, v => ∃ vs : List Value, v = .tuple vs.toArray ∧ Rels (AV.rel E) l vs

/-- The environment has grown. -/
structure Ext (E E' : Env) : Prop where
  ρ : E'.ρ = E.ρ
  m : ∀ i p, E.m i = some p → E'.m i = some p
theorem Ext.refl (E : Env) : Ext E E := ⟨rfl, fun _ _ h => h⟩
theorem Ext.trans {A B C : Env} (h : Ext A B) (k : Ext B C) : Ext A C := ⟨k.ρ.trans h.ρ, fun i p hp => k.m i p (h.m i p hp)⟩

section ext
variable {E E' : Env} (h : Ext E E')
include h
theorem relP.ext {x : Nat × Nat} {v : Value} (hx : relP E x v) : relP E' x v := by
  obtain ⟨p, hp, rfl⟩ := hx
  exact ⟨p, h.m _ _ hp, rfl⟩
theorem SV.ext : ∀ {x : SV} {v : Value}, x.rel E v → x.rel E' v
  | .bool _, _, hx | .int _ _, _, hx | .str _, _, hx | .nilp, _, hx | .nils, _, hx | .slz (some _), _, hx | .slz none, _, hx | .nilm, _, hx | .nilf, _, hx | .nili, _, hx => hx
  | .ptr _ _, _, ⟨p, hp, e⟩ => ⟨p, h.m _ _ hp, e⟩
  | .sl _ _ _ (some _) _, _, ⟨p, hp, e⟩ => ⟨p, h.m _ _ hp, e⟩
  | .sl _ _ _ none _, _, ⟨p, hp, e⟩ => ⟨p, h.m _ _ hp, e⟩
  | .map _, _, ⟨p, hp, e⟩ => ⟨p, h.m _ _ hp, e⟩
  | .func _ _, _, ⟨vs, e, hr⟩ => ⟨vs, e, Rels.imp (fun _ _ => relP.ext h) hr⟩
  | .xi k e, _, hx => by
    unfold SV.rel at hx ⊢
    rw [h.ρ]
    exact hx
  | .xb e, _, hx => by
    unfold SV.rel at hx ⊢
    rw [h.ρ]
    exact hx
  | .xs e, _, hx => by
    unfold SV.rel at hx ⊢
    rw [h.ρ]
    exact hx
  | .op i, _, hx => by
    unfold SV.rel at hx ⊢
    rw [h.ρ]
    exact hx
theorem AV.ext : ∀ {x : AV} {v : Value}, x.rel E v → x.rel E' v
  | .s _, _, hx => SV.ext h hx
  | .agg _, _, ⟨vs, e, hr⟩ => ⟨vs, e, Rels.imp (fun _ _ => SV.ext h) hr⟩
theorem EV.ext : ∀ {x : EV} {v : Value}, x.rel E v → x.rel E' v
  | .a _, _, hx => AV.ext h hx
  | .tup _, _, ⟨vs, e, hr⟩ => ⟨vs, e, Rels.imp (fun _ _ => AV.ext h) hr⟩
end ext

theorem SV.oneCell {E : Env} : ∀ {x : SV} {v : Value}, x.rel E v → v.oneCell' = true
  | .bool _, _, rfl | .int _ _, _, rfl | .str _, _, rfl | .nilp, _, rfl | .nils, _, rfl | .nilm, _, rfl | .nilf, _, rfl | .nili, _, rfl => rfl
  | .ptr _ _, _, ⟨_, _, rfl⟩ => rfl
  | .sl _ _ _ (some _) _, _, ⟨_, _, _, rfl⟩ => rfl
  | .sl _ _ _ none _, _, ⟨_, _, _, rfl⟩ => rfl
  | .slz (some _), _, ⟨_, rfl⟩ => rfl
  | .slz none, _, ⟨_, _, rfl⟩ => rfl
  | .map _, _, ⟨_, _, rfl⟩ => rfl
  | .func _ _, _, ⟨_, rfl, _⟩ => rfl
  | .xi _ _, _, rfl | .xb _, _, rfl | .xs _, _, rfl => rfl
  | .op _, _, h => h.2
theorem cells_one {v : Value} (h : v.oneCell' = true) : v.cells = #[v] := by
  cases v <;> first | rfl | (simp [Value.oneCell'] at h)

def AV.cells : AV → List SV
  | .s x => [x]
  | .agg cs => cs
theorem AV.cells_rel {E : Env} : ∀ {x : AV} {v : Value}, x.rel E v → Rels (SV.rel E) x.cells v.cells.toList
  | .s _, v, h => by
    rw [cells_one (SV.oneCell h)]
    exact ⟨h, trivial⟩
  | .agg _, _, ⟨vs, rfl, h⟩ => h

/-! ### Memory -/
/-- Cells: one by one (w = 0), or in rows of w cells, of which one that is not there is the row dr. -/
structure Cells where
  n : Nat
  d : SV
  t : T SV
  w : Nat := 0
  dr : List SV := []
  r : T (List SV) := .nil
def setAt (d : SV) : List SV → Nat → SV → List SV
  | [], 0, x => [x]
  | [], k + 1, x => d :: setAt d [] k x
  | _ :: l, 0, x => x :: l
  | a :: l, k + 1, x => a :: setAt d l k x
theorem setAt_get (d : SV) : ∀ (l : List SV) (k : Nat) (x : SV) (m : Nat), ((setAt d l k x)[m]?).getD d = if m = k then x else (l[m]?).getD d
  | [], 0, x, 0 => rfl
  | [], 0, x, m + 1 => by simp [setAt]
  | [], k + 1, x, 0 => by simp [setAt]
  | [], k + 1, x, m + 1 => by
    have := setAt_get d [] k x m
    simp only [setAt, List.getElem?_cons_succ, this]
    by_cases e : m = k <;> simp [e]
  | a :: l, 0, x, 0 => rfl
  | a :: l, 0, x, m + 1 => by simp [setAt]
  | a :: l, k + 1, x, 0 => by simp [setAt]
  | a :: l, k + 1, x, m + 1 => by
    have := setAt_get d l k x m
    simp only [setAt, List.getElem?_cons_succ, this]
    by_cases e : m = k <;> simp [e]
def Cells.row (c : Cells) (q : Nat) : List SV := (c.r.get q).getD c.dr
def Cells.get (c : Cells) (j : Nat) : SV :=
  match c.w with
  | 0 => (c.t.get j).getD c.d
  | w + 1 => ((c.row (j / (w + 1)))[j % (w + 1)]?).getD c.d
def Cells.set (c : Cells) (j : Nat) (x : SV) : Cells :=
  match c.w with
  | 0 => { c with t := c.t.set j x }
  | w + 1 => { c with r := c.r.set (j / (w + 1)) (setAt c.d (c.row (j / (w + 1))) (j % (w + 1)) x) }
theorem Cells.set_w (c : Cells) (i : Nat) (x : SV) : (c.set i x).w = c.w ∧ (c.set i x).n = c.n := by
  unfold Cells.set
  split <;> exact ⟨rfl, rfl⟩
theorem Cells.get_set (c : Cells) (i j : Nat) (x : SV) : (c.set i x).get j = if j = i then x else c.get j := by
  obtain ⟨n, d, t, w, dr, r⟩ := c
  cases w with
  | zero =>
    show ((t.set i x).get j).getD d = _
    rw [T.get_set]
    show _ = if j = i then x else (t.get j).getD d
    split <;> rfl
  | succ w =>
    show ((((r.set (i / (w + 1)) (setAt d ((r.get (i / (w + 1))).getD dr) (i % (w + 1)) x)).get (j / (w + 1))).getD dr)[j % (w + 1)]?).getD d = if j = i then x else ((((r.get (j / (w + 1))).getD dr))[j % (w + 1)]?).getD d
    rw [T.get_set]
    by_cases hq : j / (w + 1) = i / (w + 1)
    · rw [if_pos hq]
      show ((setAt d ((r.get (i / (w + 1))).getD dr) (i % (w + 1)) x)[j % (w + 1)]?).getD d = _
      rw [setAt_get, hq]
      have h1 := Nat.div_add_mod j (w + 1)
      have h2 := Nat.div_add_mod i (w + 1)
      by_cases e : j = i
      · rw [if_pos e, if_pos (by rw [e])]
      · rw [if_neg e, if_neg (fun h => e (by rw [← h1, ← h2, hq, h]))]
    · rw [if_neg hq, if_neg (fun e => hq (by rw [e]))]
/-- The list of the cells from o on. -/
def Cells.listG (c : Cells) (o : Nat) : Nat → List SV
  | 0 => []
  | n + 1 => c.get o :: c.listG (o + 1) n
def Cells.list (c : Cells) (o n : Nat) : List SV :=
  match c.w with
  | 0 => c.listG o n
  | w + 1 => if o % (w + 1) = 0 ∧ n = w + 1 ∧ (c.row (o / (w + 1))).length = w + 1 then c.row (o / (w + 1)) else c.listG o n
def Cells.putsG (c : Cells) (o : Nat) : List SV → Cells
  | [] => c
  | x :: xs => (c.set o x).putsG (o + 1) xs
def Cells.puts (c : Cells) (o : Nat) (xs : List SV) : Cells :=
  match c.w with
  | 0 => c.putsG o xs
  | w + 1 => if o % (w + 1) = 0 ∧ xs.length = w + 1 then { c with r := c.r.set (o / (w + 1)) xs } else c.putsG o xs
def SV.same : SV → SV → Bool
  | .bool a, .bool b => a == b
  | .int k a, .int q b => k == q && a == b
  | .nilp, .nilp | .nils, .nils | .nilm, .nilm | .nilf, .nilf | .nili, .nili => true
  | _, _ => false
theorem SV.same_eq {a b : SV} (h : SV.same a b = true) : a = b := by
  unfold SV.same at h
  split at h <;> first | rfl | (simp only [Bool.and_eq_true, beq_iff_eq] at h; obtain ⟨rfl, rfl⟩ := h; rfl) | (rw [beq_iff_eq] at h; subst h; rfl) | cases h
def Cells.ofList (l : List SV) : Cells :=
  match l with
  | [] => { n := 0, d := .nilp, t := .nil }
  | z :: r => if (Nat.ble 63 r.length && r.all (SV.same z)) = true then { n := r.length + 1, d := z, t := .nil } else { n := r.length + 1, d := .nilp, t := T.ofList (z :: r) 0 .nil }
theorem Cells.ofList_n (l : List SV) : (Cells.ofList l).n = l.length := by
  unfold Cells.ofList
  split
  · rfl
  · split <;> rfl
theorem Cells.get_ofList (l : List SV) (j : Nat) (x : SV) (h : l[j]? = some x) : (Cells.ofList l).get j = x := by
  have hj := (List.getElem?_eq_some_iff.1 h).1
  unfold Cells.ofList
  split
  · simp at hj
  · rename_i z r
    split
    · rename_i ha
      replace ha := (Bool.and_eq_true _ _ ▸ ha : _ ∧ _).2
      unfold Cells.get
      show (none : Option SV).getD z = x
      cases j with
      | zero => simpa using h
      | succ j =>
        have hm : x ∈ r := List.mem_of_getElem? (by simpa using h)
        exact SV.same_eq (List.all_eq_true.1 ha x hm)
    · unfold Cells.get
      rw [T.get_ofList, if_pos (by omega), Nat.sub_zero, h]
      rfl
theorem Cells.listG_length (c : Cells) : ∀ (n o : Nat), (c.listG o n).length = n
  | 0, _ => rfl
  | n + 1, o => by rw [Cells.listG, List.length_cons, Cells.listG_length c n]
theorem Cells.listG_get (c : Cells) : ∀ (n o i : Nat), i < n → (c.listG o n)[i]? = some (c.get (o + i))
  | 0, _, _, h => by omega
  | n + 1, o, 0, _ => rfl
  | n + 1, o, i + 1, h => by
    rw [Cells.listG, List.getElem?_cons_succ, Cells.listG_get c n (o + 1) i (by omega)]
    congr 2
    omega
theorem Cells.list_length (c : Cells) (n o : Nat) : (c.list o n).length = n := by
  unfold Cells.list
  split
  · exact Cells.listG_length c n o
  · split
    · rename_i h
      rw [h.2.1]
      exact h.2.2
    · exact Cells.listG_length c n o
theorem Cells.list_get (c : Cells) (n o i : Nat) (hi : i < n) : (c.list o n)[i]? = some (c.get (o + i)) := by
  unfold Cells.list
  split
  · exact Cells.listG_get c n o i hi
  · rename_i w hw
    split
    · rename_i h
      obtain ⟨h1, rfl, h3⟩ := h
      unfold Cells.get
      rw [hw]
      show _ = some (((c.row ((o + i) / (w + 1)))[(o + i) % (w + 1)]?).getD c.d)
      have h4 := Nat.div_add_mod o (w + 1)
      rw [h1, Nat.add_zero] at h4
      have e1 : (o + i) / (w + 1) = o / (w + 1) := by
        rw [← h4, Nat.mul_add_div (by omega), Nat.div_eq_of_lt hi, Nat.add_zero, Nat.mul_div_cancel_left _ (by omega)]
      have e2 : (o + i) % (w + 1) = i := by
        rw [← h4, Nat.mul_add_mod, Nat.mod_eq_of_lt hi]
      rw [e1, e2, List.getElem?_eq_getElem (by omega)]
      rfl
    · exact Cells.listG_get c n o i hi
theorem Cells.putsG_n : ∀ (xs : List SV) (c : Cells) (o : Nat), (c.putsG o xs).n = c.n
  | [], _, _ => rfl
  | x :: xs, c, o => by rw [Cells.putsG, Cells.putsG_n xs]; exact (c.set_w o x).2
theorem Cells.get_putsG : ∀ (xs : List SV) (c : Cells) (o j : Nat), (c.putsG o xs).get j = if h : o ≤ j ∧ j < o + xs.length then xs[j - o]'(by omega) else c.get j
  | [], c, o, j => by
    rw [dif_neg (by simp)]
    rfl
  | x :: xs, c, o, j => by
    rw [Cells.putsG, Cells.get_putsG xs, Cells.get_set]
    by_cases h : o + 1 ≤ j ∧ j < o + 1 + xs.length
    · rw [dif_pos h, dif_pos (by simp; omega)]
      have e : j - o = (j - (o + 1)) + 1 := by omega
      simp only [e, List.getElem_cons_succ]
    · rw [dif_neg h]
      by_cases hj : j = o
      · subst hj
        rw [if_pos rfl, dif_pos (by simp)]
        first | rfl | simp
      · rw [if_neg hj, dif_neg (by simp; omega)]
theorem Cells.puts_n (xs : List SV) (c : Cells) (o : Nat) : (c.puts o xs).n = c.n := by
  unfold Cells.puts
  split
  · exact Cells.putsG_n xs c o
  · split
    · rfl
    · exact Cells.putsG_n xs c o
theorem Cells.get_puts (xs : List SV) (c : Cells) (o j : Nat) : (c.puts o xs).get j = if h : o ≤ j ∧ j < o + xs.length then xs[j - o]'(by omega) else c.get j := by
  obtain ⟨n, d, t, w, dr, r⟩ := c
  cases w with
  | zero => exact Cells.get_putsG xs ⟨n, d, t, 0, dr, r⟩ o j
  | succ w =>
    unfold Cells.puts
    show (if o % (w + 1) = 0 ∧ xs.length = w + 1 then (⟨n, d, t, w + 1, dr, r.set (o / (w + 1)) xs⟩ : Cells) else (Cells.mk n d t (w + 1) dr r).putsG o xs).get j = _
    by_cases hc : o % (w + 1) = 0 ∧ xs.length = w + 1
    · rw [if_pos hc]
      obtain ⟨h1, h2⟩ := hc
      show ((((r.set (o / (w + 1)) xs).get (j / (w + 1))).getD dr)[j % (w + 1)]?).getD d = _
      rw [T.get_set]
      have h4 := Nat.div_add_mod o (w + 1)
      rw [h1, Nat.add_zero] at h4
      by_cases hq : j / (w + 1) = o / (w + 1)
      · rw [if_pos hq]
        show (xs[j % (w + 1)]?).getD d = _
        have h5 := Nat.div_add_mod j (w + 1)
        have h6 := Nat.mod_lt j (show 0 < w + 1 by omega)
        rw [hq, h4] at h5
        rw [dif_pos (by omega), List.getElem?_eq_getElem (by omega)]
        show xs[j % (w + 1)] = _
        congr 1
        omega
      · rw [if_neg hq]
        have hn : ¬ (o ≤ j ∧ j < o + xs.length) := fun h => hq (by
          have h5 : o / (w + 1) * (w + 1) = o := by rw [Nat.mul_comm]; exact h4
          refine Nat.div_eq_of_lt_le (by rw [h5]; exact h.1) ?_
          rw [Nat.add_mul, h5, Nat.one_mul]
          omega)
        rw [dif_neg hn]
        rfl
    · rw [if_neg hc]
      exact Cells.get_putsG xs ⟨n, d, t, w + 1, dr, r⟩ o j

/-- One row of w cells, as a row; else cells one by one. -/
def Cells.ofCells (w : Nat) (l : List SV) : Cells :=
  if 16 ≤ w ∧ l.length = w then { n := l.length, d := .nilp, t := .nil, w := w, dr := [], r := T.set .nil 0 l } else Cells.ofList l
theorem Cells.ofCells_n (w : Nat) (l : List SV) : (Cells.ofCells w l).n = l.length := by
  unfold Cells.ofCells
  split
  · rfl
  · exact Cells.ofList_n l
theorem Cells.get_ofCells (w : Nat) (l : List SV) (j : Nat) (x : SV) (h : l[j]? = some x) : (Cells.ofCells w l).get j = x := by
  have hj := (List.getElem?_eq_some_iff.1 h).1
  unfold Cells.ofCells
  split
  · rename_i hw
    obtain ⟨h1, h2⟩ := hw
    cases w with
    | zero => omega
    | succ w =>
      show ((((T.set .nil 0 l).get (j / (w + 1))).getD [])[j % (w + 1)]?).getD .nilp = x
      rw [Nat.div_eq_of_lt (by omega), Nat.mod_eq_of_lt (by omega), T.get_set, if_pos rfl]
      show (l[j]?).getD .nilp = x
      rw [h]
      rfl
  · exact Cells.get_ofList l j x h
/-- Cells behind others: the first k from o on, and new ones. -/
def Cells.app (c : Cells) (o k : Nat) (news : List SV) : Cells :=
  if o = 0 then { (c.puts k news) with n := k + news.length } else Cells.ofList (c.list o k ++ news)
theorem Cells.app_n (c : Cells) (o k : Nat) (news : List SV) : (c.app o k news).n = k + news.length := by
  unfold Cells.app
  split
  · rfl
  · rw [Cells.ofList_n, List.length_append, Cells.list_length]
theorem Cells.get_n (c : Cells) (m j : Nat) : ({ c with n := m } : Cells).get j = c.get j := rfl
theorem Cells.app_get (c : Cells) (o k : Nat) (news : List SV) (j : Nat) (hj : j < k + news.length) : (c.app o k news).get j = (Cells.ofList (c.list o k ++ news)).get j := by
  unfold Cells.app
  split
  · rename_i ho
    subst ho
    rw [Cells.get_n, Cells.get_puts]
    by_cases h : k ≤ j
    · rw [dif_pos ⟨h, hj⟩]
      refine (Cells.get_ofList _ j _ ?_).symm
      rw [List.getElem?_append_right (by rw [Cells.list_length]; exact h), Cells.list_length, List.getElem?_eq_getElem (by omega)]
    · rw [dif_neg (fun e => h e.1)]
      refine (Cells.get_ofList _ j _ ?_).symm
      rw [List.getElem?_append_left (by rw [Cells.list_length]; omega), Cells.list_get c k 0 j (by omega), Nat.zero_add]
  · rfl

/-- A block: cells (opn: of a slice whose capacity is open, with its elements' size), a map, or a walk over a map. -/
inductive Blk where
  | cells (t : TypeId) (opn : Option Nat) (c : Cells) (fz : Bool)
  | mp (es : List (AV × AV × Nat)) (clock : Nat)
  | it (m : Option Nat) (since : Nat) (seen : List Nat) (last : Nat)
  | opq (e : X) (ls : List (X × Nat))
  | abs (e : X)

structure CellsRel (E : Env) (p : Pl) (opn : Option Nat) (c : Cells) (fz : Bool) (cs : Array Value) (lo hi : Nat) : Prop where
  fz : fz = false → lo = 0 ∧ hi = 0
  free : ∀ j, j < cs.size → ¬ (lo ≤ j ∧ j < hi)
  room : ∀ sz, opn = some sz → p.dl + p.cap * sz ≤ cs.size
  fits : p.dl + c.n ≤ cs.size
  dl : opn = none → p.dl = 0
  get : ∀ j, j < c.n → ∃ v, cs[p.dl + j]? = some v ∧ (c.get j).rel E v
/-- The stamp of an entry has a number of its own, whose place tells the stamp. -/
def stampRel (E : Env) (i : Nat) (s : Nat) : Prop := ∃ p, E.m i = some p ∧ s = p.dl
def entryRel (E : Env) (x : AV × AV × Nat) (e : MapEntry) : Prop := x.1.rel E e.key ∧ x.2.1.rel E e.val ∧ stampRel E x.2.2 e.born
/-- A map's entries, in an order of the evaluator's own. -/
def mpRel (E : Env) (es : List (AV × AV × Nat)) (clock : Nat) (ents : Array MapEntry) : Prop :=
  ∃ l : List MapEntry, l.Perm ents.toList ∧ Rels (entryRel E) es l ∧ (l.map (·.born)).Nodup ∧ ∀ e ∈ l, e.born < clock
def itRel (E : Env) : Option Nat → Option Nat → Prop
  | none, m => m = none
  | some i, m => ∃ q, E.m i = some q ∧ m = some q.blk
/-- The blocks to which an opaque map's own entries lead. -/
def linksOf (E : Env) (ls : List (X × Nat)) (n : Int) : Option Nat := (ls.find? fun q => decide (q.1.int E.ρ = n)).bind fun q => (E.m q.2).map (·.blk)
def linksOk (E : Env) (ls : List (X × Nat)) : Prop := ∀ q ∈ ls, ∃ p, E.m q.2 = some p ∧ p.dl = 0
theorem linksOk.ext {E E' : Env} (h : Ext E E') {ls : List (X × Nat)} (hl : linksOk E ls) : linksOk E' ls := fun q hq => by
  obtain ⟨p, hp, hd⟩ := hl q hq
  exact ⟨p, h.m _ _ hp, hd⟩
theorem linksOf_ext {E E' : Env} (h : Ext E E') {ls : List (X × Nat)} (hl : linksOk E ls) : linksOf E' ls = linksOf E ls := by
  funext n
  unfold linksOf
  rw [h.ρ]
  cases hf : ls.find? (fun q => decide (q.1.int E.ρ = n)) with
  | none => rfl
  | some q =>
    obtain ⟨p, hp, _⟩ := hl q (List.mem_of_find?_eq_some hf)
    show (E'.m q.2).map _ = (E.m q.2).map _
    rw [hp, h.m _ _ hp]
def Blk.rel (E : Env) (p : Pl) : Blk → Obj → Prop
  | .cells t opn c fz, o => ∃ cs lo hi, o = .cells cs t (lo, hi) ∧ CellsRel E p opn c fz cs lo hi
  | .mp es clock, o => ∃ ents : Array MapEntry, o = .map ents clock ∧ mpRel E es clock ents
  | .it m since seen last, o => p.dl = 0 ∧ ∃ mb st, o = .mapIter mb since st last ∧ itRel E m mb ∧ Rels (stampRel E) seen st.toList
  | .opq e ls, o => p.dl = 0 ∧ linksOk E ls ∧ E.ρ.oq (e.val E.ρ) (linksOf E ls) o
  | .abs _, _ => p.dl = 0
theorem stampRel.ext {E E' : Env} (h : Ext E E') {i s : Nat} : stampRel E i s → stampRel E' i s
  | ⟨p, hp, e⟩ => ⟨p, h.m _ _ hp, e⟩
theorem entryRel.ext {E E' : Env} (h : Ext E E') {x : AV × AV × Nat} {e : MapEntry} (hx : entryRel E x e) : entryRel E' x e := ⟨AV.ext h hx.1, AV.ext h hx.2.1, hx.2.2.ext h⟩
theorem mpRel.ext {E E' : Env} (h : Ext E E') {es : List (AV × AV × Nat)} {clock : Nat} {ents : Array MapEntry} : mpRel E es clock ents → mpRel E' es clock ents
  | ⟨l, h1, h2, h3⟩ => ⟨l, h1, Rels.imp (fun _ _ => entryRel.ext h) h2, h3⟩
theorem Blk.ext {E E' : Env} (h : Ext E E') {p : Pl} : ∀ {b : Blk} {o : Obj}, b.rel E p o → b.rel E' p o
  | .cells _ _ _ _, _, ⟨cs, lo, hi, e, hr⟩ => ⟨cs, lo, hi, e, ⟨hr.fz, hr.free, hr.room, hr.fits, hr.dl, fun j hj => by
      obtain ⟨v, h1, h2⟩ := hr.get j hj
      exact ⟨v, h1, SV.ext h h2⟩⟩⟩
  | .mp _ _, _, ⟨ents, e, hr⟩ => ⟨ents, e, mpRel.ext h hr⟩
  | .it none _ _ _, _, ⟨hd, mb, st, e, hm, hs⟩ => ⟨hd, mb, st, e, hm, Rels.imp (fun _ _ => stampRel.ext h) hs⟩
  | .it (some _) _ _ _, _, ⟨hd, mb, st, e, ⟨q, hq, hm⟩, hs⟩ => ⟨hd, mb, st, e, ⟨q, h.m _ _ hq, hm⟩, Rels.imp (fun _ _ => stampRel.ext h) hs⟩
  | .opq _ ls, _, ⟨hd, hl, ho⟩ => ⟨hd, hl.ext h, by rw [linksOf_ext h hl, h.ρ]; exact ho⟩
  | .abs _, _, hd => hd

/-- Handles: what lies behind them is of no other block's. -/
structure HAbs (E : Env) (h : T Blk) (w : World) : Prop where
  ab : ∀ i e p, h.get i = some (.abs e) → E.m i = some p → E.ρ.A.is (e.val E.ρ) p.blk w
  far : ∀ i e p j c q, h.get i = some (.abs e) → E.m i = some p → h.get j = some c → E.m j = some q → j ≠ i → ¬ E.ρ.A.own p.blk w q.blk
  apart : ∀ i e p j e' q, h.get i = some (.abs e) → E.m i = some p → h.get j = some (.abs e') → E.m j = some q → j ≠ i → ∀ k, E.ρ.A.own p.blk w k → ¬ E.ρ.A.own q.blk w k

/-- The memory h stands for what lies in the world w. -/
structure HRel (E : Env) (h : T Blk) (w : World) : Prop where
  at_ : ∀ i b, h.get i = some b → ∃ p o, E.m i = some p ∧ w.heap[p.blk]? = some o ∧ b.rel E p o
  inj : ∀ i j b c p q, h.get i = some b → h.get j = some c → E.m i = some p → E.m j = some q → p.blk = q.blk → i = j
  abs : HAbs E h w

/-- A block of the world that the memory h stands for. -/
def Owned (E : Env) (h : T Blk) (w : World) (k : Nat) : Prop := (∃ j c q, h.get j = some c ∧ E.m j = some q ∧ q.blk = k) ∨ ∃ j e q, h.get j = some (.abs e) ∧ E.m j = some q ∧ E.ρ.A.own q.blk w k

/-- The blocks that the memory h does not stand for are as they were. -/
structure Frame (E : Env) (h : T Blk) (w w' : World) : Prop where
  os : w'.os = w.os
  tape : w'.tape = w.tape
  output : w'.output = w.output
  size : w.heap.size ≤ w'.heap.size
  block : ∀ k, k < w.heap.size → ¬ Owned E h w k → w'.heap[k]? = w.heap[k]?

theorem HAbs.carry {E E' : Env} {h h' : T Blk} {w w' : World} (ha : HAbs E h w) (hρ : E'.ρ = E.ρ) (hs : w.heap.size ≤ w'.heap.size) (hk : ∀ i e p, h.get i = some (.abs e) → E.m i = some p → ∀ k, E.ρ.A.own p.blk w k → w'.heap[k]? = w.heap[k]?)
    (hab : ∀ i e p, h'.get i = some (.abs e) → E'.m i = some p → h.get i = some (.abs e) ∧ E.m i = some p)
    (hfar : ∀ j c q, h'.get j = some c → E'.m j = some q → (∃ c', h.get j = some c' ∧ E.m j = some q) ∨ ∀ i e p, h.get i = some (.abs e) → E.m i = some p → ¬ E.ρ.A.own p.blk w q.blk) :
    HAbs E' h' w' ∧ ∀ i e p, h'.get i = some (.abs e) → E'.m i = some p → ∀ k, E'.ρ.A.own p.blk w' k ↔ E.ρ.A.own p.blk w k := by
  have key : ∀ i e p, h'.get i = some (.abs e) → E'.m i = some p → E.ρ.A.is (e.val E.ρ) p.blk w' ∧ ∀ k, E.ρ.A.own p.blk w' k ↔ E.ρ.A.own p.blk w k := fun i e p hi hp => by
    obtain ⟨h1, h2⟩ := hab i e p hi hp
    exact E.ρ.A.keep _ _ w w' (ha.ab i e p h1 h2) (hk i e p h1 h2) hs
  rw [hρ]
  refine ⟨⟨fun i e p hi hp => ?_, fun i e p j c q hi hp hj hq hne ho => ?_, fun i e p j e' q hi hp hj hq hne k h1 h2 => ?_⟩, fun i e p hi hp => (key i e p hi hp).2⟩
  · rw [hρ]
    exact (key i e p hi hp).1
  · rw [hρ] at ho
    obtain ⟨h1, h2⟩ := hab i e p hi hp
    have ho := ((key i e p hi hp).2 _).1 ho
    rcases hfar j c q hj hq with ⟨c', h3, h4⟩ | h3
    · exact ha.far i e p j c' q h1 h2 h3 h4 hne ho
    · exact h3 i e p h1 h2 ho
  · rw [hρ] at h1 h2
    obtain ⟨g1, g2⟩ := hab i e p hi hp
    obtain ⟨g3, g4⟩ := hab j e' q hj hq
    exact ha.apart i e p j e' q g1 g2 g3 g4 hne k (((key i e p hi hp).2 _).1 h1) (((key j e' q hj hq).2 _).1 h2)

end Go.Proofs.YtcnimekhpnejlaaGreat.Ev

/- The evaluator: how its memory changes beside the world's. -/
namespace Go.Proofs.YtcnimekhpnejlaaGreat.Ev
open Go Go.RowKit
set_option linter.unusedVariables false

/-- A step of the evaluator beside a step of the world. -/
structure Goes (E : Env) (h : T Blk) (nx : Nat) (w : World) (E' : Env) (h' : T Blk) (nx' : Nat) (w' : World) : Prop where
  ext : Ext E E'
  out : ∀ i, ¬ (nx ≤ i ∧ i < nx') → E'.m i = E.m i
  le : nx ≤ nx'
  rel : HRel E' h' w'
  frame : Frame E h w w'
  ids : ∀ i b, h'.get i = some b → (∃ c, h.get i = some c) ∨ (nx ≤ i ∧ i < nx')
  own : ∀ i b p, h'.get i = some b → E'.m i = some p → (∃ j c q, h.get j = some c ∧ E.m j = some q ∧ q.blk = p.blk) ∨ w.heap.size ≤ p.blk
  uown : ∀ i e p, h'.get i = some (.abs e) → E'.m i = some p → ∀ k, E'.ρ.A.own p.blk w' k → Owned E h w k ∨ w.heap.size ≤ k

def Fresh (E : Env) (nx nx' : Nat) : Prop := ∀ i, nx ≤ i → i < nx' → E.m i = none
def Blk.isAbs : Blk → Bool
  | .abs _ => true
  | _ => false
theorem Blk.not_abs {b : Blk} (h : b.isAbs = false) (e : X) : b ≠ .abs e := fun hb => by
  subst hb
  cases h

theorem lt_of_heap {w : World} {k : Nat} {o : Obj} (h : w.heap[k]? = some o) : k < w.heap.size := (Array.getElem?_eq_some_iff.1 h).1

theorem Frame.refl (E : Env) (h : T Blk) (w : World) : Frame E h w w := ⟨rfl, rfl, rfl, Nat.le_refl _, fun _ _ _ => rfl⟩
theorem Owned.abs {E : Env} {h : T Blk} {w : World} {i : Nat} {e : X} {p : Pl} (hi : h.get i = some (.abs e)) (hp : E.m i = some p) {k : Nat} (hk : E.ρ.A.own p.blk w k) : Owned E h w k := .inr ⟨i, e, p, hi, hp, hk⟩
theorem Owned.blk {E : Env} {h : T Blk} {w : World} {i : Nat} {b : Blk} {p : Pl} (hi : h.get i = some b) (hp : E.m i = some p) : Owned E h w p.blk := .inl ⟨i, b, p, hi, hp, rfl⟩
theorem Goes.refl {E : Env} {h : T Blk} {nx : Nat} {w : World} (hr : HRel E h w) : Goes E h nx w E h nx w :=
  ⟨Ext.refl E, fun _ _ => rfl, Nat.le_refl _, hr, Frame.refl _ _ _, fun i b hb => .inl ⟨b, hb⟩, fun i b p hb hp => .inl ⟨i, b, p, hb, hp, rfl⟩, fun i e p hi hp k hk => .inl (.abs hi hp hk)⟩
/-- What the memory behind a step stands for, that ahead of it does, or it is new. -/
theorem Goes.owned {E E' : Env} {h h' : T Blk} {nx nx' : Nat} {w w' : World} (g : Goes E h nx w E' h' nx' w') {k : Nat} (hk : Owned E' h' w' k) : Owned E h w k ∨ w.heap.size ≤ k := by
  rcases hk with ⟨j, c, q, hj, hq, rfl⟩ | ⟨j, e, q, hj, hq, ho⟩
  · rcases g.own j c q hj hq with ⟨j2, d, r, h1, h2, h3⟩ | hge
    · exact .inl (.inl ⟨j2, d, r, h1, h2, h3⟩)
    · exact .inr hge
  · exact g.uown j e q hj hq k ho
theorem Goes.trans {E E1 E2 : Env} {h h1 h2 : T Blk} {n n1 n2 : Nat} {w w1 w2 : World} (a : Goes E h n w E1 h1 n1 w1) (b : Goes E1 h1 n1 w1 E2 h2 n2 w2) : Goes E h n w E2 h2 n2 w2 where
  ext := a.ext.trans b.ext
  out := fun i hi => by
    have h1 := a.le
    have h2 := b.le
    rw [b.out i (by omega), a.out i (by omega)]
  le := Nat.le_trans a.le b.le
  rel := b.rel
  frame := ⟨b.frame.os.trans a.frame.os, b.frame.tape.trans a.frame.tape, b.frame.output.trans a.frame.output, Nat.le_trans a.frame.size b.frame.size, fun k hk hn => by
    have hs := a.frame.size
    rw [b.frame.block k (by omega) (fun ho => ?_), a.frame.block k hk hn]
    rcases a.owned ho with h | h
    · exact hn h
    · omega⟩
  ids := fun i c hc => by
    have h1 := a.le
    have h2 := b.le
    rcases b.ids i c hc with ⟨d, hd⟩ | hn
    · rcases a.ids i d hd with h | h
      · exact .inl h
      · exact .inr (by omega)
    · exact .inr (by omega)
  own := fun i c p hc hp => by
    rcases b.own i c p hc hp with ⟨j, d, q, hd, hq, e⟩ | hge
    · rcases a.own j d q hd hq with ⟨k, f, r, hf, hr, e2⟩ | hge
      · exact .inl ⟨k, f, r, hf, hr, e2.trans e⟩
      · exact .inr (e ▸ hge)
    · exact .inr (Nat.le_trans a.frame.size hge)
  uown := fun i e p hi hp k hk => by
    rcases b.uown i e p hi hp k hk with h | hge
    · exact a.owned h
    · exact .inr (Nat.le_trans a.frame.size hge)

/-- A world that differs from another one in one block alone. -/
structure Touch (g : Nat) (w w' : World) : Prop where
  os : w'.os = w.os
  tape : w'.tape = w.tape
  output : w'.output = w.output
  size : w'.heap.size = w.heap.size
  other : ∀ k, k ≠ g → w'.heap[k]? = w.heap[k]?

/-- A block that is written. -/
theorem Goes.write {E : Env} {h : T Blk} {nx : Nat} {w w' : World} (hr : HRel E h w) {i : Nat} {b b' : Blk} {p : Pl} {o' : Obj} (hb : h.get i = some b) (hp : E.m i = some p)
    (ht : Touch p.blk w w') (ho : w'.heap[p.blk]? = some o') (hrel : b'.rel E p o') (na : b.isAbs = false := by rfl) (na' : b'.isAbs = false := by rfl) : Goes E h nx w E (h.set i b') nx w' := by
  have hne : ∀ j e, (h.set i b').get j = some (.abs e) → j ≠ i ∧ h.get j = some (.abs e) := fun j e hj => by
    rw [T.get_set] at hj
    by_cases e2 : j = i
    · rw [if_pos e2] at hj
      exact absurd (Option.some.inj hj) (Blk.not_abs na' e)
    · rw [if_neg e2] at hj
      exact ⟨e2, hj⟩
  have hni : ∀ j e, h.get j = some (.abs e) → j ≠ i := fun j e hj e2 => by
    subst e2
    rw [hb] at hj
    exact Blk.not_abs na e (Option.some.inj hj)
  have live : ∀ j c, (h.set i b').get j = some c → ∃ c', h.get j = some c' := fun j c hc => by
    rw [T.get_set] at hc
    by_cases e : j = i
    · subst e; exact ⟨b, hb⟩
    · rw [if_neg e] at hc; exact ⟨c, hc⟩
  obtain ⟨hA, hO⟩ := hr.abs.carry (E' := E) (h' := h.set i b') (w' := w') rfl (Nat.le_of_eq ht.size.symm) (fun j e q hj hq k hk => ht.other k (fun e2 => hr.abs.far j e q i b p hj hq hb hp (Ne.symm (hni j e hj)) (e2 ▸ hk)))
    (fun j e q hj hq => ⟨(hne j e hj).2, hq⟩) (fun j c q hj hq => .inl (by obtain ⟨c', hc'⟩ := live j c hj; exact ⟨c', hc', hq⟩))
  exact {
    ext := Ext.refl E
    out := fun _ _ => rfl
    le := Nat.le_refl _
    rel := ⟨fun j c hc => by
        rw [T.get_set] at hc
        by_cases e : j = i
        · rw [if_pos e] at hc
          subst e
          obtain rfl := Option.some.inj hc
          exact ⟨p, o', hp, ho, hrel⟩
        · rw [if_neg e] at hc
          obtain ⟨q, o, hq, ho2, hr2⟩ := hr.at_ j c hc
          refine ⟨q, o, hq, ?_, hr2⟩
          rw [ht.other q.blk (fun e2 => e (hr.inj j i c b q p hc hb hq hp e2)), ho2],
      fun j k c d q r hc hd hq hr2 e => by
        obtain ⟨c', hc'⟩ := live j c hc
        obtain ⟨d', hd'⟩ := live k d hd
        exact hr.inj j k c' d' q r hc' hd' hq hr2 e, hA⟩
    frame := ⟨ht.os, ht.tape, ht.output, Nat.le_of_eq ht.size.symm, fun k hk hn => ht.other k (fun e => hn (by subst e; exact .blk hb hp))⟩
    ids := fun j c hc => .inl (live j c hc)
    own := fun j c q hc hq => by
      obtain ⟨c', hc'⟩ := live j c hc
      exact .inl ⟨j, c', q, hc', hq, rfl⟩
    uown := fun j e q hj hq k hk => .inl (.abs (hne j e hj).2 hq ((hO j e q hj hq k).1 hk)) }

def Env.put (E : Env) (i : Nat) (p : Pl) : Env := { E with m := fun j => if j = i then some p else E.m j }
theorem Env.ext_put {E : Env} {i : Nat} {p : Pl} (h : E.m i = none) : Ext E (E.put i p) :=
  ⟨rfl, fun j q hj => by
    show (if j = i then some p else E.m j) = some q
    rw [if_neg (fun e => by subst e; rw [h] at hj; cases hj)]
    exact hj⟩
theorem Env.put_at (E : Env) (i : Nat) (p : Pl) : (E.put i p).m i = some p := if_pos rfl
theorem Env.put_ne (E : Env) {i j : Nat} (p : Pl) (h : j ≠ i) : (E.put i p).m j = E.m j := if_neg h

theorem heap_push (w : World) (o : Obj) (k : Nat) : (w.heap.push o)[k]? = if k = w.heap.size then some o else w.heap[k]? := Array.getElem?_push

/-- A block that is new, beside a step that leaves all others. -/
theorem Goes.more {E : Env} {h : T Blk} {nx : Nat} {w w' : World} (hr : HRel E h w) (hn : E.m nx = none) {b : Blk} {o : Obj} (p : Pl) (hp : w.heap.size ≤ p.blk) (ho : w'.heap[p.blk]? = some o) (bel : w'.os = w.os ∧ w'.tape = w.tape ∧ w'.output = w.output ∧ w.heap.size ≤ w'.heap.size ∧ ∀ k, k < w.heap.size → w'.heap[k]? = w.heap[k]?)
    (hrel : b.rel (E.put nx p) p o) (na : b.isAbs = false) : Goes E h nx w (E.put nx p) (h.set nx b) (nx + 1) w' := by
  obtain ⟨b1, b2, b3, b4, b5⟩ := bel
  have hno : ∀ j c, h.get j = some c → j ≠ nx := fun j c hj e => by
    subst e
    obtain ⟨q, o2, hq, _⟩ := hr.at_ j c hj
    rw [hn] at hq
    cases hq
  have old : ∀ {j c q}, j ≠ nx → (h.set nx b).get j = some c → (E.put nx p).m j = some q → h.get j = some c ∧ E.m j = some q ∧ q.blk < w.heap.size := fun {j c q} hj hc hq => by
    rw [T.get_set, if_neg hj] at hc
    rw [Env.put_ne E p hj] at hq
    obtain ⟨q', o2, hq', ho2, _⟩ := hr.at_ j c hc
    rw [hq] at hq'
    obtain rfl := Option.some.inj hq'
    exact ⟨hc, hq, lt_of_heap ho2⟩
  have hna : ∀ j e, (h.set nx b).get j = some (.abs e) → j ≠ nx := fun j e hj e2 => by
    subst e2
    rw [T.get_set, if_pos rfl] at hj
    exact Blk.not_abs na e (Option.some.inj hj)
  obtain ⟨hA, hO⟩ := hr.abs.carry (E' := E.put nx p) (h' := h.set nx b) (w' := w') rfl b4 (fun j e q hj hq k hk => b5 k (E.ρ.A.lt _ _ _ (hr.abs.ab j e q hj hq) k hk))
    (fun j e q hj hq => by obtain ⟨h1, h2, _⟩ := old (hna j e hj) hj hq; exact ⟨h1, h2⟩)
    (fun j c q hj hq => by
      by_cases e2 : j = nx
      · subst e2
        rw [Env.put_at] at hq
        obtain rfl := Option.some.inj hq
        exact .inr fun i e r hi hr2 ho2 => by
          have := E.ρ.A.lt _ _ _ (hr.abs.ab i e r hi hr2) _ ho2
          omega
      · obtain ⟨h1, h2, _⟩ := old e2 hj hq
        exact .inl ⟨c, h1, h2⟩)
  exact {
    ext := Env.ext_put hn
    out := fun i hi => Env.put_ne E p (by omega)
    le := by omega
    rel := ⟨fun j c hc => by
        by_cases e : j = nx
        · rw [T.get_set, if_pos e] at hc
          subst e
          obtain rfl := Option.some.inj hc
          exact ⟨p, o, Env.put_at _ _ _, ho, hrel⟩
        · rw [T.get_set, if_neg e] at hc
          obtain ⟨q, o2, hq, ho2, hr2⟩ := hr.at_ j c hc
          refine ⟨q, o2, by rw [Env.put_ne E p e]; exact hq, ?_, Blk.ext (Env.ext_put hn) hr2⟩
          rw [b5 _ (lt_of_heap ho2), ho2],
      fun j k c d q r hc hd hq hr2 e => by
        by_cases ej : j = nx
        · by_cases ek : k = nx
          · rw [ej, ek]
          · obtain ⟨_, _, hlt⟩ := old ek hd hr2
            subst ej
            rw [Env.put_at] at hq
            obtain rfl := Option.some.inj hq
            omega
        · obtain ⟨hc', hq', hlt⟩ := old ej hc hq
          by_cases ek : k = nx
          · subst ek
            rw [Env.put_at] at hr2
            obtain rfl := Option.some.inj hr2
            omega
          · obtain ⟨hd', hr', _⟩ := old ek hd hr2
            exact hr.inj j k c d q r hc' hd' hq' hr' e, hA⟩
    frame := ⟨b1, b2, b3, b4, fun k hk _ => b5 k hk⟩
    ids := fun j c hc => by
      by_cases e : j = nx
      · exact .inr (by omega)
      · rw [T.get_set, if_neg e] at hc; exact .inl ⟨c, hc⟩
    own := fun j c q hc hq => by
      by_cases e : j = nx
      · subst e
        rw [Env.put_at] at hq
        obtain rfl := Option.some.inj hq
        exact .inr hp
      · obtain ⟨h1, h2, _⟩ := old e hc hq
        exact .inl ⟨j, c, q, h1, h2, rfl⟩
    uown := fun j e q hj hq k hk => by
      obtain ⟨h1, h2, _⟩ := old (hna j e hj) hj hq
      exact .inl (.abs h1 h2 ((hO j e q hj hq k).1 hk)) }
/-- A new block. -/
theorem Goes.new {E : Env} {h : T Blk} {nx : Nat} {w : World} (hr : HRel E h w) (hn : E.m nx = none) {b : Blk} {o : Obj} (p : Pl) (hp : p.blk = w.heap.size)
    (hrel : b.rel (E.put nx p) p o) (na : b.isAbs = false := by rfl) : Goes E h nx w (E.put nx p) (h.set nx b) (nx + 1) { w with heap := w.heap.push o } :=
  Goes.more hr hn p (Nat.le_of_eq hp.symm) (by show (w.heap.push o)[p.blk]? = _; rw [heap_push, if_pos hp]) ⟨rfl, rfl, rfl, by show _ ≤ (w.heap.push o).size; rw [Array.size_push]; omega, fun k hk => by show (w.heap.push o)[k]? = _; rw [heap_push, if_neg (by omega)]⟩ hrel na

/-- A slice's block that an append takes over, in its place. -/
theorem Goes.take {E : Env} {h : T Blk} {nx : Nat} {w w' : World} (hr : HRel E h w) (hn : E.m nx = none) {i : Nat} {b b' : Blk} {p p' : Pl} {o' : Obj} (hb : h.get i = some b) (hp : E.m i = some p) (hi : i ≠ nx)
    (hb' : p'.blk = p.blk) (ht : Touch p.blk w w') (ho : w'.heap[p.blk]? = some o') (hrel : b'.rel (E.put nx p') p' o') (na : b.isAbs = false := by rfl) (na' : b'.isAbs = false := by rfl) :
    Goes E h nx w (E.put nx p') ((h.del i).set nx b') (nx + 1) w' := by
  have hno : ∀ j c, h.get j = some c → j ≠ nx := fun j c hj e => by
    subst e
    obtain ⟨q, o2, hq, _⟩ := hr.at_ j c hj
    rw [hn] at hq
    cases hq
  have hni : ∀ j e, h.get j = some (.abs e) → j ≠ i := fun j e hj e2 => by
    subst e2
    rw [hb] at hj
    exact Blk.not_abs na e (Option.some.inj hj)
  have old : ∀ {j c q}, j ≠ nx → ((h.del i).set nx b').get j = some c → (E.put nx p').m j = some q → j ≠ i ∧ h.get j = some c ∧ E.m j = some q := fun {j c q} hj hc hq => by
    rw [T.get_set, if_neg hj, T.get_del] at hc
    rw [Env.put_ne E p' hj] at hq
    by_cases e2 : j = i
    · rw [if_pos e2] at hc; cases hc
    · rw [if_neg e2] at hc
      exact ⟨e2, hc, hq⟩
  have hna : ∀ j e, ((h.del i).set nx b').get j = some (.abs e) → j ≠ nx := fun j e hj e2 => by
    subst e2
    rw [T.get_set, if_pos rfl] at hj
    exact Blk.not_abs na' e (Option.some.inj hj)
  obtain ⟨hA, hO⟩ := hr.abs.carry (E' := E.put nx p') (h' := (h.del i).set nx b') (w' := w') rfl (Nat.le_of_eq ht.size.symm) (fun j e q hj hq k hk => ht.other k (fun e2 => hr.abs.far j e q i b p hj hq hb hp (Ne.symm (hni j e hj)) (e2 ▸ hk)))
    (fun j e q hj hq => by obtain ⟨_, h1, h2⟩ := old (hna j e hj) hj hq; exact ⟨h1, h2⟩)
    (fun j c q hj hq => by
      by_cases e2 : j = nx
      · subst e2
        rw [Env.put_at] at hq
        obtain rfl := Option.some.inj hq
        exact .inr fun j2 e r h1 h2 ho2 => hr.abs.far j2 e r i b p h1 h2 hb hp (Ne.symm (hni j2 e h1)) (hb' ▸ ho2)
      · obtain ⟨_, h1, h2⟩ := old e2 hj hq
        exact .inl ⟨c, h1, h2⟩)
  exact {
    ext := Env.ext_put hn
    out := fun j hj => Env.put_ne E p' (by omega)
    le := by omega
    rel := ⟨fun j c hc => by
        rw [T.get_set] at hc
        by_cases e : j = nx
        · rw [if_pos e] at hc
          subst e
          obtain rfl := Option.some.inj hc
          exact ⟨p', o', Env.put_at _ _ _, by rw [hb']; exact ho, hrel⟩
        · rw [if_neg e, T.get_del] at hc
          by_cases e2 : j = i
          · rw [if_pos e2] at hc; cases hc
          · rw [if_neg e2] at hc
            obtain ⟨q, o2, hq, ho2, hr2⟩ := hr.at_ j c hc
            refine ⟨q, o2, by rw [Env.put_ne E p' e]; exact hq, ?_, Blk.ext (Env.ext_put hn) hr2⟩
            rw [ht.other q.blk (fun e3 => e2 (hr.inj j i c b q p hc hb hq hp e3)), ho2],
      fun j k c d q r hc hd hq hr2 e => by
        by_cases ej : j = nx
        · by_cases ek : k = nx
          · rw [ej, ek]
          · obtain ⟨e2, h1, h2⟩ := old ek hd hr2
            subst ej
            rw [Env.put_at] at hq
            obtain rfl := Option.some.inj hq
            exact absurd (hr.inj k i d b r p h1 hb h2 hp (by rw [← e, hb'])) e2
        · obtain ⟨e2, h1, h2⟩ := old ej hc hq
          by_cases ek : k = nx
          · subst ek
            rw [Env.put_at] at hr2
            obtain rfl := Option.some.inj hr2
            exact absurd (hr.inj j i c b q p h1 hb h2 hp (by rw [e, hb'])) e2
          · obtain ⟨_, h3, h4⟩ := old ek hd hr2
            exact hr.inj j k c d q r h1 h3 h2 h4 e, hA⟩
    frame := ⟨ht.os, ht.tape, ht.output, Nat.le_of_eq ht.size.symm, fun k hk hno => ht.other k (fun e => hno (by subst e; exact .blk hb hp))⟩
    ids := fun j c hc => by
      by_cases e : j = nx
      · exact .inr (by omega)
      · rw [T.get_set, if_neg e, T.get_del] at hc
        by_cases e2 : j = i
        · rw [if_pos e2] at hc; cases hc
        · rw [if_neg e2] at hc; exact .inl ⟨c, hc⟩
    own := fun j c q hc hq => by
      by_cases e : j = nx
      · subst e
        rw [Env.put_at] at hq
        obtain rfl := Option.some.inj hq
        exact .inl ⟨i, b, p, hb, hp, hb'.symm⟩
      · obtain ⟨_, h1, h2⟩ := old e hc hq
        exact .inl ⟨j, c, q, h1, h2, rfl⟩
    uown := fun j e q hj hq k hk => by
      obtain ⟨_, h1, h2⟩ := old (hna j e hj) hj hq
      exact .inl (.abs h1 h2 ((hO j e q hj hq k).1 hk)) }

theorem HAbs.sub {E : Env} {D h : T Blk} {w : World} (ha : HAbs E D w) (hs : ∀ i b, h.get i = some b → D.get i = some b) : HAbs E h w :=
  ⟨fun i e p hi => ha.ab i e p (hs _ _ hi), fun i e p j c q hi hp hj => ha.far i e p j c q (hs _ _ hi) hp (hs _ _ hj), fun i e p j e' q hi hp hj => ha.apart i e p j e' q (hs _ _ hi) hp (hs _ _ hj)⟩
/-- A block that is forgotten. -/
theorem HRel.del {E : Env} {h : T Blk} {w : World} (hr : HRel E h w) (i : Nat) : HRel E (h.del i) w :=
  have sub : ∀ j c, (h.del i).get j = some c → h.get j = some c := fun j c hc => by
    rw [T.get_del] at hc
    by_cases e : j = i
    · rw [if_pos e] at hc; cases hc
    · rw [if_neg e] at hc; exact hc
  ⟨fun j c hc => hr.at_ j c (sub j c hc), fun j k c d q r hc hd => hr.inj j k c d q r (sub j c hc) (sub k d hd), hr.abs.sub sub⟩
theorem Goes.drop {E E' : Env} {h h' : T Blk} {nx nx' : Nat} {w w' : World} (g : Goes E h nx w E' h' nx' w') (i : Nat) : Goes E h nx w E' (h'.del i) nx' w' :=
  have sub : ∀ j c, (h'.del i).get j = some c → h'.get j = some c := fun j c hc => by
    rw [T.get_del] at hc
    by_cases e : j = i
    · rw [if_pos e] at hc; cases hc
    · rw [if_neg e] at hc; exact hc
  { g with rel := g.rel.del i, ids := fun j c hc => g.ids j c (sub j c hc), own := fun j c p hc hp => g.own j c p (sub j c hc) hp, uown := fun j e p hj hp => g.uown j e p (sub j _ hj) hp }

/-- Only a draw, or nothing that lies in memory. -/
theorem HAbs.heap {E : Env} {h : T Blk} {w w' : World} (ha : HAbs E h w) (hh : w'.heap = w.heap) : HAbs E h w' ∧ ∀ i e p, h.get i = some (.abs e) → E.m i = some p → ∀ k, E.ρ.A.own p.blk w' k ↔ E.ρ.A.own p.blk w k :=
  ha.carry rfl (by rw [hh]; exact Nat.le_refl _) (fun _ _ _ _ _ _ _ => by rw [hh]) (fun _ _ _ hi hp => ⟨hi, hp⟩) (fun _ c _ hj hq => .inl ⟨c, hj, hq⟩)
theorem Goes.draw {E : Env} {h : T Blk} {nx : Nat} {w w' : World} (hr : HRel E h w) (hh : w'.heap = w.heap) (ho : w'.os = w.os) (ht : w'.tape = w.tape) (hu : w'.output = w.output) : Goes E h nx w E h nx w' where
  ext := Ext.refl E
  out := fun _ _ => rfl
  le := Nat.le_refl _
  rel := ⟨fun i b hb => by rw [hh]; exact hr.at_ i b hb, hr.inj, (hr.abs.heap hh).1⟩
  frame := ⟨ho, ht, hu, by rw [hh]; exact Nat.le_refl _, fun k _ _ => by rw [hh]⟩
  ids := fun i b hb => .inl ⟨b, hb⟩
  own := fun i b p hb hp => .inl ⟨i, b, p, hb, hp, rfl⟩
  uown := fun i e p hi hp k hk => .inl (.abs hi hp (((hr.abs.heap hh).2 i e p hi hp k).1 hk))

/-! ### Cells -/
theorem HRel.blk {E : Env} {h : T Blk} {w : World} (hr : HRel E h w) {i : Nat} {b : Blk} {p : Pl} (hb : h.get i = some b) (hp : E.m i = some p) : ∃ o, w.heap[p.blk]? = some o ∧ b.rel E p o := by
  obtain ⟨q, o, hq, ho, hrel⟩ := hr.at_ i b hb
  rw [hp] at hq
  obtain rfl := Option.some.inj hq
  exact ⟨o, ho, hrel⟩
theorem HRel.pl {E : Env} {h : T Blk} {w : World} (hr : HRel E h w) {i : Nat} {b : Blk} (hb : h.get i = some b) : ∃ p, E.m i = some p := by
  obtain ⟨q, o, hq, ho, hrel⟩ := hr.at_ i b hb
  exact ⟨q, hq⟩

/-- The cells of a block from o on. -/
theorem HRel.read {E : Env} {h : T Blk} {w : World} (hr : HRel E h w) {i : Nat} {t : TypeId} {opn : Option Nat} {c : Cells} {fz : Bool} {p : Pl} (hb : h.get i = some (.cells t opn c fz)) (hp : E.m i = some p)
    (o n : Nat) (hn : o + n ≤ c.n) : ∃ vs : List Value, vs.length = n ∧ Rels (SV.rel E) (c.list o n) vs ∧ ∀ j v, vs[j]? = some v → w.cell? ⟨p.blk, p.dl + o + j, none⟩ = some v := by
  obtain ⟨ob, ho, cs, lo, hi, rfl, hc⟩ := hr.blk hb hp
  have hfit := hc.fits
  refine ⟨(cs.toList.drop (p.dl + o)).take n, by rw [List.length_take, List.length_drop, Array.length_toList]; omega, ?_, ?_⟩
  · refine Rels.of_get (by rw [Cells.list_length, List.length_take, List.length_drop, Array.length_toList]; omega) (fun j a b ha hb2 => ?_)
    have hj : j < n := by
      have := (List.getElem?_eq_some_iff.1 ha).1
      rwa [Cells.list_length] at this
    rw [Cells.list_get c n o j hj] at ha
    obtain rfl := Option.some.inj ha
    rw [List.getElem?_take_of_lt hj, List.getElem?_drop, Array.getElem?_toList] at hb2
    obtain ⟨v, h1, h2⟩ := hc.get (o + j) (by omega)
    rw [show p.dl + (o + j) = p.dl + o + j by omega, hb2] at h1
    obtain rfl := Option.some.inj h1
    exact h2
  · intro j v hv
    have hj : j < n := by
      have := (List.getElem?_eq_some_iff.1 hv).1
      rw [List.length_take] at this
      omega
    rw [List.getElem?_take_of_lt hj, List.getElem?_drop, Array.getElem?_toList] at hv
    simp only [World.cell?, ho]
    exact hv

theorem add_eq (b o n : Nat) : (⟨b, o, none⟩ : Addr).add n = ⟨b, o + n, none⟩ := by
  unfold Addr.add
  split
  · subst_vars; rfl
  · rfl

theorem HRel.run_load {P : Program} {E : Env} {h : T Blk} {w : World} (hr : HRel E h w) {i : Nat} {t : TypeId} {opn : Option Nat} {c : Cells} {fz : Bool} {p : Pl} (hb : h.get i = some (.cells t opn c fz)) (hp : E.m i = some p)
    (o n : Nat) (hn : o + n ≤ c.n) : ∃ vs : List Value, vs.length = n ∧ Rels (SV.rel E) (c.list o n) vs ∧ (loadCells ⟨p.blk, p.dl + o, none⟩ n).run P w = .ok vs.toArray w := by
  obtain ⟨vs, h1, h2, h3⟩ := hr.read hb hp o n hn
  refine ⟨vs, h1, h2, ?_⟩
  have := run_loadCells_list (P := P) w ⟨p.blk, p.dl + o, none⟩ vs (fun j v hv => by rw [add_eq]; exact h3 j v hv)
  rwa [h1] at this

/-- Cells that are written, one after the other. -/
theorem run_puts (P : Program) (g off : Nat) (t : TypeId) (lo hi : Nat) : ∀ (xs : List Value) (i : Nat) (cs : Array Value) (w : World), w.heap[g]? = some (.cells cs t (lo, hi)) → off + i + xs.length ≤ cs.size →
    (∀ j, j < cs.size → ¬ (lo ≤ j ∧ j < hi)) → (∀ x ∈ xs, x.oneCell' = true) →
    ∃ w' cs', (storeCells ⟨g, off, none⟩ xs i).run P w = .ok () w' ∧ Touch g w w' ∧ w'.heap[g]? = some (.cells cs' t (lo, hi)) ∧ cs'.size = cs.size ∧ ∀ j, cs'[j]? = if off + i ≤ j ∧ j < off + i + xs.length then xs[j - (off + i)]? else cs[j]?
  | [], i, cs, w, hg, _, _, _ => ⟨w, cs, rfl, ⟨rfl, rfl, rfl, rfl, fun _ _ => rfl⟩, hg, rfl, fun j => by rw [if_neg (by simp)]⟩
  | x :: xs, i, cs, w, hg, hl, hf, h1 => by
    rw [List.length_cons] at hl
    have hlt : off + i < cs.size := by omega
    have hcell : w.cell? ⟨g, off + i, none⟩ = some cs[off + i] := by
      simp only [World.cell?, hg]
      exact Array.getElem?_eq_getElem hlt
    have hfz : w.frozen? ⟨g, off + i, none⟩ = false := by
      simp only [World.frozen?, hg]
      have := hf (off + i) hlt
      simp only [Bool.and_eq_false_iff, decide_eq_false_iff_not]
      omega
    have hset : (w.setCell ⟨g, off + i, none⟩ x).heap[g]? = some (.cells (cs.setIfInBounds (off + i) x) t (lo, hi)) := by
      simp [World.setCell, Array.getElem?_modify, hg]
    have htouch : Touch g w (w.setCell ⟨g, off + i, none⟩ x) := ⟨rfl, rfl, rfl, by simp [World.setCell], fun k hk => Below.heap_setCell _ _ _ _ hk⟩
    obtain ⟨w', cs', hrun, ht, hg', hs, hget⟩ := run_puts P g off t lo hi xs (i + 1) _ _ hset (by rw [Array.size_setIfInBounds]; omega) (fun j hj => hf j (by rwa [Array.size_setIfInBounds] at hj)) (fun y hy => h1 y (by simp [hy]))
    refine ⟨w', cs', ?_, ⟨ht.os.trans htouch.os, ht.tape.trans htouch.tape, ht.output.trans htouch.output, ht.size.trans htouch.size, fun k hk => (ht.other k hk).trans (htouch.other k hk)⟩, hg', by rw [hs, Array.size_setIfInBounds], fun j => ?_⟩
    · rw [storeCells, Sem.run_bind, add_eq, run_store P w _ x _ (h1 x (by simp)), hcell]
      simp only [hfz, Bool.false_eq_true, if_false, Result.andThen_ok]
      exact hrun
    · rw [hget j]
      by_cases hj : off + (i + 1) ≤ j ∧ j < off + (i + 1) + xs.length
      · rw [if_pos hj, if_pos (by rw [List.length_cons]; omega), show j - (off + i) = (j - (off + (i + 1))) + 1 by omega, List.getElem?_cons_succ]
      · rw [if_neg hj]
        by_cases he : j = off + i
        · subst he
          rw [if_pos (by rw [List.length_cons]; omega), Nat.sub_self, Array.getElem?_setIfInBounds_self_of_lt hlt]
          rfl
        · rw [if_neg (by rw [List.length_cons]; omega), Array.getElem?_setIfInBounds_ne (by omega)]

/-- Cells of a block, written. -/
theorem HRel.run_store {P : Program} {E : Env} {h : T Blk} {nx : Nat} {w : World} (hr : HRel E h w) {i : Nat} {t : TypeId} {opn : Option Nat} {c : Cells} {fz : Bool} {p : Pl} (hb : h.get i = some (.cells t opn c fz)) (hp : E.m i = some p)
    (o : Nat) {xs : List SV} {vs : List Value} (hx : Rels (SV.rel E) xs vs) (hn : o + xs.length ≤ c.n) :
    ∃ w', (storeCells ⟨p.blk, p.dl + o, none⟩ vs).run P w = .ok () w' ∧ Goes E h nx w E (h.set i (.cells t opn (c.puts o xs) fz)) nx w' := by
  obtain ⟨ob, ho, cs, lo, hi, rfl, hc⟩ := hr.blk hb hp
  have hlen := hx.length
  have hfit := hc.fits
  have h1 : ∀ v ∈ vs, v.oneCell' = true := fun v hv => by
    obtain ⟨j, hj⟩ := List.getElem?_of_mem hv
    have hjl : j < xs.length := by
      have := (List.getElem?_eq_some_iff.1 hj).1
      omega
    obtain ⟨b, hb2, hrel⟩ := hx.get j xs[j] (List.getElem?_eq_getElem hjl)
    rw [hj] at hb2
    obtain rfl := Option.some.inj hb2
    exact SV.oneCell hrel
  obtain ⟨w', cs', hrun, ht, hg, hs, hget⟩ := run_puts P p.blk (p.dl + o) t lo hi vs 0 cs w ho (by omega) hc.free h1
  refine ⟨w', hrun, Goes.write hr hb hp ht hg ⟨cs', lo, hi, rfl, ⟨hc.fz, fun j hj => hc.free j (by omega), fun sz hsz => by rw [hs]; exact hc.room sz hsz, by rw [Cells.puts_n, hs]; exact hfit, hc.dl, fun j hj => ?_⟩⟩⟩
  rw [Cells.puts_n] at hj
  rw [hget, Cells.get_puts]
  by_cases hin : o ≤ j ∧ j < o + xs.length
  · rw [dif_pos hin, if_pos (by omega)]
    obtain ⟨b, hb2, hrel⟩ := hx.get (j - o) (xs[j - o]'(by omega)) (List.getElem?_eq_getElem _)
    exact ⟨b, by rw [show p.dl + j - (p.dl + o + 0) = j - o by omega]; exact hb2, hrel⟩
  · rw [dif_neg hin, if_neg (by omega)]
    exact hc.get j hj

/-- A new row of cells. -/
theorem HRel.run_row {P : Program} {E : Env} {h : T Blk} {nx : Nat} {w : World} (hr : HRel E h w) (hn : E.m nx = none) (t : TypeId) {c : Cells} {cs : Array Value} (hs : cs.size = c.n)
    (hc : ∀ j, j < c.n → ∃ v, cs[j]? = some v ∧ (c.get j).rel E v) :
    (newRow t cs).run P w = .ok ⟨w.heap.size, 0, none⟩ { w with heap := w.heap.push (.cells cs t) } ∧
      Goes E h nx w (E.put nx ⟨w.heap.size, 0, 0⟩) (h.set nx (.cells t none c false)) (nx + 1) { w with heap := w.heap.push (.cells cs t) } :=
  ⟨rfl, Goes.new hr hn _ rfl ⟨cs, 0, 0, rfl, {
    fz := fun _ => ⟨rfl, rfl⟩
    free := fun _ _ => by omega
    room := fun _ h => by cases h
    fits := by show 0 + c.n ≤ cs.size; omega
    dl := fun _ => rfl
    get := fun j hj => by
      obtain ⟨v, h1, h2⟩ := hc j hj
      exact ⟨v, by rw [Nat.zero_add]; exact h1, SV.ext (Env.ext_put hn) h2⟩ }⟩⟩

theorem Cells.ofList_rel {E : Env} {xs : List SV} {vs : List Value} (h : Rels (SV.rel E) xs vs) : vs.toArray.size = (Cells.ofList xs).n ∧ ∀ j, j < (Cells.ofList xs).n → ∃ v, vs.toArray[j]? = some v ∧ ((Cells.ofList xs).get j).rel E v := by
  refine ⟨by rw [Cells.ofList_n]; simpa using h.length, fun j hj => ?_⟩
  have hj' : j < xs.length := by rwa [Cells.ofList_n] at hj
  obtain ⟨b, hb, hrel⟩ := h.get j xs[j] (List.getElem?_eq_getElem hj')
  exact ⟨b, by rw [List.getElem?_toArray]; exact hb, by rw [Cells.get_ofList xs j xs[j] (List.getElem?_eq_getElem hj')]; exact hrel⟩

theorem Cells.ofCells_rel {E : Env} (w : Nat) {xs : List SV} {vs : List Value} (h : Rels (SV.rel E) xs vs) : vs.toArray.size = (Cells.ofCells w xs).n ∧ ∀ j, j < (Cells.ofCells w xs).n → ∃ v, vs.toArray[j]? = some v ∧ ((Cells.ofCells w xs).get j).rel E v := by
  refine ⟨by rw [Cells.ofCells_n]; simpa using h.length, fun j hj => ?_⟩
  have hj' : j < xs.length := by rwa [Cells.ofCells_n] at hj
  obtain ⟨b, hb, hrel⟩ := h.get j xs[j] (List.getElem?_eq_getElem hj')
  exact ⟨b, by rw [List.getElem?_toArray]; exact hb, by rw [Cells.get_ofCells w xs j xs[j] (List.getElem?_eq_getElem hj')]; exact hrel⟩
end Go.Proofs.YtcnimekhpnejlaaGreat.Ev

/- The evaluator: types, literals, parts, equality. -/
namespace Go.Proofs.YtcnimekhpnejlaaGreat.Ev
open Go Go.RowKit
set_option linter.unusedVariables false

/-- What the evaluator knows of a type. -/
structure TE where
  und : TypeDesc
  size : Nat
  bytes : Nat
  zero : Value
  eqg : Bool
  held : Bool
def TEok (P : Program) (t : TypeId) (e : TE) : Prop :=
  (P.underlying t, (P.info? t).map (fun i => (i.size, i.bytes, i.zero)), P.eqGuardType P.depth t, P.stoodInHeld t) = (some e.und, some (e.size, e.bytes, some e.zero), e.eqg, e.held)
def aggD : TypeDesc → Bool
  | .struct _ | .array _ _ => true
  | _ => false

section te
variable {P : Program} {t : TypeId} {e : TE} (h : TEok P t e)
include h
theorem TEok.und : P.underlying t = some e.und := congrArg Prod.fst h
theorem TEok.info : ∃ i, P.info? t = some i ∧ i.size = e.size ∧ i.bytes = e.bytes ∧ i.zero = some e.zero := by
  have h1 : (P.info? t).map (fun i => (i.size, i.bytes, i.zero)) = some (e.size, e.bytes, some e.zero) := congrArg (fun x => x.2.1) h
  obtain ⟨i, hi, he⟩ := Option.map_eq_some_iff.1 h1
  simp only [Prod.mk.injEq] at he
  exact ⟨i, hi, he.1, he.2.1, he.2.2⟩
theorem TEok.eqg : P.eqGuardType P.depth t = e.eqg := congrArg (fun x => x.2.2.1) h
theorem TEok.held : P.stoodInHeld t = e.held := congrArg (fun x => x.2.2.2) h
theorem TEok.run_und (w : World) : (underlying t).run P w = .ok e.und w := run_underlying h.und w
theorem TEok.run_info (w : World) : ∃ i, (typeInfo t).run P w = .ok i w ∧ i.size = e.size ∧ i.bytes = e.bytes ∧ i.zero = some e.zero := by
  obtain ⟨i, hi, h1⟩ := h.info
  exact ⟨i, by simp [typeInfo, hi], h1⟩
theorem TEok.run_size (w : World) : (sizeOf t).run P w = .ok e.size w := by
  obtain ⟨i, hi, h1, _⟩ := h.run_info w
  simp [sizeOf, hi, h1]
theorem TEok.run_zero (w : World) : (zeroValue t).run P w = .ok e.zero w := by
  obtain ⟨i, hi, _, _, h3⟩ := h.run_info w
  simp [zeroValue, hi, h3]
theorem TEok.run_agg (w : World) : (isAgg t).run P w = .ok (aggD e.und) w := by
  simp only [isAgg, Sem.run_bind, h.run_und w, Result.andThen_ok]
  cases e.und <;> rfl
theorem TEok.cellsOf : P.cellsOf t = e.size := by
  obtain ⟨i, hi, h1, _⟩ := h.info
  simp [Program.cellsOf, hi, h1]
end te

/-! ### Literals -/
def litSV : Value → Option SV
  | .bool b => some (.bool b)
  | .int k n => some (.int k n)
  | .string s => some (.str s)
  | .pointer none => some .nilp
  | .slice none 0 0 => some .nils
  | .map none => some .nilm
  | .nilFunc => some .nilf
  | .nilIface => some .nili
  | _ => none
def litL : List Value → Option (List SV)
  | [] => some []
  | v :: vs => (litSV v).bind fun x => (litL vs).bind fun xs => some (x :: xs)
def litAV : Value → Option AV
  | .agg cs => (litL cs.toList).map .agg
  | v => (litSV v).map .s
theorem litSV_rel {E : Env} {v : Value} {x : SV} (h : litSV v = some x) : x.rel E v := by
  unfold litSV at h
  split at h <;> first | (obtain rfl := Option.some.inj h; rfl) | cases h
theorem litL_rel {E : Env} : ∀ {vs : List Value} {xs : List SV}, litL vs = some xs → Rels (SV.rel E) xs vs
  | [], _, h => by
    obtain rfl := Option.some.inj h
    trivial
  | v :: vs, _, h => by
    obtain ⟨x, hx, h⟩ := Option.bind_eq_some_iff.1 h
    obtain ⟨xs, hxs, h⟩ := Option.bind_eq_some_iff.1 h
    obtain rfl := Option.some.inj h
    exact ⟨litSV_rel hx, litL_rel hxs⟩
theorem litAV_rel {E : Env} {v : Value} {x : AV} (h : litAV v = some x) : x.rel E v := by
  unfold litAV at h
  split at h
  · rename_i cs
    obtain ⟨xs, hxs, rfl⟩ := Option.map_eq_some_iff.1 h
    exact ⟨cs.toList, by simp, litL_rel hxs⟩
  · obtain ⟨x, hx, rfl⟩ := Option.map_eq_some_iff.1 h
    exact litSV_rel hx

/-! ### What a run is -/
structure Ctx where
  P : Program
  tab : Nat → Option TE
  pc : List (X × Bool)
  olk : TypeId → X → List (X × Nat) → SV → Option EV
  oup : TypeId → X → List (X × Nat) → SV → EV → Option (X × List (X × Nat))
  ρ : Rho
structure Ctx.Ok (C : Ctx) : Prop where
  tab : ∀ t e, C.tab t = some e → TEok C.P t e
  pc : ∀ q ∈ C.pc, q.1.bool C.ρ = q.2
  olk : ∀ t e ls y r, C.olk t e ls y = some r → ∀ (E : Env) (o : Obj) (w : World) (b : Nat) (v : Value), E.ρ = C.ρ → linksOk E ls → C.ρ.oq (e.val C.ρ) (linksOf E ls) o → w.heap[b]? = some o → y.rel E v →
    ∃ u, (Instr.lookup t (.map (some b)) v true).run C.P w = .ok u w ∧ r.rel E u
  oup : ∀ t e ls y x r, C.oup t e ls y x = some r → ∀ (E : Env) (o : Obj) (w : World) (b : Nat) (v u : Value), E.ρ = C.ρ → linksOk E ls → C.ρ.oq (e.val C.ρ) (linksOf E ls) o → w.heap[b]? = some o → y.rel E v → x.rel E u →
    (∀ j, x = .a (.s (.ptr j 0)) → ∃ p, E.m j = some p ∧ p.dl = 0) →
    ∃ w' o', (Instr.mapUpdate t (.map (some b)) v u).run C.P w = .ok () w' ∧ Touch b w w' ∧ w'.heap[b]? = some o' ∧ C.ρ.oq (r.1.val C.ρ) (linksOf E r.2) o' ∧ linksOk E r.2
/-- What is told of an open condition. -/
def askL (pc : List (X × Bool)) (e : X) : Option Bool := (pc.find? fun q => decide (q.1 = e)).map (·.2)
def Ctx.ask (C : Ctx) (e : X) : Option Bool := askL C.pc e
def litI : X → Option Int
  | .li n => some n
  | _ => none
theorem litI_eq {e : X} {n : Int} (h : litI e = some n) : e = .li n := by
  unfold litI at h
  split at h
  · rw [Option.some.inj h]
  · cases h
def truL (pc : List (X × Bool)) : X → Option Bool
  | .lb b => some b
  | .not a => (truL pc a).map fun b => !b
  | .lt a b => match litI a, litI b with
    | some x, some y => some (decide (x < y))
    | _, _ => askL pc (.lt a b)
  | .eq a b => match litI a, litI b with
    | some x, some y => some (x == y)
    | _, _ => askL pc (.eq a b)
  | e => askL pc e
def Ctx.tru (C : Ctx) (e : X) : Option Bool := truL C.pc e
theorem askL_ok {ρ : Rho} {pc : List (X × Bool)} (hC : ∀ q ∈ pc, q.1.bool ρ = q.2) {e : X} {b : Bool} (h : askL pc e = some b) : e.bool ρ = b := by
  obtain ⟨q, hq, rfl⟩ := Option.map_eq_some_iff.1 h
  have h1 := hC q (List.mem_of_find?_eq_some hq)
  have h2 := List.find?_some hq
  simp only [decide_eq_true_eq] at h2
  rw [← h2]
  exact h1
theorem Ctx.Ok.ask_ok {C : Ctx} (hC : C.Ok) {e : X} {b : Bool} (h : C.ask e = some b) : e.bool C.ρ = b := askL_ok hC.pc h
theorem truL_ok {ρ : Rho} {pc : List (X × Bool)} (hC : ∀ q ∈ pc, q.1.bool ρ = q.2) : ∀ {e : X} {b : Bool}, truL pc e = some b → e.bool ρ = b := by
  intro e
  induction e with
  | lb b => intro c h; exact Option.some.inj h
  | not a ih =>
    intro c h
    obtain ⟨b, hb, rfl⟩ := Option.map_eq_some_iff.1 h
    show (!(a.val ρ).bool) = _
    exact congrArg Bool.not (ih hb)
  | lt a b =>
    intro c h
    simp only [truL] at h
    split at h
    · rename_i x y h1 h2
      obtain rfl := litI_eq h1
      obtain rfl := litI_eq h2
      exact Option.some.inj h
    · exact askL_ok hC h
  | eq a b =>
    intro c h
    simp only [truL] at h
    split at h
    · rename_i x y h1 h2
      obtain rfl := litI_eq h1
      obtain rfl := litI_eq h2
      exact Option.some.inj h
    · exact askL_ok hC h
  | _ => intro c h; exact askL_ok hC h
theorem Ctx.Ok.tru_ok {C : Ctx} (hC : C.Ok) {e : X} {b : Bool} (h : C.tru e = some b) : e.bool C.ρ = b := truL_ok hC.pc h
/-- A number, as an expression. -/
def asI : SV → Option (IntKind × X)
  | .int k n => some (k, .li n)
  | .xi k e => some (k, e)
  | _ => none
theorem asI_rel {E : Env} {x : SV} {q : IntKind × X} {v : Value} (h : asI x = some q) (hx : x.rel E v) : v = .int q.1 (q.2.int E.ρ) := by
  unfold asI at h
  split at h <;> first | (obtain rfl := Option.some.inj h; exact hx) | cases h
def asS : SV → Option X
  | .str s => some (.ls s)
  | .xs e => some e
  | _ => none
theorem asS_rel {E : Env} {x : SV} {q : X} {v : Value} (h : asS x = some q) (hx : x.rel E v) : v = .string (q.str E.ρ) := by
  unfold asS at h
  split at h <;> first | (obtain rfl := Option.some.inj h; exact hx) | cases h
def asB : SV → Option X
  | .bool b => some (.lb b)
  | .xb e => some e
  | _ => none
theorem asB_rel {E : Env} {x : SV} {q : X} {v : Value} (h : asB x = some q) (hx : x.rel E v) : v = .bool (q.bool E.ρ) := by
  unfold asB at h
  split at h <;> first | (obtain rfl := Option.some.inj h; exact hx) | cases h
/-- Whether a small value is true, as far as it is told. -/
def Ctx.truV (C : Ctx) (x : SV) : Option Bool := (asB x).bind C.tru
theorem Ctx.Ok.truV_ok {C : Ctx} (hC : C.Ok) {E : Env} (hρ : E.ρ = C.ρ) {x : SV} {b : Bool} {v : Value} (h : C.truV x = some b) (hx : x.rel E v) : v = .bool b := by
  obtain ⟨q, hq, h⟩ := Option.bind_eq_some_iff.1 h
  rw [asB_rel hq hx, hρ, hC.tru_ok h]

/-- The computation s ends in what v stands for, with the memory h' behind it. -/
def RunsV (P : Program) (E : Env) (h : T Blk) (nx : Nat) (w : World) (s : Sem Value) (v : EV) (h' : T Blk) (nx' : Nat) : Prop :=
  ∃ v' w' E', s.run P w = .ok v' w' ∧ Goes E h nx w E' h' nx' w' ∧ v.rel E' v'
theorem RunsV.pure {P : Program} {E : Env} {h : T Blk} {nx : Nat} {w : World} {s : Sem Value} {v : EV} (hr : HRel E h w) {v' : Value} (hs : s.run P w = .ok v' w) (hv : v.rel E v') : RunsV P E h nx w s v h nx :=
  ⟨v', w, E, hs, Goes.refl hr, hv⟩

def pureOf : Sem Value → Option Value
  | .pure v => some v
  | _ => none
theorem pureOf_run {s : Sem Value} {v : Value} (h : pureOf s = some v) (P : Program) (w : World) : s.run P w = .ok v w := by
  unfold pureOf at h
  split at h
  · obtain rfl := Option.some.inj h; rfl
  · cases h

/-! ### Parts -/
def evPart (e : TE) (cs : List SV) (off : Nat) : Option AV :=
  if aggD e.und then some (.agg ((cs.drop off).take e.size)) else (cs[off]?).map .s
theorem run_part {P : Program} {E : Env} {t : TypeId} {e : TE} (ht : TEok P t e) {cs : List SV} {vs : List Value} (hr : Rels (SV.rel E) cs vs) {off : Nat} {x : AV} (h : evPart e cs off = some x) (w : World) :
    ∃ v, (part t vs.toArray off).run P w = .ok v w ∧ x.rel E v := by
  unfold evPart at h
  simp only [part, Sem.run_bind, ht.run_agg w, Result.andThen_ok, Sem.run_ite]
  by_cases ha : aggD e.und = true
  · rw [if_pos ha] at h
    obtain rfl := Option.some.inj h
    refine ⟨.agg ((vs.drop off).take e.size).toArray, ?_, _, rfl, (hr.drop off).take e.size⟩
    rw [if_pos ha]
    simp only [ht.run_size w, Result.andThen_ok, Sem.run_pure]
    congr 2
    apply Array.toList_inj.1
    simp [List.extract_eq_take_drop]
  · rw [if_neg ha] at h
    obtain ⟨y, hy, rfl⟩ := Option.map_eq_some_iff.1 h
    obtain ⟨v, hv, hrel⟩ := hr.get off y hy
    refine ⟨v, ?_, hrel⟩
    rw [if_neg ha]
    simp [hv]

/-! ### Equality -/
def live (h : T Blk) (i : Nat) : Bool :=
  match h.get i with
  | some (.cells _ _ _ false) => true
  | _ => false
def eqSV (h : T Blk) : TypeDesc → SV → SV → Option Bool
  | .bool, .bool a, .bool b => some (a == b)
  | .int _, .int k a, .int k' b => if k = k' then some (a == b) else none
  | .string, .str a, .str b => some (a == b)
  | .pointer _, .nilp, .nilp => some true
  | .pointer _, .nilp, .ptr _ _ => some false
  | .pointer _, .ptr _ _, .nilp => some false
  | .slice _, .nils, .nils => some true
  | .slice _, .nils, .sl _ _ _ _ _ => some false
  | .slice _, .nils, .slz _ => some false
  | .slice _, .sl _ _ _ _ _, .nils => some false
  | .slice _, .slz _, .nils => some false
  | .map _ _, .nilm, .nilm => some true
  | .map _ _, .nilm, .map _ => some false
  | .map _ _, .map _, .nilm => some false
  | .func _ _ _, .nilf, .nilf => some true
  | .func _ _ _, .nilf, .func _ _ => some false
  | .func _ _ _, .func _ _, .nilf => some false
  | .interface _, .nili, .nili => some true
  | _, _, _ => none
theorem SV.sl_form {E : Env} {i o l : Nat} {c : Option Nat} {k : Nat} {v : Value} (h : (SV.sl i o l c k).rel E v) : ∃ p cp, E.m i = some p ∧ l ≤ cp ∧ v = .slice (some ⟨p.blk, p.dl + o, none⟩) l cp := by
  cases c with
  | some c => obtain ⟨p, hp, hl, rfl⟩ := h; exact ⟨p, c, hp, hl, rfl⟩
  | none => obtain ⟨p, hp, hl, rfl⟩ := h; exact ⟨p, p.cap - k, hp, by omega, rfl⟩
theorem SV.slz_form {E : Env} {c : Option Nat} {v : Value} (h : (SV.slz c).rel E v) : ∃ a cp, v = .slice (some a) 0 cp := by
  cases c with
  | some c => obtain ⟨a, rfl⟩ := h; exact ⟨a, c, rfl⟩
  | none => obtain ⟨a, c, rfl⟩ := h; exact ⟨a, c, rfl⟩
set_option maxHeartbeats 1000000 in
theorem eqSV_run {P : Program} {E : Env} {h : T Blk} {d : Nat} {t : TypeId} {u : TypeDesc} (hu : P.underlying t = some u) {x y : SV} {b : Bool} {v v' : Value} (hb : eqSV h u x y = some b) (hx : x.rel E v) (hy : y.rel E v') (w : World) : (Op.equalIn (d + 1) t v v').run P w = .ok b w := by
  unfold eqSV at hb
  split at hb
  case h_1 =>
    obtain rfl := hx
    obtain rfl := hy
    obtain rfl := Option.some.inj hb
    simp only [Op.equalIn, Sem.run_bind, run_underlying hu, Result.andThen_ok, Sem.run_pure, Option.isNone]
  case h_2 =>
    obtain rfl := hx
    obtain rfl := hy
    split at hb
    · rename_i hk
      obtain rfl := Option.some.inj hb
      subst hk
      simp only [Op.equalIn, Sem.run_bind, run_underlying hu, Result.andThen_ok, Option.isNone]
      rw [if_pos trivial]
      rfl
    · cases hb
  case h_3 =>
    obtain rfl := hx
    obtain rfl := hy
    obtain rfl := Option.some.inj hb
    simp only [Op.equalIn, Sem.run_bind, run_underlying hu, Result.andThen_ok, Sem.run_pure, Option.isNone]
  case h_4 =>
    obtain rfl := hx
    obtain rfl := hy
    obtain rfl := Option.some.inj hb
    simp only [Op.equalIn, Sem.run_bind, run_underlying hu, Result.andThen_ok, Sem.run_pure, Option.isNone]
  case h_5 =>
    obtain rfl := hx
    obtain ⟨p, _, rfl⟩ := hy
    obtain rfl := Option.some.inj hb
    simp only [Op.equalIn, Sem.run_bind, run_underlying hu, Result.andThen_ok, Sem.run_pure, Option.isNone]
  case h_6 =>
    obtain rfl := hy
    obtain ⟨p, _, rfl⟩ := hx
    obtain rfl := Option.some.inj hb
    simp only [Op.equalIn, Sem.run_bind, run_underlying hu, Result.andThen_ok, Sem.run_pure, Option.isNone]
  case h_7 =>
    obtain rfl := hx
    obtain rfl := hy
    obtain rfl := Option.some.inj hb
    simp only [Op.equalIn, Sem.run_bind, run_underlying hu, Result.andThen_ok, Sem.run_pure, Option.isNone]
  case h_8 =>
    obtain rfl := hx
    obtain ⟨p, c, _, _, rfl⟩ := SV.sl_form hy
    obtain rfl := Option.some.inj hb
    simp only [Op.equalIn, Sem.run_bind, run_underlying hu, Result.andThen_ok, Sem.run_pure, Option.isNone]
  case h_9 =>
    obtain rfl := hx
    obtain ⟨p, c, rfl⟩ := SV.slz_form hy
    obtain rfl := Option.some.inj hb
    simp only [Op.equalIn, Sem.run_bind, run_underlying hu, Result.andThen_ok, Sem.run_pure, Option.isNone]
  case h_10 =>
    obtain rfl := hy
    obtain ⟨p, c, _, _, rfl⟩ := SV.sl_form hx
    obtain rfl := Option.some.inj hb
    simp only [Op.equalIn, Sem.run_bind, run_underlying hu, Result.andThen_ok, Sem.run_pure, Option.isNone]
  case h_11 =>
    obtain rfl := hy
    obtain ⟨p, c, rfl⟩ := SV.slz_form hx
    obtain rfl := Option.some.inj hb
    simp only [Op.equalIn, Sem.run_bind, run_underlying hu, Result.andThen_ok, Sem.run_pure, Option.isNone]
  case h_12 =>
    obtain rfl := hx
    obtain rfl := hy
    obtain rfl := Option.some.inj hb
    simp only [Op.equalIn, Sem.run_bind, run_underlying hu, Result.andThen_ok, Sem.run_pure, Option.isNone]
  case h_13 =>
    obtain rfl := hx
    obtain ⟨p, _, rfl⟩ := hy
    obtain rfl := Option.some.inj hb
    simp only [Op.equalIn, Sem.run_bind, run_underlying hu, Result.andThen_ok, Sem.run_pure, Option.isNone]
  case h_14 =>
    obtain rfl := hy
    obtain ⟨p, _, rfl⟩ := hx
    obtain rfl := Option.some.inj hb
    simp only [Op.equalIn, Sem.run_bind, run_underlying hu, Result.andThen_ok, Sem.run_pure, Option.isNone]
  case h_15 =>
    obtain rfl := hx
    obtain rfl := hy
    obtain rfl := Option.some.inj hb
    simp only [Op.equalIn, Sem.run_bind, run_underlying hu, Result.andThen_ok, Sem.run_pure, Option.isNone]
  case h_16 =>
    obtain rfl := hx
    obtain ⟨p, rfl, _⟩ := hy
    obtain rfl := Option.some.inj hb
    simp only [Op.equalIn, Sem.run_bind, run_underlying hu, Result.andThen_ok, Sem.run_pure, Option.isNone]
  case h_17 =>
    obtain rfl := hy
    obtain ⟨p, rfl, _⟩ := hx
    obtain rfl := Option.some.inj hb
    simp only [Op.equalIn, Sem.run_bind, run_underlying hu, Result.andThen_ok, Sem.run_pure, Option.isNone]
  case h_18 =>
    obtain rfl := hx
    obtain rfl := hy
    obtain rfl := Option.some.inj hb
    simp only [Op.equalIn, Sem.run_bind, run_underlying hu, Result.andThen_ok, Sem.run_pure, Option.isNone]
  case h_19 => cases hb

/-- Are two values alike? By their type, as the model asks. -/
def eqF (C : Ctx) (rec : TypeId → AV → AV → Option Bool) (xs ys : List SV) : List Field → Option Bool
  | [] => some true
  | f :: fs =>
    if f.name ≠ "_" then
      (C.tab f.type).bind fun e => (evPart e xs f.offset).bind fun a => (evPart e ys f.offset).bind fun b => (rec f.type a b).bind fun r => if r = true then eqF C rec xs ys fs else some false
    else eqF C rec xs ys fs
def eqI (el : TypeId) (ee : TE) (rec : TypeId → AV → AV → Option Bool) (xs ys : List SV) : List Nat → Option Bool
  | [] => some true
  | i :: is => (evPart ee xs (i * ee.size)).bind fun a => (evPart ee ys (i * ee.size)).bind fun b => (rec el a b).bind fun r => if r = true then eqI el ee rec xs ys is else some false
/-- Open numbers and texts. -/
def eqVar (C : Ctx) : TypeDesc → SV → SV → Option Bool
  | .int k, x, y => (asI x).bind fun a => (asI y).bind fun b => if a.1 = k ∧ b.1 = k then C.tru (.eq a.2 b.2) else none
  | .string, x, y => (asS x).bind fun a => (asS y).bind fun b => C.tru (.seq a b)
  | _, _, _ => none
theorem eqVar_run {C : Ctx} (hC : C.Ok) {E : Env} (hρ : E.ρ = C.ρ) {d : Nat} {t : TypeId} {u : TypeDesc} (hu : C.P.underlying t = some u) {x y : SV} {b : Bool} {v v' : Value} (hb : eqVar C u x y = some b) (hx : x.rel E v) (hy : y.rel E v') (w : World) : (Op.equalIn (d + 1) t v v').run C.P w = .ok b w := by
  unfold eqVar at hb
  split at hb
  · rename_i k
    obtain ⟨⟨k1, a⟩, ha, hb1⟩ := Option.bind_eq_some_iff.1 hb
    obtain ⟨⟨k2, c⟩, hc, hb2⟩ := Option.bind_eq_some_iff.1 hb1
    clear hb hb1
    simp only at hb2
    split at hb2
    · rename_i hk
      obtain ⟨rfl, rfl⟩ := hk
      have hq := hC.tru_ok hb2
      obtain rfl := asI_rel ha hx
      obtain rfl := asI_rel hc hy
      refine eqSV_run (h := .nil) (E := E) (x := .int k2 (a.int E.ρ)) (y := .int k2 (c.int E.ρ)) hu ?_ rfl rfl w
      show (if k2 = k2 then some (a.int E.ρ == c.int E.ρ) else none) = some b
      rw [if_pos rfl, hρ, ← hq]
      rfl
    · cases hb2
  · obtain ⟨a, ha, hb⟩ := Option.bind_eq_some_iff.1 hb
    obtain ⟨c, hc, hb⟩ := Option.bind_eq_some_iff.1 hb
    have hq := hC.tru_ok hb
    obtain rfl := asS_rel ha hx
    obtain rfl := asS_rel hc hy
    simp only [Op.equalIn, Sem.run_bind, run_underlying hu, Result.andThen_ok, Sem.run_pure, Option.isNone]
    rw [hρ]
    refine congrArg (fun z => Result.ok z w) (Eq.trans ?_ hq)
    exact beq_toListBytes _ _
  · cases hb
def evEq (C : Ctx) (h : T Blk) : Nat → TypeId → AV → AV → Option Bool
  | 0, _, _, _ => none
  | d + 1, t, x, y =>
    (C.tab t).bind fun e =>
      match e.und, x, y with
      | .struct fs, .agg xs, .agg ys => if e.held = true then none else eqF C (evEq C h d) xs ys fs.toList
      | .array n el, .agg xs, .agg ys => (C.tab el).bind fun ee => eqI el ee (evEq C h d) xs ys (List.range n)
      | u, .s a, .s b => match eqSV h u a b with
        | some r => some r
        | none => eqVar C u a b
      | _, _, _ => none

theorem evEq_run {C : Ctx} (hC : C.Ok) {E : Env} (hρ : E.ρ = C.ρ) {h : T Blk} : ∀ (d D : Nat), d ≤ D → ∀ (t : TypeId) (x y : AV) (b : Bool) (v v' : Value), evEq C h d t x y = some b → x.rel E v → y.rel E v' → ∀ w, (Op.equalIn D t v v').run C.P w = .ok b w
  | 0, _, _, _, _, _, _, _, _, hb, _, _, _ => by cases hb
  | d + 1, 0, hD, _, _, _, _, _, _, _, _, _, _ => by omega
  | d + 1, D + 1, hD, t, x, y, b, v, v', hb, hx, hy, w => by
    unfold evEq at hb
    obtain ⟨e, he, hb⟩ := Option.bind_eq_some_iff.1 hb
    have ht := hC.tab t e he
    split at hb
    · rename_i fs xs ys hu hb0
      clear hb0
      obtain ⟨vs, rfl, hvs⟩ := hx
      obtain ⟨vs', rfl, hvs'⟩ := hy
      split at hb
      · cases hb
      · rename_i hh
        have hfs : C.P.fieldsOf t = fs := by unfold Program.fieldsOf; rw [ht.und, hu]
        rw [run_equalIn_struct w D t _ _ (by rw [hfs, ht.und, hu]) (by rw [ht.held]; simpa using hh), hfs]
        revert hb
        generalize fs.toList = l
        intro hb
        induction l with
        | nil => obtain rfl := Option.some.inj hb; rfl
        | cons f fs ih =>
          unfold eqF at hb
          unfold Op.eqFields
          split at hb
          · rename_i hn
            obtain ⟨e1, he1, hb⟩ := Option.bind_eq_some_iff.1 hb
            obtain ⟨a1, ha1, hb⟩ := Option.bind_eq_some_iff.1 hb
            obtain ⟨a2, ha2, hb⟩ := Option.bind_eq_some_iff.1 hb
            obtain ⟨r, hr, hb⟩ := Option.bind_eq_some_iff.1 hb
            obtain ⟨u1, hu1, hr1⟩ := run_part (hC.tab _ _ he1) hvs ha1 w
            obtain ⟨u2, hu2, hr2⟩ := run_part (hC.tab _ _ he1) hvs' ha2 w
            have h3 := evEq_run hC hρ d D (by omega) f.type a1 a2 r u1 u2 hr hr1 hr2 w
            rw [if_pos hn]
            simp only [Sem.run_bind, hu1, hu2, h3, Result.andThen_ok]
            cases r
            · simp only [Bool.false_eq_true, if_false] at hb
              obtain rfl := Option.some.inj hb
              simp
            · simp only [if_true] at hb
              simpa using ih hb
          · rename_i hn
            rw [if_neg hn]
            exact ih hb
    · rename_i n el xs ys hu hb0
      clear hb0
      obtain ⟨vs, rfl, hvs⟩ := hx
      obtain ⟨vs', rfl, hvs'⟩ := hy
      obtain ⟨ee, hee, hb⟩ := Option.bind_eq_some_iff.1 hb
      have hte := hC.tab _ _ hee
      obtain ⟨i, hi, _⟩ := hte.info
      rw [run_equalIn_array w D _ _ (by rw [ht.und, hu]) hi, hte.cellsOf]
      revert hb
      generalize List.range n = l
      intro hb
      induction l with
      | nil => obtain rfl := Option.some.inj hb; rfl
      | cons f fs ih =>
        unfold eqI at hb
        unfold Op.eqItems
        obtain ⟨a1, ha1, hb⟩ := Option.bind_eq_some_iff.1 hb
        obtain ⟨a2, ha2, hb⟩ := Option.bind_eq_some_iff.1 hb
        obtain ⟨r, hr, hb⟩ := Option.bind_eq_some_iff.1 hb
        obtain ⟨u1, hu1, hr1⟩ := run_part hte hvs ha1 w
        obtain ⟨u2, hu2, hr2⟩ := run_part hte hvs' ha2 w
        have h3 := evEq_run hC hρ d D (by omega) el a1 a2 r u1 u2 hr hr1 hr2 w
        simp only [Sem.run_bind, hu1, hu2, h3, Result.andThen_ok]
        cases r
        · simp only [Bool.false_eq_true, if_false] at hb
          obtain rfl := Option.some.inj hb
          simp
        · simp only [if_true] at hb
          simpa using ih hb
    · split at hb
      · rename_i r hr
        obtain rfl := Option.some.inj hb
        exact eqSV_run ht.und hr hx hy w
      · exact eqVar_run hC hρ ht.und hb hx hy w
    · cases hb

end Go.Proofs.YtcnimekhpnejlaaGreat.Ev

/- The evaluator: operations on values, and on memory. -/
namespace Go.Proofs.YtcnimekhpnejlaaGreat.Ev
open Go Go.RowKit
set_option linter.unusedVariables false
set_option linter.unusedSimpArgs false

abbrev Res := EV × T Blk × Nat
/-- The computation s ends in what r tells. -/
def Runs (C : Ctx) (E : Env) (h : T Blk) (nx : Nat) (w : World) (s : Sem Value) (r : Res) : Prop :=
  HRel E h w → E.ρ = C.ρ → Fresh E nx r.2.2 → RunsV C.P E h nx w s r.1 r.2.1 r.2.2

theorem run_newVar {P : Program} {E : Env} {h : T Blk} {nx : Nat} {w : World} (hr : HRel E h w) (hn : E.m nx = none) (t : TypeId) {x : AV} {v : Value} (hx : x.rel E v) :
    ∃ w' E', (newVar t v).run P w = .ok ⟨w.heap.size, 0, none⟩ w' ∧ Goes E h nx w E' (h.set nx (.cells t none (Cells.ofList x.cells) false)) (nx + 1) w' ∧ E'.m nx = some ⟨w.heap.size, 0, 0⟩ := by
  have hc := AV.cells_rel hx
  obtain ⟨h1, h2⟩ := Cells.ofList_rel hc
  rw [Array.toArray_toList] at h1 h2
  obtain ⟨h3, h4⟩ := HRel.run_row (P := P) hr hn t h1 h2
  exact ⟨_, _, h3, h4, Env.put_at _ _ _⟩
theorem fresh1 {E : Env} {nx : Nat} (h : Fresh E nx (nx + 1)) : E.m nx = none := h nx (Nat.le_refl _) (Nat.lt_succ_self _)

def evNew (h : T Blk) (nx : Nat) (t : TypeId) (x : AV) : Res := (.a (.s (.ptr nx 0)), h.set nx (.cells t none (Cells.ofList x.cells) false), nx + 1)
def evAlloc (C : Ctx) (h : T Blk) (nx : Nat) (t : TypeId) : Option Res := (C.tab t).bind fun e => (litAV e.zero).bind fun z => some (evNew h nx t z)
theorem evAlloc_run {C : Ctx} (hC : C.Ok) {E : Env} {h : T Blk} {nx : Nat} {w : World} {t : TypeId} {r : Res} (he : evAlloc C h nx t = some r) : Runs C E h nx w (Instr.alloc t true (.tuple #[])) r := by
  intro hr _ hf
  obtain ⟨e, h1, he⟩ := Option.bind_eq_some_iff.1 he
  obtain ⟨z, h2, he⟩ := Option.bind_eq_some_iff.1 he
  obtain rfl := Option.some.inj he
  obtain ⟨w', E', hrun, hg, hm⟩ := run_newVar (P := C.P) hr (fresh1 hf) t (litAV_rel (E := E) h2)
  exact ⟨_, w', E', by simp [Instr.alloc, (hC.tab t e h1).run_zero, hrun], hg, _, hm, rfl⟩
def evBox (h : T Blk) (nx : Nat) (t : TypeId) : EV → Option Res
  | .a x => some (evNew h nx t x)
  | _ => none
theorem evBox_run {C : Ctx} {E : Env} {h : T Blk} {nx : Nat} {w : World} {t : TypeId} {x : EV} {v : Value} {r : Res} (he : evBox h nx t x = some r) (hx : x.rel E v) : Runs C E h nx w (Instr.box t v) r := by
  intro hr _ hf
  unfold evBox at he
  split at he
  · obtain rfl := Option.some.inj he
    obtain ⟨w', E', hrun, hg, hm⟩ := run_newVar (P := C.P) hr (fresh1 hf) t hx
    exact ⟨_, w', E', by simp [Instr.box, hrun], hg, _, hm, rfl⟩
  · cases he

/-! ### Loads and stores -/
def evLoadAt (C : Ctx) (h : T Blk) (t : TypeId) (i o : Nat) : Option AV :=
  (C.tab t).bind fun e =>
    match h.get i with
    | some (.cells _ _ c _) => if aggD e.und = true then (if o + e.size ≤ c.n then some (.agg (c.list o e.size)) else none) else if o < c.n then some (.s (c.get o)) else none
    | _ => none
theorem evLoadAt_run {C : Ctx} (hC : C.Ok) {E : Env} {h : T Blk} {w : World} {t : TypeId} {i o : Nat} {x : AV} (he : evLoadAt C h t i o = some x) (hr : HRel E h w) {p : Pl} (hp : E.m i = some p) :
    ∃ v, (loadVar t ⟨p.blk, p.dl + o, none⟩).run C.P w = .ok v w ∧ x.rel E v := by
  obtain ⟨e, h1, he⟩ := Option.bind_eq_some_iff.1 he
  have ht := hC.tab t e h1
  split at he
  · rename_i t' opn c fz hb
    unfold loadVar
    simp only [Sem.run_bind, ht.run_agg w, Result.andThen_ok, Sem.run_ite]
    split at he
    · rename_i ha
      split at he
      · rename_i hn
        obtain rfl := Option.some.inj he
        obtain ⟨vs, _, h2, h3⟩ := HRel.run_load (P := C.P) hr hb hp o e.size hn
        exact ⟨.agg vs.toArray, by simp [ha, ht.run_size w, h3], vs, rfl, h2⟩
      · cases he
    · rename_i ha
      split at he
      · rename_i hn
        obtain rfl := Option.some.inj he
        obtain ⟨vs, hl, h2, h3⟩ := hr.read hb hp o 1 (by omega)
        obtain ⟨v, hv, hrel⟩ := h2.get 0 (c.get o) (Cells.list_get c 1 o 0 (by omega))
        have h4 := h3 0 v hv
        rw [Nat.add_zero] at h4
        exact ⟨v, by simp [ha, run_load, h4], hrel⟩
      · cases he
  · cases he
def evLoad (C : Ctx) (h : T Blk) (t : TypeId) : EV → Option EV
  | .a (.s (.ptr i o)) => (evLoadAt C h t i o).map .a
  | _ => none
theorem evLoad_run {C : Ctx} (hC : C.Ok) {E : Env} {h : T Blk} {w : World} {t : TypeId} {x r : EV} {v : Value} (he : evLoad C h t x = some r) (hr : HRel E h w) (hx : x.rel E v) :
    ∃ v', (Instr.loadAt t v).run C.P w = .ok v' w ∧ r.rel E v' := by
  unfold evLoad at he
  split at he
  · obtain ⟨y, hy, rfl⟩ := Option.map_eq_some_iff.1 he
    obtain ⟨p, hp, rfl⟩ := hx
    obtain ⟨v, h1, h2⟩ := evLoadAt_run hC hy hr hp
    exact ⟨v, by simp [Instr.loadAt, Instr.sureAddr, h1], h2⟩
  · cases he

def evStore (C : Ctx) (h : T Blk) (t : TypeId) : EV → EV → Option (T Blk)
  | .a (.s (.ptr i o)), .a x =>
    (C.tab t).bind fun e =>
      match h.get i with
      | some (.cells t' opn c fz) => if x.cells.length = e.size ∧ o + e.size ≤ c.n then some (h.set i (.cells t' opn (c.puts o x.cells) fz)) else none
      | _ => none
  | _, _ => none
theorem evStore_run {C : Ctx} (hC : C.Ok) {E : Env} {h h' : T Blk} {nx : Nat} {w : World} {t : TypeId} {a x : EV} {va vx : Value} (he : evStore C h t a x = some h') (hr : HRel E h w) (ha : a.rel E va) (hx : x.rel E vx) :
    ∃ w', (Instr.storeAt t va vx).run C.P w = .ok () w' ∧ Goes E h nx w E h' nx w' := by
  unfold evStore at he
  split at he
  · rename_i i o x
    obtain ⟨e, h1, he⟩ := Option.bind_eq_some_iff.1 he
    have ht := hC.tab t e h1
    split at he
    · rename_i t' opn c fz hb
      split at he
      · rename_i hn
        obtain rfl := Option.some.inj he
        obtain ⟨p, hp, rfl⟩ := ha
        have hc := AV.cells_rel hx
        obtain ⟨w', h2, h3⟩ := HRel.run_store (P := C.P) (nx := nx) hr hb hp o hc (by omega)
        refine ⟨w', ?_, h3⟩
        have hl : vx.cells.size = e.size := by rw [← hn.1, ← hc.length, Array.length_toList]
        simp [Instr.storeAt, Instr.sureAddr, storeVar, ht.run_size w, hl, h2]
      · cases he
    · cases he
  · cases he

/-! ### Addresses -/
def evFieldAddr (C : Ctx) (s : TypeId) (f : Nat) : EV → Option EV
  | .a (.s (.ptr i o)) => (C.tab s).bind fun e =>
    match e.und with
    | .struct fs => (fs[f]?).bind fun fd => (C.tab fd.type).bind fun ef => if ef.size = 0 then none else some (.a (.s (.ptr i (o + fd.offset))))
    | _ => none
  | _ => none
theorem evFieldAddr_run {C : Ctx} (hC : C.Ok) {E : Env} {w : World} {s : TypeId} {f : Nat} {x r : EV} {v : Value} (he : evFieldAddr C s f x = some r) (hx : x.rel E v) :
    ∃ v', (Instr.fieldAt s v f).run C.P w = .ok v' w ∧ r.rel E v' := by
  unfold evFieldAddr at he
  split at he
  · obtain ⟨e, h1, he⟩ := Option.bind_eq_some_iff.1 he
    split at he
    · rename_i fs hu
      obtain ⟨fd, h2, he⟩ := Option.bind_eq_some_iff.1 he
      obtain ⟨ef, h3, he⟩ := Option.bind_eq_some_iff.1 he
      split at he
      · cases he
      · rename_i hz
        obtain rfl := Option.some.inj he
        obtain ⟨p, hp, rfl⟩ := hx
        have hru := (hC.tab s e h1).run_und w
        rw [hu] at hru
        refine ⟨.pointer (some ⟨p.blk, p.dl + (_ + fd.offset), none⟩), ?_, p, hp, rfl⟩
        simp [Instr.fieldAt, hru, h2, Instr.sureAddr, fieldPlace, (hC.tab _ _ h3).run_size w, hz, add_eq, Nat.add_assoc]
    · cases he
  · cases he

/-- A place among so many. -/
def Ctx.idx (C : Ctx) (n : Nat) : SV → Option Nat
  | .int _ j => if 0 ≤ j ∧ j < n then some j.toNat else none
  | .xi _ e => if n ≤ 64 then (List.range n).find? fun j => decide (C.tru (.eq e (.li j)) = some true) else none
  | _ => none
theorem Ctx.Ok.idx_ok {C : Ctx} (hC : C.Ok) {E : Env} (hρ : E.ρ = C.ρ) {n j : Nat} {x : SV} {v : Value} (h : C.idx n x = some j) (hx : x.rel E v) : j < n ∧ ∃ k, v = .int k j := by
  unfold Ctx.idx at h
  split at h
  · split at h
    · rename_i k i hj
      obtain rfl := Option.some.inj h
      obtain rfl := hx
      exact ⟨by omega, k, by rw [Int.toNat_of_nonneg hj.1]⟩
    · cases h
  · split at h
    · rename_i k e hn
      have h1 := List.mem_range.1 (List.mem_of_find?_eq_some h)
      have h2 := List.find?_some h
      simp only [decide_eq_true_eq] at h2
      have h3 := hC.tru_ok h2
      refine ⟨h1, k, ?_⟩
      obtain rfl := hx
      rw [hρ]
      have h4 : (e.int C.ρ == (j : Int)) = true := h3
      rw [beq_iff_eq.1 h4]
    · cases h
  · cases h
def evIndexAddr (C : Ctx) (t : TypeId) : EV → EV → Option EV
  | .a (.s (.ptr i o)), .a (.s y) => (C.tab t).bind fun e =>
    match e.und with
    | .array n el => (C.tab el).bind fun ee => (C.idx n y).map fun j => .a (.s (.ptr i (o + j * ee.size)))
    | _ => none
  | .a (.s (.sl i o len c q)), .a (.s y) => (C.tab t).bind fun e =>
    match e.und with
    | .slice el => (C.tab el).bind fun ee => (C.idx len y).map fun j => .a (.s (.ptr i (o + j * ee.size)))
    | _ => none
  | _, _ => none
theorem evIndexAddr_run {C : Ctx} (hC : C.Ok) {E : Env} (hρ : E.ρ = C.ρ) {w : World} {t : TypeId} {x y r : EV} {v u : Value} (he : evIndexAddr C t x y = some r) (hx : x.rel E v) (hy : y.rel E u) :
    ∃ v', (Instr.indexAt t v u).run C.P w = .ok v' w ∧ r.rel E v' := by
  unfold evIndexAddr at he
  split at he
  · rename_i i o y
    obtain ⟨e, h1, he⟩ := Option.bind_eq_some_iff.1 he
    split at he
    · rename_i n el hu
      obtain ⟨ee, h2, he⟩ := Option.bind_eq_some_iff.1 he
      obtain ⟨j, hj, rfl⟩ := Option.map_eq_some_iff.1 he
      obtain ⟨p, hp, rfl⟩ := hx
      obtain ⟨hlt, k, rfl⟩ := hC.idx_ok hρ hj hy
      have hru := (hC.tab t e h1).run_und w
      rw [hu] at hru
      have hj2 : 0 ≤ (j : Int) ∧ (j : Int) < n := by omega
      refine ⟨_, by simp [Instr.indexAt, hru, asIntOf, Instr.sureAddr, hlt, (hC.tab _ _ h2).run_size w, add_eq]; rfl, p, hp, by rw [Nat.add_assoc]⟩
    · cases he
  · rename_i i o len c q y
    obtain ⟨e, h1, he⟩ := Option.bind_eq_some_iff.1 he
    split at he
    · rename_i el hu
      obtain ⟨ee, h2, he⟩ := Option.bind_eq_some_iff.1 he
      obtain ⟨j, hj, rfl⟩ := Option.map_eq_some_iff.1 he
      obtain ⟨p, cp, hp, _, rfl⟩ := SV.sl_form hx
      obtain ⟨hlt, k, rfl⟩ := hC.idx_ok hρ hj hy
      have hru := (hC.tab t e h1).run_und w
      rw [hu] at hru
      refine ⟨_, by simp [Instr.indexAt, hru, asIntOf, hlt, (hC.tab _ _ h2).run_size w, add_eq]; rfl, p, hp, by rw [Nat.add_assoc]⟩
    · cases he
  · cases he

end Go.Proofs.YtcnimekhpnejlaaGreat.Ev
