/- Texts of this seat joined into one: Ab, Rs, Rh, EvR, Ri, Qf, Rf, EvW, Mp, Rl. -/
import Derived.Test.YtcnimekhpnejlaaGreatVFileBack5
import Derived.Test.YtcnimekhpnejlaaGreatVFileBack0

/- What lies behind handles: inodes, and grown trees. -/
namespace Go.Proofs.YtcnimekhpnejlaaGreat
open Go Go.RowKit
set_option linter.unusedVariables false
section
variable (P : Program)
def isD (d : Ev.D) (a : Nat) (w : World) : Prop :=
  match d with
  | .st (.ino S) => ∃ m L, Inos P w a S m L
  | .st (.grow n lf) => ∃ sm, IsGrow P w a sm n lf
  | _ => False
def ownD (a : Nat) (w : World) (j : Nat) : Prop := (∃ S m L, Inos P w a S m L ∧ ownBlk a m L j) ∨ ∃ n lf sm, IsGrow P w a sm n lf ∧ (j = a ∨ j = sm)
variable {P} {w w' : World} {a : Nat}
theorem ino_grow {S : Int → Nd} {m : Nat} {L : Int → Option (Nat × Nat × Nat)} {n : Nat} {lf : Nat → List UInt8} {sm : Nat} (h : Inos P w a S m L) (h' : IsGrow P w a sm n lf) : False := by
  obtain ⟨c, _, h1⟩ := h.cell
  obtain ⟨⟨c', lim, _, _, h2⟩, _⟩ := h'
  exact absurd (h1.one h2).1 (by decide)
theorem ownD_ino {S : Int → Nd} {m : Nat} {L : Int → Option (Nat × Nat × Nat)} (h : Inos P w a S m L) (j : Nat) : ownD P a w j ↔ ownBlk a m L j := by
  constructor
  · rintro (⟨S', m', L', h', ho⟩ | ⟨n, lf, sm, h', ho⟩)
    · obtain ⟨rfl, rfl⟩ := h.one h'
      exact ho
    · exact (ino_grow h h').elim
  · exact fun ho => .inl ⟨S, m, L, h, ho⟩
theorem ownD_grow {n : Nat} {lf : Nat → List UInt8} {sm : Nat} (h : IsGrow P w a sm n lf) (j : Nat) : ownD P a w j ↔ (j = a ∨ j = sm) := by
  constructor
  · rintro (⟨S', m', L', h', ho⟩ | ⟨n, lf, sm', h', ho⟩)
    · exact (ino_grow h' h).elim
    · obtain rfl := h.sm_one h'
      exact ho
  · exact fun ho => .inr ⟨n, lf, sm, h, ho⟩
theorem ownD_lt {j : Nat} (h : ownD P a w j) : j < w.heap.size := by
  rcases h with ⟨S, m, L, h, ho⟩ | ⟨n, lf, sm, h, rfl | rfl⟩
  · exact h.lt ho
  · exact h.lt.1
  · exact h.lt.2
theorem isD_keep {d : Ev.D} (h : isD P d a w) (hk : ∀ j, ownD P a w j → w'.heap[j]? = w.heap[j]?) : isD P d a w' ∧ ∀ j, ownD P a w' j ↔ ownD P a w j := by
  unfold isD at h
  split at h
  · obtain ⟨m, L, h⟩ := h
    have h' := h.kept fun k hk2 => hk k ((ownD_ino h k).2 hk2)
    exact ⟨⟨m, L, h'⟩, fun j => (ownD_ino h' j).trans (ownD_ino h j).symm⟩
  · obtain ⟨sm, h⟩ := h
    have h' := h.kept (hk _ ((ownD_grow h _).2 (.inl rfl))) (hk _ ((ownD_grow h _).2 (.inr rfl)))
    exact ⟨⟨sm, h'⟩, fun j => (ownD_grow h' j).trans (ownD_grow h j).symm⟩
  · exact h.elim
theorem isD_self {d : Ev.D} (h : isD P d a w) : ownD P a w a := by
  unfold isD at h
  split at h
  · obtain ⟨m, L, h⟩ := h
    exact (ownD_ino h a).2 (.inl rfl)
  · obtain ⟨sm, h⟩ := h
    exact (ownD_grow h a).2 (.inl rfl)
  · exact h.elim
end
/-- What lies behind handles. -/
def absD (P : Program) : Ev.Abs where
  is := isD P
  own := ownD P
  self := fun _ _ _ h => isD_self h
  lt := fun _ _ _ _ _ h => ownD_lt h
  keep := fun _ _ _ _ h hk _ => isD_keep h hk
/-- Opaque maps: of what is kept of inodes, some told entries (at 0: a mark), and of the leaves that were set. -/
def oqD (P : Program) (d : Ev.D) (g : Int → Option Nat) (o : Obj) : Prop :=
  match d with
  | .st (.works f) => (g 0).isSome ∧ ∀ (w : World) (b : Nat), w.heap[b]? = some o → MapI elPtr P 3 w b 4096 (fun n => if n = 0 then none else (g n).or (f n)) ∧ ∀ n a, n ≠ 0 → (g n).or (f n) = some a → 1 ≤ n ∧ n ≤ 4096
  | .st (.leaves f) => g 0 = none ∧ ∀ (w : World) (b : Nat), w.heap[b]? = some o → MapI elBlk P 3 w b 4096 f ∧ ∀ n a, f n = some a → 0 ≤ n ∧ n < 4096
  | _ => False
end Go.Proofs.YtcnimekhpnejlaaGreat

/- Calls told beforehand, of opaque maps of leaves: what the evaluator computes with. -/
namespace Go.Proofs.YtcnimekhpnejlaaGreat.Ev
open Go
def sumDel : Call := fun g args h nx =>
  if g = 71 then
    match args with
    | [.a (.s (.map i)), .a (.s (.func f [(j, 0)]))] =>
      if f = 72 ∧ j ≠ i then
        match h.get i, h.get j with
        | some (.opq e []), some (.cells _ none c false) =>
          if 1 ≤ c.n then (asI (c.get 0)).bind fun q => if q.1 = .i64 then some (.tup [], h.set i (.opq (.app 22 (.cons e q.2)) []), nx) else none
          else none
        | _, _ => none
      else none
    | _ => none
  else none
def sumClo : Call := fun g args h nx =>
  if g = 74 then
    match args with
    | [.a (.s (.map i))] =>
      match h.get i with
      | some (.opq e []) => some (.a (.s (.map nx)), h.set nx (.opq e []), nx + 1)
      | _ => none
    | _ => none
  else none
def sumG : Call := sumOr sumDel sumClo
end Go.Proofs.YtcnimekhpnejlaaGreat.Ev

/- Calls told beforehand, of grown trees behind handles: what the evaluator computes with. -/
namespace Go.Proofs.YtcnimekhpnejlaaGreat.Ev
open Go
def treeZX : List SV := [.int .i64 0, .int .u32 0] ++ List.replicate 32 (.int .u8 0)
/-- What a function on a grown tree answers, and what the tree is then. -/
def rGrow (pc : List (X × Bool)) (g : Nat) (e : X) (args : List EV) : Option (EV × X) :=
  if truL pc (.app 36 e) = some true then
    if g = 59 then
      match args with
      | [.a (.s y)] => (asI y).bind fun q => if q.1 = .i64 ∧ inI64 pc q.2 = true then (truL pc (.app 30 (.cons e q.2))).map fun b => if b = true then (.tup [.agg (blkX (.app 31 (.cons e q.2))), .s (.int .i64 0)], e) else (.tup [.agg blk0, .s (.int .i64 90)], e) else none
      | _ => none
    else if g = 60 then
      match args with
      | [.a (.s y), .a (.agg l)] => (asI y).bind fun q => if q.1 = .i64 ∧ truL pc (.app 32 (.cons e q.2)) = some true then (asBlk l).map fun b => (.a (.s (.int .i64 0)), .app 33 (.cons e (.cons q.2 b))) else none
      | _ => none
    else if g = 41 then
      match args with
      | [.a (.s y)] => (asI y).bind fun q => if q.1 = .i64 ∧ truL pc (.lt q.2 (.li 0)) = some false ∧ truL pc (.lt (.li 4096) q.2) = some false then some (.a (.s (.int .i64 0)), .app 34 (.cons e q.2)) else none
      | _ => none
    else none
  else none
def sumNew : Call := fun g args h nx =>
  if g = 68 then
    match args with
    | [.a (.s (.op 0)), .a (.agg l)] => if l = treeZX then some (.tup [.s (.ptr nx 0), .s (.int .i64 0)], h.set nx (.abs (.app 35 .nil)), nx + 1) else none
    | _ => none
  else none
def sumGClo (pc : List (X × Bool)) : Call := fun g args h nx =>
  if g = 45 then
    match args with
    | [.a (.s (.ptr i 0))] =>
      match h.get i with
      | some (.abs e) => if truL pc (.app 36 e) = some true then some (.a (.s (.ptr nx 0)), h.set nx (.abs e), nx + 1) else none
      | _ => none
    | _ => none
  else none
/-- inodes.cut. -/
def rCut (pc : List (X × Bool)) (g : Nat) (args : List EV) : Option EV :=
  if g = 61 then
    match args with
    | [.a (.agg l), .a (.s y), .a (.s z)] => (asBlk l).bind fun b => (asI y).bind fun p => (asI z).bind fun s =>
      if p.1 = .i64 ∧ s.1 = .i64 ∧ truL pc (.lt p.2 (.li 0)) = some false ∧ truL pc (.lt (.li 4096) p.2) = some false ∧ truL pc (.lt s.2 (.li 0)) = some false ∧ truL pc (.lt (.li 1048576) s.2) = some false then some (.a (.agg (blkX (.app 40 (.cons b (.cons p.2 s.2)))))) else none
    | _ => none
  else none
def sumH (pc : List (X × Bool)) : Call := sumOr (sumA (rGrow pc)) (sumOr sumNew (sumOr (sumGClo pc) (sumP (rCut pc))))
end Go.Proofs.YtcnimekhpnejlaaGreat.Ev

/- A handle that is new. -/
namespace Go.Proofs.YtcnimekhpnejlaaGreat.Ev
open Go Go.RowKit
set_option linter.unusedVariables false

theorem Goes.adopt {E E1 : Env} {h h1 : T Blk} {nx n1 : Nat} {w w' : World} (g : Goes E h nx w E1 h1 n1 w') (hn : E1.m n1 = none) {a : Nat} {e : X} (his : E1.ρ.A.is (e.val E1.ρ) a w') (hown : ∀ k, E1.ρ.A.own a w' k → w.heap.size ≤ k)
    (hdis : ∀ k, E1.ρ.A.own a w' k → ¬ Owned E1 h1 w' k) : Goes E h nx w (E1.put n1 ⟨a, 0, 0⟩) (h1.set n1 (.abs e)) (n1 + 1) w' := by
  have hnone : ∀ b, h1.get n1 ≠ some b := fun b hb => by
    obtain ⟨p, o, hp, _⟩ := g.rel.at_ n1 b hb
    rw [hn] at hp
    cases hp
  have hself := E1.ρ.A.self _ _ _ his
  have hlt := E1.ρ.A.lt _ _ _ his _ hself
  have hx := Env.ext_put (p := ⟨a, 0, 0⟩) hn
  have hget : ∀ j b, (h1.set n1 (.abs e)).get j = some b → (j = n1 ∧ b = .abs e) ∨ (j ≠ n1 ∧ h1.get j = some b) := fun j b hj => by
    rw [T.get_set] at hj
    by_cases e2 : j = n1
    · rw [if_pos e2] at hj
      exact .inl ⟨e2, (Option.some.inj hj).symm⟩
    · rw [if_neg e2] at hj
      exact .inr ⟨e2, hj⟩
  have hat : ∀ p, (E1.put n1 ⟨a, 0, 0⟩).m n1 = some p → p = ⟨a, 0, 0⟩ := fun p hp => by
    rw [Env.put_at] at hp
    exact (Option.some.inj hp).symm
  have hold : ∀ j p, j ≠ n1 → (E1.put n1 ⟨a, 0, 0⟩).m j = some p → E1.m j = some p := fun j p hj hp => by
    rw [Env.put_ne E1 _ hj] at hp
    exact hp
  have hno : ∀ j b p, h1.get j = some b → E1.m j = some p → p.blk ≠ a := fun j b p hj hp e2 => hdis a hself (e2 ▸ Owned.blk hj hp)
  exact {
    ext := g.ext.trans hx
    out := fun i hi => by
      have := g.le
      rw [Env.put_ne E1 _ (by omega), g.out i (by omega)]
    le := Nat.le_succ_of_le g.le
    rel := ⟨fun j b hj => by
        rcases hget j b hj with ⟨rfl, rfl⟩ | ⟨hne, hj⟩
        · exact ⟨⟨a, 0, 0⟩, _, Env.put_at _ _ _, Array.getElem?_eq_getElem hlt, rfl⟩
        · obtain ⟨p, o, hp, ho, hr⟩ := g.rel.at_ j b hj
          exact ⟨p, o, hx.m _ _ hp, ho, Blk.ext hx hr⟩,
      fun i j b c p q hi hj hp hq e2 => by
        rcases hget i b hi with ⟨rfl, _⟩ | ⟨hni, hi1⟩
        · obtain rfl := hat p hp
          rcases hget j c hj with ⟨rfl, _⟩ | ⟨hnj, hj⟩
          · rfl
          · exact absurd e2.symm (hno j c q hj (hold j q hnj hq))
        · rcases hget j c hj with ⟨rfl, _⟩ | ⟨hnj, hj⟩
          · obtain rfl := hat q hq
            exact absurd e2 (hno i b p hi1 (hold i p hni hp))
          · exact g.rel.inj i j b c p q hi1 hj (hold i p hni hp) (hold j q hnj hq) e2,
      ⟨fun i e2 p hi hp => by
          rcases hget i _ hi with ⟨rfl, h2⟩ | ⟨hne, hi⟩
          · obtain rfl := hat p hp
            obtain rfl : e2 = e := by injection h2
            exact his
          · exact g.rel.abs.ab i e2 p hi (hold i p hne hp),
        fun i e2 p j c q hi hp hj hq hne ho => by
          rcases hget i _ hi with ⟨hin, _⟩ | ⟨hni, hi1⟩
          · subst hin
            obtain rfl := hat p hp
            rcases hget j c hj with ⟨hjn, _⟩ | ⟨hnj, hj⟩
            · exact hne hjn
            · exact hdis _ ho (Owned.blk hj (hold j q hnj hq))
          · rcases hget j c hj with ⟨hjn, _⟩ | ⟨hnj, hj⟩
            · subst hjn
              obtain rfl := hat q hq
              exact hdis a hself (Owned.abs hi1 (hold i p hni hp) ho)
            · exact g.rel.abs.far i e2 p j c q hi1 (hold i p hni hp) hj (hold j q hnj hq) hne ho,
        fun i e2 p j e3 q hi hp hj hq hne k h2 h3 => by
          rcases hget i _ hi with ⟨hin, _⟩ | ⟨hni, hi1⟩
          · subst hin
            obtain rfl := hat p hp
            rcases hget j _ hj with ⟨hjn, _⟩ | ⟨hnj, hj⟩
            · exact hne hjn
            · exact hdis _ h2 (Owned.abs hj (hold j q hnj hq) h3)
          · rcases hget j _ hj with ⟨hjn, _⟩ | ⟨hnj, hj⟩
            · subst hjn
              obtain rfl := hat q hq
              exact hdis _ h3 (Owned.abs hi1 (hold i p hni hp) h2)
            · exact g.rel.abs.apart i e2 p j e3 q hi1 (hold i p hni hp) hj (hold j q hnj hq) hne k h2 h3⟩⟩
    frame := g.frame
    ids := fun i b hi => by
      rcases hget i b hi with ⟨rfl, _⟩ | ⟨_, hi⟩
      · exact .inr ⟨g.le, Nat.lt_succ_self _⟩
      · rcases g.ids i b hi with h | h
        · exact .inl h
        · exact .inr ⟨h.1, by omega⟩
    own := fun i b p hi hp => by
      rcases hget i b hi with ⟨rfl, _⟩ | ⟨hne, hi⟩
      · obtain rfl := hat p hp
        exact .inr (hown a hself)
      · exact g.own i b p hi (hold i p hne hp)
    uown := fun i e2 p hi hp k hk => by
      rcases hget i _ hi with ⟨rfl, _⟩ | ⟨hne, hi⟩
      · obtain rfl := hat p hp
        exact .inr (hown k hk)
      · exact g.uown i e2 p hi (hold i p hne hp) k hk }
end Go.Proofs.YtcnimekhpnejlaaGreat.Ev

/- Calls told beforehand, of inodes behind handles: what the evaluator computes with. Codes: 50 kind, 51 links, 52 size, 53 stamp (of e and n), 54 a leaf (of e, n, place), 55 set (e, n, place, block, stamp), 56 resized (e, n, size, stamp), 57 is it inodes, 58 place less than the leaves (e, n, place), 59 a stamp's range. -/
namespace Go.Proofs.YtcnimekhpnejlaaGreat.Ev
open Go
def infoZX : List SV := [.int .i64 0, .int .i64 0, .int .i64 0, .int .i64 0, .int .u64 0]
def infoX (e n : X) : List SV := [.xi .i64 n, .xi .i64 (.app 50 (.cons e n)), .xi .i64 (.app 51 (.cons e n)), .xi .i64 (.app 52 (.cons e n)), .xi .u64 (.app 53 (.cons e n))]
def inU64 (pc : List (X × Bool)) : X → Bool
  | .li n => decide (0 ≤ n ∧ n ≤ 18446744073709551615)
  | e => decide (truL pc (.app 59 e) = some true)
/-- Whether a number is one of an inode that is in use: the error. -/
def rUsed (pc : List (X × Bool)) (e n : X) : Option Int :=
  (truL pc (.eq (.app 50 (.cons e n)) (.li 0))).map fun b => if b = true then 151 else 0
def rNum (pc : List (X × Bool)) (n : X) : Option Bool :=
  (truL pc (.lt n (.li 1))).bind fun a => if a = true then some false else (truL pc (.lt (.li 4096) n)).map fun b => !b
def rIno (pc : List (X × Bool)) (g : Nat) (e : X) (args : List EV) : Option (EV × X) :=
  if truL pc (.app 57 e) = some true then
    if g = 46 then
      match args with
      | [.a (.s y)] => (asI y).bind fun n => if n.1 = .i64 ∧ inI64 pc n.2 = true then (rNum pc n.2).bind fun b =>
          if b = true then (rUsed pc e n.2).map fun r => (if r = 0 then .tup [.agg (infoX e n.2), .s (.int .i64 0)] else .tup [.agg infoZX, .s (.int .i64 r)], e)
          else some (.tup [.agg infoZX, .s (.int .i64 141)], e)
        else none
      | _ => none
    else if g = 52 then
      match args with
      | [.a (.s y), .a (.s z)] => (asI y).bind fun n => (asI z).bind fun p => if n.1 = .i64 ∧ p.1 = .i64 ∧ inI64 pc n.2 = true ∧ inI64 pc p.2 = true ∧ truL pc (.lt p.2 (.li 0)) = some false ∧ truL pc (.lt p.2 (.li 4096)) = some true ∧ rNum pc n.2 = some true ∧ rUsed pc e n.2 = some 0 then some (.tup [.agg (blkX (.app 54 (.cons e (.cons n.2 p.2)))), .s (.int .i64 0)], e) else none
      | _ => none
    else if g = 63 then
      match args with
      | [.a (.s y), .a (.s z), .a (.agg l), .a (.s t)] => (asI y).bind fun n => (asI z).bind fun p => (asI t).bind fun st => (asBlk l).bind fun b =>
        if n.1 = .i64 ∧ p.1 = .i64 ∧ st.1 = .u64 ∧ inU64 pc st.2 = true ∧ rUsed pc e n.2 = some 0 ∧ truL pc (.app 58 (.cons e (.cons n.2 p.2))) = some true then some (.a (.s (.int .i64 0)), .app 55 (.cons e (.cons n.2 (.cons p.2 (.cons b st.2))))) else none
      | _ => none
    else if g = 35 then
      match args with
      | [.a (.s y), .a (.s z), .a (.s t)] => (asI y).bind fun n => (asI z).bind fun s => (asI t).bind fun st =>
        if n.1 = .i64 ∧ s.1 = .i64 ∧ st.1 = .u64 ∧ inU64 pc st.2 = true ∧ rUsed pc e n.2 = some 0 ∧ truL pc (.lt s.2 (.li 0)) = some false ∧ truL pc (.lt (.li 1048576) s.2) = some false then
          (truL pc (.eq (.app 50 (.cons e n.2)) (.li 2))).bind fun d =>
            if d = true then (if truL pc (.eq (.bin .rem .i64 s.2 (.li 64)) (.li 0)) = some true then some (.a (.s (.int .i64 0)), .app 56 (.cons e (.cons n.2 (.cons s.2 st.2)))) else none)
            else some (.a (.s (.int .i64 0)), .app 56 (.cons e (.cons n.2 (.cons s.2 st.2))))
        else none
      | _ => none
    else none
  else none
end Go.Proofs.YtcnimekhpnejlaaGreat.Ev

/- Bytes of files: what is read and written, piece by piece. -/
namespace Go.Proofs.YtcnimekhpnejlaaGreat
set_option linter.unusedVariables false

/-- Bytes between two places. -/
def rdB (bs : List UInt8) (a b : Nat) : List UInt8 := (resizeB bs b).drop a
/-- So many bytes from a place on. -/
def readB (bs : List UInt8) (a m : Nat) : List UInt8 := (bs.drop a).take m
/-- Bytes written at a place. -/
def writeB (bs : List UInt8) (a : Nat) (s : List UInt8) : List UInt8 := if s = [] then bs else overB (resizeB bs (max bs.length (a + s.length))) a s

theorem rdB_length (bs : List UInt8) (a b : Nat) : (rdB bs a b).length = b - a := by
  unfold rdB
  rw [List.length_drop, resizeB_length]
theorem rdB_get (bs : List UInt8) (a b i : Nat) : (rdB bs a b)[i]? = if a + i < b then some ((bs[a + i]?).getD 0) else none := by
  unfold rdB
  rw [List.getElem?_drop, resizeB_get]
theorem readB_length (bs : List UInt8) (a m : Nat) : (readB bs a m).length = min m (bs.length - a) := by
  unfold readB
  rw [List.length_take, List.length_drop]
theorem readB_get (bs : List UInt8) (a m i : Nat) : (readB bs a m)[i]? = if i < m then bs[a + i]? else none := by
  unfold readB
  by_cases h : i < m
  · rw [if_pos h, List.getElem?_take_of_lt h, List.getElem?_drop]
  · rw [if_neg h, List.getElem?_eq_none]
    rw [List.length_take]
    omega
theorem rdB_read {bs : List UInt8} {a m : Nat} (h : a ≤ bs.length) : rdB bs a (a + min m (bs.length - a)) = readB bs a m := by
  apply List.ext_getElem?
  intro i
  rw [rdB_get, readB_get]
  by_cases h1 : i < min m (bs.length - a)
  · rw [if_pos (by omega), if_pos (by omega), List.getElem?_eq_getElem (by omega)]
    rfl
  · rw [if_neg (by omega)]
    split
    · rw [List.getElem?_eq_none (by omega)]
    · rfl
theorem rdB_none {bs : List UInt8} {a b : Nat} (h : b ≤ a) : rdB bs a b = [] := List.eq_nil_of_length_eq_zero (by rw [rdB_length]; omega)
theorem rdB_all (bs : List UInt8) : rdB bs 0 bs.length = bs := by
  unfold rdB resizeB
  rw [Nat.sub_self]
  simp [zeros]
theorem readB_past {bs : List UInt8} {a m : Nat} (h : bs.length ≤ a) : readB bs a m = [] := List.eq_nil_of_length_eq_zero (by rw [readB_length]; omega)

/-! ### Leaves, one behind the other -/
def leavesCat (bs : List UInt8) (f : Nat) : Nat → List UInt8
  | 0 => []
  | k + 1 => leavesCat bs f k ++ leafOf bs (f + k)
theorem leavesCat_length (bs : List UInt8) (f : Nat) : ∀ k, (leavesCat bs f k).length = 256 * k
  | 0 => rfl
  | k + 1 => by
    unfold leavesCat
    rw [List.length_append, leavesCat_length bs f k, leafOf_length]
    omega
theorem leavesCat_get (bs : List UInt8) (f : Nat) : ∀ (k i : Nat), (leavesCat bs f k)[i]? = if i < 256 * k then some ((bs[256 * f + i]?).getD 0) else none
  | 0, i => by simp [leavesCat]
  | k + 1, i => by
    unfold leavesCat
    rw [List.getElem?_append, leavesCat_length, leavesCat_get bs f k i, leafOf_get]
    by_cases h1 : i < 256 * k
    · rw [if_pos h1, if_pos h1, if_pos (by omega)]
    · rw [if_neg h1]
      by_cases h2 : i - 256 * k < 256
      · rw [if_pos h2, if_pos (by omega), show 256 * (f + k) + (i - 256 * k) = 256 * f + i by omega]
      · rw [if_neg h2, if_neg (by omega)]
theorem leavesCat_rd {bs : List UInt8} {a b k : Nat} (h : b ≤ 256 * (a / 256 + k)) : ((leavesCat bs (a / 256) k).take (b - 256 * (a / 256))).drop (a - 256 * (a / 256)) = rdB bs a b := by
  apply List.ext_getElem?
  intro i
  rw [List.getElem?_drop, rdB_get]
  by_cases h1 : a + i < b
  · rw [if_pos h1, List.getElem?_take_of_lt (by omega), leavesCat_get, if_pos (by omega), show 256 * (a / 256) + (a - 256 * (a / 256) + i) = a + i by omega]
  · rw [if_neg h1, List.getElem?_eq_none]
    rw [List.length_take]
    omega

/-! ### Laying, leaf by leaf -/
theorem lay_step {bs s : List UInt8} {a m : Nat} (hm : m = min s.length (256 - a % 256)) (h : a + s.length ≤ bs.length) {b : List UInt8} (hb : b = leafOf bs (a / 256) ∨ (m = 256 ∧ b.length = 256)) :
    setB bs (a / 256) (overB b (a % 256) (s.take m)) = overB bs a (s.take m) := by
  have hlen : b.length = 256 := by
    rcases hb with rfl | hb
    · exact leafOf_length _ _
    · exact hb.2
  have hlt : (s.take m).length = m := by rw [List.length_take]; omega
  have h1 : (overB b (a % 256) (s.take m)).length = 256 := by rw [overB_length (by omega), hlen]
  by_cases h0 : s.length = 0
  · have hs : s = [] := List.eq_nil_of_length_eq_zero h0
    subst hs
    have hb : b = leafOf bs (a / 256) := by
      rcases hb with hb | hb
      · exact hb
      · have := hb.1
        simp at hm
        omega
    have e1 : overB b (a % 256) [] = b := by simp [overB]
    have e2 : overB bs a [] = bs := by simp [overB]
    rw [List.take_nil, e1, e2]
    apply List.ext_getElem?
    intro j
    have := h
    simp at this
    rw [setB_get hlen (by omega)]
    split
    · rename_i hj
      rw [hb, leafOf_get, if_pos (by omega), show 256 * (a / 256) + (j - 256 * (a / 256)) = j by omega, List.getElem?_eq_getElem hj.2.2]
      rfl
    · rfl
  · apply List.ext_getElem?
    intro j
    rw [setB_get h1 (by omega), overB_get (by omega), overB_get (by omega), hlt]
    by_cases hj : 256 * (a / 256) ≤ j ∧ j < 256 * (a / 256) + 256 ∧ j < bs.length
    · rw [if_pos hj]
      by_cases h2 : a ≤ j ∧ j < a + m
      · rw [if_pos (by omega), if_pos h2]
        congr 1
        omega
      · rw [if_neg (by omega), if_neg h2]
        rcases hb with rfl | hb
        · rw [leafOf_get, if_pos (by omega), show 256 * (a / 256) + (j - 256 * (a / 256)) = j by omega, List.getElem?_eq_getElem hj.2.2]
          rfl
        · omega
    · rw [if_neg hj, if_neg (by omega)]
theorem overB_two {bs s : List UInt8} {a m : Nat} (hm : m ≤ s.length) (h : a + s.length ≤ bs.length) : overB (overB bs a (s.take m)) (a + m) (s.drop m) = overB bs a s := by
  have hlt : (s.take m).length = m := by rw [List.length_take]; omega
  have hld : (s.drop m).length = s.length - m := List.length_drop
  have h1 : (overB bs a (s.take m)).length = bs.length := overB_length (by omega)
  apply List.ext_getElem?
  intro j
  rw [overB_get (by omega), overB_get (by omega), overB_get (by omega), hld, hlt]
  by_cases h2 : a + m ≤ j ∧ j < a + m + (s.length - m)
  · rw [if_pos h2, if_pos (by omega), List.getElem?_drop]
    congr 1
    omega
  · rw [if_neg h2]
    by_cases h3 : a ≤ j ∧ j < a + m
    · rw [if_pos h3, if_pos (by omega), List.getElem?_take_of_lt (by omega)]
    · rw [if_neg h3, if_neg (by omega)]
theorem overB_nil (bs : List UInt8) (a : Nat) : overB bs a [] = bs := by simp [overB]

/-! ### What is written is read -/
theorem writeB_length {bs s : List UInt8} {a : Nat} (h : s ≠ []) : (writeB bs a s).length = max bs.length (a + s.length) := by
  unfold writeB
  rw [if_neg h, overB_length (by rw [resizeB_length]; omega), resizeB_length]
theorem writeB_get {bs s : List UInt8} {a : Nat} (h : s ≠ []) (j : Nat) : (writeB bs a s)[j]? = if a ≤ j ∧ j < a + s.length then s[j - a]? else if j < max bs.length (a + s.length) then some ((bs[j]?).getD 0) else none := by
  unfold writeB
  rw [if_neg h, overB_get (by rw [resizeB_length]; omega), resizeB_get]
theorem writeB_nil (s : List UInt8) : writeB [] 0 s = s := by
  by_cases h : s = []
  · rw [h]; rfl
  · apply List.ext_getElem?
    intro j
    rw [writeB_get h]
    by_cases h1 : j < s.length
    · rw [if_pos (by omega)]; rfl
    · rw [if_neg (by omega), if_neg (by simp; omega), List.getElem?_eq_none (by omega)]
theorem read_same (bs s : List UInt8) (a : Nat) : readB (writeB bs a s) a s.length = s := by
  by_cases h : s = []
  · subst h
    unfold readB
    simp
  · apply List.ext_getElem?
    intro j
    rw [readB_get, writeB_get h]
    by_cases h1 : j < s.length
    · rw [if_pos h1, if_pos (by omega)]
      congr 1
      omega
    · rw [if_neg h1, List.getElem?_eq_none (by omega)]
theorem read_before (bs s : List UInt8) {a k : Nat} (hk : k ≤ a) (hl : k ≤ bs.length) : readB (writeB bs a s) 0 k = bs.take k := by
  by_cases h : s = []
  · subst h
    unfold writeB readB
    rw [if_pos rfl]
    rfl
  · apply List.ext_getElem?
    intro j
    rw [readB_get, writeB_get h, Nat.zero_add]
    by_cases h1 : j < k
    · rw [if_pos h1, if_neg (by omega), if_pos (by omega), List.getElem?_take_of_lt h1, List.getElem?_eq_getElem (by omega)]
      rfl
    · rw [if_neg h1, List.getElem?_eq_none]
      rw [List.length_take]
      omega
theorem read_behind (bs s : List UInt8) {a k : Nat} (hk : a + s.length ≤ k) (hs : s ≠ []) (hl : a + s.length ≤ bs.length) (m : Nat) : readB (writeB bs a s) k m = readB bs k m := by
  apply List.ext_getElem?
  intro j
  rw [readB_get, readB_get, writeB_get hs]
  split
  · rw [if_neg (by omega)]
    split
    · rw [List.getElem?_eq_getElem (by omega)]
      rfl
    · rw [List.getElem?_eq_none (by omega)]
  · rfl
theorem read_cut (bs : List UInt8) (a k m : Nat) (hm : k ≤ m) : readB (resizeB (resizeB bs a) (a + k)) a m = zeros k := by
  apply List.ext_getElem?
  intro j
  rw [readB_get, resizeB_get, resizeB_get, zeros_get]
  by_cases h1 : j < k
  · rw [if_pos (by omega), if_pos (by omega), if_neg (by omega), if_pos h1]
    rfl
  · rw [if_neg h1]
    split
    · rw [if_neg (by omega)]
    · rfl
end Go.Proofs.YtcnimekhpnejlaaGreat

/- Calls told beforehand, of files: what the evaluator computes with. Codes: 60 laid (e, n, at, text, stamp), 61 bytes (e, n, from, to), 62 does a text fit (e, n, at, text), 63 a block with a text (b, at, text), 64 may be written (at, text), 65 written (e, n, at, text, stamp), 66 read (e, n, at, many), 67 the same (e, n, o), 68 is it a file (e, n), 69 zeros (n), 70 the place of a text (t, s). -/
namespace Go.Proofs.YtcnimekhpnejlaaGreat.Ev
open Go
/-- block.Lay. -/
def rLayB (pc : List (X × Bool)) (g : Nat) (args : List EV) : Option EV :=
  if g = 62 then
    match args with
    | [.a (.agg l), .a (.s y), .a (.s u)] => (asBlk l).bind fun b => (asI y).bind fun p => (asS u).bind fun s =>
      if p.1 = .i64 ∧ truL pc (.lt p.2 (.li 0)) = some false ∧ truL pc (.lt (.li 256) p.2) = some false ∧ truL pc (.lt (.bin .sub .i64 (.li 256) p.2) (.len s)) = some false then some (.tup [.agg (blkX (.app 63 (.cons b (.cons p.2 s)))), .s (.int .i64 0)]) else none
    | _ => none
  else none
/-- lay and bytes of files. -/
def rFile (pc : List (X × Bool)) (g : Nat) (e : X) (args : List EV) : Option (EV × X) :=
  if truL pc (.app 57 e) = some true then
    if g = 36 then
      match args with
      | [.a (.s y), .a (.s z), .a (.s u), .a (.s t)] => (asI y).bind fun n => (asI z).bind fun a => (asS u).bind fun s => (asI t).bind fun st =>
        if n.1 = .i64 ∧ a.1 = .i64 ∧ st.1 = .u64 ∧ inU64 pc st.2 = true ∧ rNum pc n.2 = some true ∧ rUsed pc e n.2 = some 0 ∧ truL pc (.app 62 (.cons e (.cons n.2 (.cons a.2 s)))) = some true then some (.a (.s (.int .i64 0)), .app 60 (.cons e (.cons n.2 (.cons a.2 (.cons s st.2))))) else none
      | _ => none
    else if g = 37 then
      match args with
      | [.a (.s y), .a (.s z), .a (.s u)] => (asI y).bind fun n => (asI z).bind fun a => (asI u).bind fun b =>
        if n.1 = .i64 ∧ a.1 = .i64 ∧ b.1 = .i64 ∧ rNum pc n.2 = some true ∧ rUsed pc e n.2 = some 0 ∧ truL pc (.lt a.2 (.li 0)) = some false ∧ truL pc (.lt (.li 1048576) b.2) = some false then some (.tup [.s (.xs (.app 61 (.cons e (.cons n.2 (.cons a.2 b.2))))), .s (.int .i64 0)], e) else none
      | _ => none
    else none
  else none
/-- file.whole: a closure does something with a copy; if all is well, the copy is what there is. -/
def sumWhole (has : Nat → Bool) (pc : List (X × Bool)) (call : Call) : Call := fun g args h nx =>
  if g = 33 then
    match args with
    | [.a (.s (.ptr i 0)), .a (.s (.func f cs))] =>
      match h.get i with
      | some (.abs e) =>
        if truL pc (.app 57 e) = some true ∧ has f = true then
          (call f (.a (.s (.ptr nx 0)) :: ptrs cs) (h.set nx (.abs e)) (nx + 1)).bind fun r =>
            match r.1, r.2.1.get i, r.2.1.get nx with
            | .a (.s (.int .i64 n)), some (.abs e1), some (.abs e2) =>
              if n = 0 then
                if truL pc (.app 57 e1) = some true ∧ truL pc (.app 57 e2) = some true then some (.a (.s (.int .i64 0)), (r.2.1.set i (.abs e2)).del nx, r.2.2) else none
              else some (.a (.s (.int .i64 n)), r.2.1, r.2.2)
            | _, _, _ => none
        else none
      | _ => none
    | _ => none
  else none
def sumL (pc : List (X × Bool)) : Call := sumOr (sumA (rIno pc)) (sumP (rLayB pc))
def sumFi (pc : List (X × Bool)) : Call := sumOr (sumA (rIno pc)) (sumA (rFile pc))
end Go.Proofs.YtcnimekhpnejlaaGreat.Ev

/- A handle that is new, and owns what another one owned; a handle that is another one now. -/
namespace Go.Proofs.YtcnimekhpnejlaaGreat.Ev
open Go Go.RowKit
set_option linter.unusedVariables false

theorem Goes.adopt2 {E E1 : Env} {h h1 : T Blk} {nx n1 : Nat} {w w' : World} (g : Goes E h nx w E1 h1 n1 w') (hn : E1.m n1 = none) {a : Nat} {e : X} (his : E1.ρ.A.is (e.val E1.ρ) a w') (hnew : w.heap.size ≤ a) (hown : ∀ k, E1.ρ.A.own a w' k → Owned E h w k ∨ w.heap.size ≤ k)
    (hdis : ∀ k, E1.ρ.A.own a w' k → ¬ Owned E1 h1 w' k) : Goes E h nx w (E1.put n1 ⟨a, 0, 0⟩) (h1.set n1 (.abs e)) (n1 + 1) w' := by
  have hnone : ∀ b, h1.get n1 ≠ some b := fun b hb => by
    obtain ⟨p, o, hp, _⟩ := g.rel.at_ n1 b hb
    rw [hn] at hp
    cases hp
  have hself := E1.ρ.A.self _ _ _ his
  have hlt := E1.ρ.A.lt _ _ _ his _ hself
  have hx := Env.ext_put (p := ⟨a, 0, 0⟩) hn
  have hget : ∀ j b, (h1.set n1 (.abs e)).get j = some b → (j = n1 ∧ b = .abs e) ∨ (j ≠ n1 ∧ h1.get j = some b) := fun j b hj => by
    rw [T.get_set] at hj
    by_cases e2 : j = n1
    · rw [if_pos e2] at hj
      exact .inl ⟨e2, (Option.some.inj hj).symm⟩
    · rw [if_neg e2] at hj
      exact .inr ⟨e2, hj⟩
  have hat : ∀ p, (E1.put n1 ⟨a, 0, 0⟩).m n1 = some p → p = ⟨a, 0, 0⟩ := fun p hp => by
    rw [Env.put_at] at hp
    exact (Option.some.inj hp).symm
  have hold : ∀ j p, j ≠ n1 → (E1.put n1 ⟨a, 0, 0⟩).m j = some p → E1.m j = some p := fun j p hj hp => by
    rw [Env.put_ne E1 _ hj] at hp
    exact hp
  have hno : ∀ j b p, h1.get j = some b → E1.m j = some p → p.blk ≠ a := fun j b p hj hp e2 => hdis a hself (e2 ▸ Owned.blk hj hp)
  exact {
    ext := g.ext.trans hx
    out := fun i hi => by
      have := g.le
      rw [Env.put_ne E1 _ (by omega), g.out i (by omega)]
    le := Nat.le_succ_of_le g.le
    rel := ⟨fun j b hj => by
        rcases hget j b hj with ⟨rfl, rfl⟩ | ⟨hne, hj⟩
        · exact ⟨⟨a, 0, 0⟩, _, Env.put_at _ _ _, Array.getElem?_eq_getElem hlt, rfl⟩
        · obtain ⟨p, o, hp, ho, hr⟩ := g.rel.at_ j b hj
          exact ⟨p, o, hx.m _ _ hp, ho, Blk.ext hx hr⟩,
      fun i j b c p q hi hj hp hq e2 => by
        rcases hget i b hi with ⟨rfl, _⟩ | ⟨hni, hi1⟩
        · obtain rfl := hat p hp
          rcases hget j c hj with ⟨rfl, _⟩ | ⟨hnj, hj⟩
          · rfl
          · exact absurd e2.symm (hno j c q hj (hold j q hnj hq))
        · rcases hget j c hj with ⟨rfl, _⟩ | ⟨hnj, hj⟩
          · obtain rfl := hat q hq
            exact absurd e2 (hno i b p hi1 (hold i p hni hp))
          · exact g.rel.inj i j b c p q hi1 hj (hold i p hni hp) (hold j q hnj hq) e2,
      ⟨fun i e2 p hi hp => by
          rcases hget i _ hi with ⟨rfl, h2⟩ | ⟨hne, hi⟩
          · obtain rfl := hat p hp
            obtain rfl : e2 = e := by injection h2
            exact his
          · exact g.rel.abs.ab i e2 p hi (hold i p hne hp),
        fun i e2 p j c q hi hp hj hq hne ho => by
          rcases hget i _ hi with ⟨hin, _⟩ | ⟨hni, hi1⟩
          · subst hin
            obtain rfl := hat p hp
            rcases hget j c hj with ⟨hjn, _⟩ | ⟨hnj, hj⟩
            · exact hne hjn
            · exact hdis _ ho (Owned.blk hj (hold j q hnj hq))
          · rcases hget j c hj with ⟨hjn, _⟩ | ⟨hnj, hj⟩
            · subst hjn
              obtain rfl := hat q hq
              exact hdis a hself (Owned.abs hi1 (hold i p hni hp) ho)
            · exact g.rel.abs.far i e2 p j c q hi1 (hold i p hni hp) hj (hold j q hnj hq) hne ho,
        fun i e2 p j e3 q hi hp hj hq hne k h2 h3 => by
          rcases hget i _ hi with ⟨hin, _⟩ | ⟨hni, hi1⟩
          · subst hin
            obtain rfl := hat p hp
            rcases hget j _ hj with ⟨hjn, _⟩ | ⟨hnj, hj⟩
            · exact hne hjn
            · exact hdis _ h2 (Owned.abs hj (hold j q hnj hq) h3)
          · rcases hget j _ hj with ⟨hjn, _⟩ | ⟨hnj, hj⟩
            · subst hjn
              obtain rfl := hat q hq
              exact hdis _ h3 (Owned.abs hi1 (hold i p hni hp) h2)
            · exact g.rel.abs.apart i e2 p j e3 q hi1 (hold i p hni hp) hj (hold j q hnj hq) hne k h2 h3⟩⟩
    frame := g.frame
    ids := fun i b hi => by
      rcases hget i b hi with ⟨rfl, _⟩ | ⟨_, hi⟩
      · exact .inr ⟨g.le, Nat.lt_succ_self _⟩
      · rcases g.ids i b hi with h | h
        · exact .inl h
        · exact .inr ⟨h.1, by omega⟩
    own := fun i b p hi hp => by
      rcases hget i b hi with ⟨rfl, _⟩ | ⟨hne, hi⟩
      · obtain rfl := hat p hp
        exact .inr hnew
      · exact g.own i b p hi (hold i p hne hp)
    uown := fun i e2 p hi hp k hk => by
      rcases hget i _ hi with ⟨rfl, _⟩ | ⟨hne, hi⟩
      · obtain rfl := hat p hp
        exact hown k hk
      · exact g.uown i e2 p hi (hold i p hne hp) k hk }

theorem Goes.moved {E E2 : Env} {h h2 : T Blk} {nx n2 : Nat} {w w2 w3 : World} (g : Goes E h nx w E2 h2 n2 w2) {i j : Nat} {ei ej e' : X} {p q : Pl} (hi : h2.get i = some (.abs ei)) (hj : h2.get j = some (.abs ej)) (hij : i ≠ j) (hp : E2.m i = some p) (hq : E2.m j = some q)
    (ht : Touch p.blk w2 w3) (his : E2.ρ.A.is (e'.val E2.ρ) p.blk w3) (hown : ∀ k, E2.ρ.A.own p.blk w3 k → k = p.blk ∨ E2.ρ.A.own q.blk w2 k) : Goes E h nx w E2 ((h2.set i (.abs e')).del j) n2 w3 := by
  have hd : p.dl = 0 := by
    obtain ⟨o, _, h1⟩ := g.rel.blk hi hp
    exact h1
  have hget : ∀ l b, ((h2.set i (.abs e')).del j).get l = some b → l ≠ j ∧ ((l = i ∧ b = .abs e') ∨ (l ≠ i ∧ h2.get l = some b)) := fun l b hl => by
    rw [T.get_del] at hl
    split at hl
    · cases hl
    · rename_i hne
      refine ⟨hne, ?_⟩
      rw [T.get_set] at hl
      by_cases e2 : l = i
      · rw [if_pos e2] at hl
        exact .inl ⟨e2, (Option.some.inj hl).symm⟩
      · rw [if_neg e2] at hl
        exact .inr ⟨e2, hl⟩
  have hfar : ∀ l b r, h2.get l = some b → E2.m l = some r → l ≠ i → r.blk ≠ p.blk := fun l b r hl hr hne e => hne (g.rel.inj l i b _ r p hl hi hr hp e)
  have hold : ∀ l e2 r, h2.get l = some (.abs e2) → E2.m l = some r → l ≠ i → E2.ρ.A.is (e2.val E2.ρ) r.blk w3 ∧ ∀ k, E2.ρ.A.own r.blk w3 k ↔ E2.ρ.A.own r.blk w2 k := fun l e2 r hl hr hne =>
    E2.ρ.A.keep _ _ w2 w3 (g.rel.abs.ab l e2 r hl hr) (fun k ho => ht.other k fun e => by
      subst e
      exact g.rel.abs.far l e2 r i _ p hl hr hi hp (Ne.symm hne) ho) (by rw [ht.size]; exact Nat.le_refl _)
  have hpl : p.blk < w3.heap.size := E2.ρ.A.lt _ _ _ his _ (E2.ρ.A.self _ _ _ his)
  have live : ∀ l b, ((h2.set i (.abs e')).del j).get l = some b → ∃ b', h2.get l = some b' := fun l b hl => by
    rcases (hget l b hl).2 with ⟨rfl, _⟩ | ⟨_, hl⟩
    · exact ⟨_, hi⟩
    · exact ⟨_, hl⟩
  have cross : ∀ l e2 r n, h2.get l = some (.abs e2) → E2.m l = some r → l ≠ i → l ≠ j → E2.ρ.A.own p.blk w3 n → ¬ E2.ρ.A.own r.blk w3 n := fun l e2 r n hl hr hni hnj h1 h2' => by
    have h2' := ((hold l e2 r hl hr hni).2 _).1 h2'
    rcases hown n h1 with rfl | h3
    · exact g.rel.abs.far l e2 r i _ p hl hr hi hp (Ne.symm hni) h2'
    · exact g.rel.abs.apart j ej q l e2 r hj hq hl hr hnj n h3 h2'
  exact {
    ext := g.ext
    out := g.out
    le := g.le
    rel := ⟨fun l b hl => by
        rcases (hget l b hl).2 with ⟨rfl, rfl⟩ | ⟨hne, hl⟩
        · exact ⟨p, _, hp, Array.getElem?_eq_getElem hpl, hd⟩
        · obtain ⟨r, o, hr, ho, h3⟩ := g.rel.at_ l b hl
          exact ⟨r, o, hr, by rw [ht.other _ (hfar l b r hl hr hne)]; exact ho, h3⟩,
      fun l m b c r s hl hm hr hs e2 => by
        obtain ⟨b', hb'⟩ := live l b hl
        obtain ⟨c', hc'⟩ := live m c hm
        exact g.rel.inj l m b' c' r s hb' hc' hr hs e2,
      ⟨fun l e2 r hl hr => by
          rcases (hget l _ hl).2 with ⟨rfl, h3⟩ | ⟨hne, hl⟩
          · obtain rfl : e2 = e' := by injection h3
            rw [hp] at hr
            obtain rfl := Option.some.inj hr
            exact his
          · exact (hold l e2 r hl hr hne).1,
        fun l e2 r m c s hl hr hm hs hne ho => by
          obtain ⟨hlj, hl⟩ := hget l _ hl
          obtain ⟨hmj, hm⟩ := hget m _ hm
          rcases hl with ⟨hli, h3⟩ | ⟨hli, hl⟩
          · rw [hli, hp] at hr
            obtain rfl := Option.some.inj hr
            rcases hm with ⟨hmi, _⟩ | ⟨hmi, hm⟩
            · exact hne (hmi.trans hli.symm)
            · rcases hown _ ho with h4 | h4
              · exact hfar m c s hm hs hmi h4
              · exact g.rel.abs.far j ej q m c s hj hq hm hs hmj h4
          · have ho := ((hold l e2 r hl hr hli).2 _).1 ho
            rcases hm with ⟨hmi, _⟩ | ⟨hmi, hm⟩
            · rw [hmi, hp] at hs
              obtain rfl := Option.some.inj hs
              exact g.rel.abs.far l e2 r i _ p hl hr hi hp (Ne.symm hli) ho
            · exact g.rel.abs.far l e2 r m c s hl hr hm hs hne ho,
        fun l e2 r m e3 s hl hr hm hs hne n h3 h4 => by
          obtain ⟨hlj, hl⟩ := hget l _ hl
          obtain ⟨hmj, hm⟩ := hget m _ hm
          rcases hl with ⟨hli, h5⟩ | ⟨hli, hl⟩
          · rw [hli, hp] at hr
            obtain rfl := Option.some.inj hr
            rcases hm with ⟨hmi, _⟩ | ⟨hmi, hm⟩
            · exact hne (hmi.trans hli.symm)
            · exact cross m e3 s n hm hs hmi hmj h3 h4
          · rcases hm with ⟨hmi, _⟩ | ⟨hmi, hm⟩
            · rw [hmi, hp] at hs
              obtain rfl := Option.some.inj hs
              exact cross l e2 r n hl hr hli hlj h4 h3
            · exact g.rel.abs.apart l e2 r m e3 s hl hr hm hs hne n (((hold l e2 r hl hr hli).2 _).1 h3) (((hold m e3 s hm hs hmi).2 _).1 h4)⟩⟩
    frame := ⟨ht.os.trans g.frame.os, ht.tape.trans g.frame.tape, ht.output.trans g.frame.output, by rw [ht.size]; exact g.frame.size, fun k hk hn => by
      rw [← g.frame.block k hk hn]
      refine ht.other k fun e => ?_
      subst e
      rcases g.own i _ p hi hp with ⟨l, c, r, hl, hr, e⟩ | h3
      · exact hn (.inl ⟨l, c, r, hl, hr, e⟩)
      · omega⟩
    ids := fun l b hl => by
      obtain ⟨b', hb'⟩ := live l b hl
      exact g.ids l b' hb'
    own := fun l b r hl hr => by
      obtain ⟨b', hb'⟩ := live l b hl
      exact g.own l b' r hb' hr
    uown := fun l e2 r hl hr k hk => by
      rcases (hget l _ hl).2 with ⟨rfl, h3⟩ | ⟨hne, hl⟩
      · rw [hp] at hr
        obtain rfl := Option.some.inj hr
        rcases hown k hk with rfl | h4
        · rcases g.own l _ p hi hp with ⟨l2, c, r, hl2, hr, e⟩ | h5
          · exact .inl (.inl ⟨l2, c, r, hl2, hr, e⟩)
          · exact .inr h5
        · exact g.uown j ej q hj hq k h4
      · exact g.uown l e2 r hl hr k (((hold l e2 r hl hr hne).2 _).1 hk) }
end Go.Proofs.YtcnimekhpnejlaaGreat.Ev

/- Maps with whole numbers for keys, off their entries. -/
namespace Go.Proofs.YtcnimekhpnejlaaGreat
open Go Go.RowKit Go.ChangeMaps Go.MapKept Go.WideElems
set_option linter.unusedVariables false

theorem MapI.of_entries {α : Type} {E : Elem α} {P : Program} {k : TypeId} (hk : P.underlying k = some (.int .i64)) {w : World} {b : Nat} {es : Array MapEntry} {clock : Nat} (hb : w.heap[b]? = some (.map es clock)) (hs : es.size ≤ 4096)
    (h1 : ∀ x ∈ es.toList, x.born < clock) (h2 : (es.toList.map (·.born)).Nodup) (h3 : (es.toList.map (·.key)).Nodup) {f : Int → Option α}
    (hf : ∀ x ∈ es.toList, ∃ i a, i64 i ∧ E.ok a ∧ x.key = .int .i64 i ∧ x.val = E.val a ∧ f i = some a) (hg : ∀ i a, f i = some a → ∃ x ∈ es.toList, x.key = .int .i64 i) : MapI E P k w b 4096 f := by
  have K : Maps.Keyed P k := Maps.int_keyed hk
  have hrd : ∀ x ∈ es.toList, ∃ i a, i64 i ∧ E.ok a ∧ f i = some a ∧ x.key = .int .i64 i ∧ rd P k E.R x = some (.int .i64 i, E.enc a) := fun x hx => by
    obtain ⟨i, a, hi, ha, e1, e2, e3⟩ := hf x hx
    refine ⟨i, a, hi, ha, e3, e1, ?_⟩
    obtain ⟨xk, xv, xb⟩ := x
    simp only at e1 e2
    subst e1
    subst e2
    exact rd_mk (Maps.keyOf_int_mk hk (i64_wf hi)) (E.to a ha)
  have F : Fit P k E.R es clock := ⟨Nat.le_trans hs (by decide), ⟨h1, h2, h3⟩, fun x hx => by
    obtain ⟨i, a, _, _, _, _, h⟩ := hrd x hx
    exact ⟨_, h⟩⟩
  have hap := Maps.fit_apart K F
  have hmem : ∀ p, p ∈ (es.toList.map (rg P k E.R)) → ∃ i a, i64 i ∧ E.ok a ∧ f i = some a ∧ p = (.int .i64 i, E.enc a) := fun p hp => by
    obtain ⟨x, hx, rfl⟩ := List.mem_map.1 hp
    obtain ⟨i, a, g1, g2, g3, _, g4⟩ := hrd x hx
    exact ⟨i, a, g1, g2, g3, rg_of g4⟩
  have hin : ∀ i a, f i = some a → (Lit.int .i64 i, E.enc a) ∈ es.toList.map (rg P k E.R) := fun i a ha => by
    obtain ⟨x, hx, e1⟩ := hg i a ha
    obtain ⟨i', a', _, _, g3, e2, g4⟩ := hrd x hx
    rw [e1] at e2
    have e3 : i = i' := by injection e2
    subst e3
    rw [ha] at g3
    obtain rfl := Option.some.inj g3
    exact List.mem_map.2 ⟨x, hx, rg_of g4⟩
  refine ⟨.map ((es.toList.map (rg P k E.R)).foldr DataW.insert []), ⟨es, clock, hb, F, hs, rfl⟩, fun kl hkl => ?_, fun i hi => ?_, fun i a ha => ?_⟩
  · rw [Maps.has_eq] at hkl
    obtain ⟨p, hp, he⟩ := List.any_eq_true.1 hkl
    obtain ⟨i, a, g1, _, _, rfl⟩ := hmem p (mem_sorted.1 hp)
    exact ⟨i, g1, (WideAt.sameKey_eq he).symm⟩
  · rw [Maps.has_eq]
    cases hfi : f i with
    | some a =>
      exact List.any_eq_true.2 ⟨_, mem_sorted.2 (hin i a hfi), WideAt.sameKey_self trivial⟩
    | none =>
      refine Bool.eq_false_iff.2 fun h => ?_
      obtain ⟨p, hp, he⟩ := List.any_eq_true.1 h
      obtain ⟨i', a, g1, _, g3, rfl⟩ := hmem p (mem_sorted.1 hp)
      have e := WideAt.sameKey_eq he
      have e : i' = i := by injection e
      rw [e, hfi] at g3
      cases g3
  · have hp := hin i a ha
    obtain ⟨i', a', g1, g2, g3, e⟩ := hmem _ hp
    have e1 : i = i' := by
      have := congrArg Prod.fst e
      simp only at this
      injection this
    subst e1
    rw [ha] at g3
    obtain rfl := Option.some.inj g3
    refine ⟨g1, g2, fun z => ?_⟩
    refine WideAt.atKey_mem z trivial ?_ (mem_sorted.2 hp)
    exact (hap.perm (WideShapes.sorted_perm _).symm fun h e => h e.symm)
end Go.Proofs.YtcnimekhpnejlaaGreat

/- Calls told beforehand, of files behind handles, for the statements: what the evaluator computes with. -/
namespace Go.Proofs.YtcnimekhpnejlaaGreat.Ev
open Go
/-- The handle that there was, ahead of what was written and cut. -/
def baseN : Nat → X → X
  | 0, e => e
  | k + 1, e => match e with
    | .app 65 (.cons e (.cons _ (.cons _ (.cons _ _)))) => baseN k e
    | .app 56 (.cons e (.cons _ (.cons _ _))) => baseN k e
    | e => e
def isFile (pc : List (X × Bool)) (e n : X) : Bool := decide (truL pc (.app 68 (.cons (baseN 30 e) n)) = some true)
def rLaw (pc : List (X × Bool)) (g : Nat) (e : X) (args : List EV) : Option (EV × X) :=
  if g = 10 then
    match args with
    | [.a (.s y), .a (.s z), .a (.s u), .a (.s t)] => (asI y).bind fun n => (asI z).bind fun a => (asS u).bind fun s => (asI t).bind fun st =>
      if n.1 = .i64 ∧ a.1 = .i64 ∧ st.1 = .u64 ∧ inI64 pc a.2 = true ∧ inU64 pc st.2 = true ∧ isFile pc e n.2 = true then
        (truL pc (.app 64 (.cons a.2 s))).bind fun b => if b = true then some (.tup [.s (.xi .i64 (.bin .add .i64 a.2 (.len s))), .s (.int .i64 0)], .app 65 (.cons e (.cons n.2 (.cons a.2 (.cons s st.2)))))
          else (truL pc (.lt a.2 (.li 0))).map fun c => (.tup [.s (.int .i64 0), .s (.int .i64 (if c = true then 1 else 160))], e)
      else none
    | _ => none
  else if g = 11 then
    match args with
    | [.a (.s y), .a (.s z), .a (.s u)] => (asI y).bind fun n => (asI z).bind fun a => (asI u).bind fun m =>
      if n.1 = .i64 ∧ a.1 = .i64 ∧ m.1 = .i64 ∧ inI64 pc a.2 = true ∧ inI64 pc m.2 = true ∧ isFile pc e n.2 = true then
        (truL pc (.lt a.2 (.li 0))).bind fun b => if b = true then some (.tup [.s (.str ⟨#[]⟩), .s (.int .i64 1)], e)
          else (truL pc (.lt m.2 (.li 0))).map fun c => if c = true then (.tup [.s (.str ⟨#[]⟩), .s (.int .i64 1)], e) else (.tup [.s (.xs (.app 66 (.cons e (.cons n.2 (.cons a.2 m.2))))), .s (.int .i64 0)], e)
      else none
    | _ => none
  else if g = 12 then
    match args with
    | [.a (.s y), .a (.s z), .a (.s t)] => (asI y).bind fun n => (asI z).bind fun a => (asI t).bind fun st =>
      if n.1 = .i64 ∧ a.1 = .i64 ∧ st.1 = .u64 ∧ inI64 pc a.2 = true ∧ inU64 pc st.2 = true ∧ isFile pc e n.2 = true then
        (truL pc (.lt a.2 (.li 0))).bind fun b => if b = true then some (.a (.s (.int .i64 1)), e)
          else (truL pc (.lt (.li 1048576) a.2)).map fun c => if c = true then (.a (.s (.int .i64 160)), e) else (.a (.s (.int .i64 0)), .app 56 (.cons e (.cons n.2 (.cons a.2 st.2))))
      else none
    | _ => none
  else if g = 13 then
    match args with
    | [.a (.s y), .a (.s z)] => (asI y).bind fun n => (asI z).bind fun m =>
      if n.1 = .i64 ∧ m.1 = .i64 ∧ isFile pc e n.2 = true ∧ isFile pc e m.2 = true then some (.tup [.s (.xb (.app 67 (.cons e (.cons n.2 m.2)))), .s (.int .i64 0)], e) else none
    | _ => none
  else none
/-- zeros. -/
def rZer (pc : List (X × Bool)) (g : Nat) (args : List EV) : Option EV :=
  if g = 14 then
    match args with
    | [.a (.s y)] => (asI y).bind fun n => if n.1 = .i64 ∧ inI64 pc n.2 = true ∧ truL pc (.lt (.li 1048576) n.2) = some false then some (.a (.s (.xs (.app 69 n.2)))) else none
    | _ => none
  else none
def sumBeg : Call := fun g args h nx =>
  if g = 8 then
    match args with
    | [] => some (.tup [.s (.ptr nx 0), .s (.int .i64 2), .s (.bool true)], h.set nx (.abs (.va 0)), nx + 1)
    | _ => none
  else none
def sumTru (l : List Nat) : Call := fun g args h nx =>
  match args with
  | [] => if l.contains g = true then some (.a (.s (.bool true)), h, nx) else none
  | _ => none
def sumB (pc : List (X × Bool)) : Call := sumOr sumBeg (sumOr (sumA (rLaw pc)) (sumP (rZer pc)))
end Go.Proofs.YtcnimekhpnejlaaGreat.Ev
