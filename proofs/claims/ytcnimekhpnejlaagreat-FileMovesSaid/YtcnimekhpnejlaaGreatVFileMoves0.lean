/- Texts of this seat joined into one: Rm, Ro, Rv. -/
import Derived.Test.YtcnimekhpnejlaaGreatVB4

/- Calls told beforehand, of texts in files: what the evaluator computes with. Code 71: is it the variable that searching reads? -/
namespace Go.Proofs.YtcnimekhpnejlaaGreat.Ev
open Go
/-- strings.Index; the variable that it reads lies at 0. -/
def sumIdx (pc : List (X × Bool)) : Call := fun g args h nx =>
  if g = 50 then
    match args with
    | [.a (.s y), .a (.s z)] => (asS y).bind fun s => (asS z).bind fun t =>
      match h.get 0 with
      | some (.abs e) => if truL pc (.app 71 e) = some true ∧ truL pc (.lt (.li 1048576) (.len s)) = some false then some (.a (.s (.xi .i64 (.app 70 (.cons s t)))), h, nx) else none
      | _ => none
    | _ => none
  else none
/-- All that files do. -/
def sumF (has : Nat → Bool) (pc : List (X × Bool)) (call : Call) : Call := sumOr sumBeg (sumOr (sumIdx pc) (sumOr (sumWhole has pc call) (sumOr (sumA (rLaw pc)) (sumOr (sumP (rZer pc)) (sumFi pc)))))
end Go.Proofs.YtcnimekhpnejlaaGreat.Ev

/- Calls told beforehand, of plays on files: what the evaluator computes with. Codes: 80 81 82 what a thing that is done answers, its error, the inodes behind it (e, n, kind, at, many, text, stamp); 83 84 85 86 the document's answer, error, text, stamp (text, stamp, kind, at, many, text, stamp); 87 does a file stand so (e, n, text, stamp). -/
namespace Go.Proofs.YtcnimekhpnejlaaGreat.Ev
open Go
/-- The function within Zero: zeros are laid. -/
def sumZ1 (pc : List (X × Bool)) : Call := fun g args h nx =>
  if g = 73 then
    match args with
    | [.a (.s (.ptr i 0)), .a (.s (.ptr j1 0)), .a (.s (.ptr j2 0)), .a (.s (.ptr j3 0)), .a (.s (.ptr j4 0))] =>
      match h.get i, h.get j1, h.get j2, h.get j3, h.get j4 with
      | some (.abs e), some (.cells _ none c1 false), some (.cells _ none c2 false), some (.cells _ none c3 false), some (.cells _ none c4 false) =>
        if 1 ≤ c1.n ∧ 1 ≤ c2.n ∧ 1 ≤ c3.n ∧ 1 ≤ c4.n ∧ i ≠ j1 ∧ i ≠ j2 ∧ i ≠ j3 ∧ i ≠ j4 ∧ truL pc (.app 57 e) = some true then
          (asI (c1.get 0)).bind fun n => (asI (c2.get 0)).bind fun a => (asI (c3.get 0)).bind fun m => (asI (c4.get 0)).bind fun st =>
            if n.1 = .i64 ∧ a.1 = .i64 ∧ m.1 = .i64 ∧ st.1 = .u64 ∧ inU64 pc st.2 = true ∧ rNum pc n.2 = some true ∧ rUsed pc e n.2 = some 0 ∧ truL pc (.lt m.2 (.li 0)) = some false ∧ truL pc (.app 62 (.cons e (.cons n.2 (.cons a.2 (.app 69 m.2))))) = some true then
              some (.a (.s (.int .i64 0)), h.set i (.abs (.app 60 (.cons e (.cons n.2 (.cons a.2 (.cons (.app 69 m.2) st.2)))))), nx)
            else none
        else none
      | _, _, _, _, _ => none
    | _ => none
  else none
/-- The calls of a play. -/
def sumDid (has : Nat → Bool) (pc : List (X × Bool)) (call : Call) : Call := sumOr (sumWhole has pc call) (sumOr (sumA (rLaw pc)) (sumFi pc))
def actX (k a m t st : X) : X := .cons k (.cons a (.cons m (.cons t st)))
/-- did, stands. -/
def rPlay (pc : List (X × Bool)) (g : Nat) (e : X) (args : List EV) : Option (EV × X) :=
  if g = 17 then
    match args with
    | [.a (.s y), .a (.agg [k, a, m, t, st])] => (asI y).bind fun n => (asI k).bind fun k => (asI a).bind fun a => (asI m).bind fun m => (asS t).bind fun t => (asI st).bind fun st =>
      if n.1 = .i64 ∧ k.1 = .i64 ∧ a.1 = .i64 ∧ m.1 = .i64 ∧ st.1 = .u64 ∧ inI64 pc a.2 = true ∧ inI64 pc m.2 = true ∧ inU64 pc st.2 = true ∧ truL pc (.app 68 (.cons e n.2)) = some true then
        some (.tup [.s (.xi .i64 (.app 80 (.cons e (.cons n.2 (actX k.2 a.2 m.2 t st.2))))), .s (.xi .i64 (.app 81 (.cons e (.cons n.2 (actX k.2 a.2 m.2 t st.2)))))], .app 82 (.cons e (.cons n.2 (actX k.2 a.2 m.2 t st.2))))
      else none
    | _ => none
  else if g = 20 then
    match args with
    | [.a (.s y), .a (.agg [s, p]), .a (.s a), .a (.s m)] => (asI y).bind fun n => (asS s).bind fun s => (asI p).bind fun p => (asI a).bind fun a => (asI m).bind fun m =>
      if n.1 = .i64 ∧ p.1 = .u64 ∧ a.1 = .i64 ∧ m.1 = .i64 ∧ inI64 pc a.2 = true ∧ inI64 pc m.2 = true ∧ truL pc (.app 87 (.cons e (.cons n.2 (.cons s p.2)))) = some true then some (.a (.s (.bool true)), e) else none
    | _ => none
  else if g = 13 then
    match args with
    | [.a (.s y), .a (.s z)] => (asI y).bind fun n => (asI z).bind fun m =>
      if n.1 = .i64 ∧ m.1 = .i64 ∧ truL pc (.app 68 (.cons e n.2)) = some true ∧ truL pc (.app 68 (.cons e m.2)) = some true then some (.tup [.s (.xb (.app 67 (.cons e (.cons n.2 m.2)))), .s (.int .i64 0)], e) else none
    | _ => none
  else none
/-- done. -/
def rDone (pc : List (X × Bool)) (g : Nat) (args : List EV) : Option EV :=
  if g = 18 then
    match args with
    | [.a (.agg [s, p]), .a (.agg [k, a, m, t, st])] => (asS s).bind fun s => (asI p).bind fun p => (asI k).bind fun k => (asI a).bind fun a => (asI m).bind fun m => (asS t).bind fun t => (asI st).bind fun st =>
      if p.1 = .u64 ∧ k.1 = .i64 ∧ a.1 = .i64 ∧ m.1 = .i64 ∧ st.1 = .u64 ∧ inI64 pc a.2 = true ∧ inI64 pc m.2 = true ∧ truL pc (.lt (.li 1048576) (.len s)) = some false then
        some (.tup [.s (.xi .i64 (.app 83 (.cons s (.cons p.2 (actX k.2 a.2 m.2 t st.2))))), .s (.xi .i64 (.app 84 (.cons s (.cons p.2 (actX k.2 a.2 m.2 t st.2))))), .agg [.xs (.app 85 (.cons s (.cons p.2 (actX k.2 a.2 m.2 t st.2)))), .xi .u64 (.app 86 (.cons s (.cons p.2 (actX k.2 a.2 m.2 t st.2))))]])
      else none
    | _ => none
  else none
/-- Clone: a handle more. -/
def sumIClo (pc : List (X × Bool)) : Call := fun g args h nx =>
  if g = 19 then
    match args with
    | [.a (.s (.ptr i 0))] =>
      match h.get i with
      | some (.abs e) => if truL pc (.app 57 e) = some true then some (.a (.s (.ptr nx 0)), h.set nx (.abs e), nx + 1) else none
      | _ => none
    | _ => none
  else none
def sumPlay (pc : List (X × Bool)) : Call := sumOr (sumA (rPlay pc)) (sumOr (sumP (rDone pc)) (sumIClo pc))
end Go.Proofs.YtcnimekhpnejlaaGreat.Ev

/- Calls told beforehand, of moves in files: what the evaluator computes with. -/
namespace Go.Proofs.YtcnimekhpnejlaaGreat.Ev
open Go
def kX (k : X) : X := .bin .rem .i64 (.bin .add .i64 (.bin .rem .i64 k (.li 6)) (.li 6)) (.li 6)
def mvX (c : Nat) (k e n a m t st : X) : X := .app c (.cons e (.cons n (.cons k (.cons a (.cons m (.cons t st))))))
/-- move. -/
def rMove (pc : List (X × Bool)) (g : Nat) (e : X) (args : List EV) : Option (EV × X) :=
  if g = 21 then
    match args with
    | [.a (.s y), .a (.s z), .a (.agg [s, p]), .a (.agg [u, q]), .a (.agg [k, a, m, pl, t, st])] => (asI y).bind fun n => (asI z).bind fun o => (asS s).bind fun s => (asI p).bind fun p => (asS u).bind fun u => (asI q).bind fun q =>
      (asI k).bind fun k => (asI a).bind fun a => (asI m).bind fun m => (asI pl).bind fun pl => (asS t).bind fun t => (asI st).bind fun st =>
      if n = (.i64, .li 2) ∧ o = (.i64, .li 3) ∧ p.1 = .u64 ∧ q.1 = .u64 ∧ k.1 = .i64 ∧ a.1 = .i64 ∧ m.1 = .i64 ∧ pl.1 = .i64 ∧ st.1 = .u64 ∧ inI64 pc a.2 = true ∧ inI64 pc m.2 = true ∧ inI64 pc pl.2 = true ∧ inU64 pc st.2 = true ∧
          truL pc (.app 87 (.cons e (.cons (.li 2) (.cons s p.2)))) = some true ∧ truL pc (.app 87 (.cons e (.cons (.li 3) (.cons u q.2)))) = some true ∧ truL pc (.lt (.li 20000) (.len t)) = some false then
        (truL pc (.lt (kX k.2) (.li 2))).bind fun b0 =>
          if b0 = true then some (.tup [.agg [.xs (mvX 93 (.li 0) s p.2 a.2 m.2 t st.2), .xi .u64 (mvX 94 (.li 0) s p.2 a.2 m.2 t st.2)], .agg [.xs u, .xi .u64 q.2], .s (.bool true)], mvX 90 (.li 0) e (.li 2) a.2 m.2 t st.2)
          else (truL pc (.eq (kX k.2) (.li 2))).bind fun b2 =>
            if b2 = true then some (.tup [.agg [.xs (mvX 93 (.li 2) s p.2 a.2 m.2 t st.2), .xi .u64 (mvX 94 (.li 2) s p.2 a.2 m.2 t st.2)], .agg [.xs u, .xi .u64 q.2], .s (.bool true)], mvX 90 (.li 2) e (.li 2) a.2 m.2 t st.2)
            else (truL pc (.eq (kX k.2) (.li 5))).map fun b5 =>
              if b5 = true then (.tup [.agg [.xs (mvX 100 p.2 s s a.2 m.2 pl.2 st.2), .xi .u64 (mvX 101 p.2 s s a.2 m.2 pl.2 st.2)], .agg [.xs u, .xi .u64 q.2], .s (.bool true)], mvX 97 (.li 2) e (.li 2) a.2 m.2 pl.2 st.2)
              else (.tup [.agg [.xs s, .xi .u64 p.2], .agg [.xs (mvX 100 q.2 s u a.2 m.2 pl.2 st.2), .xi .u64 (mvX 101 q.2 s u a.2 m.2 pl.2 st.2)], .s (.bool true)], mvX 97 (.li 3) e (.li 2) a.2 m.2 pl.2 st.2)
      else none
    | _ => none
  else none
def sumMove (pc : List (X × Bool)) : Call := sumOr (sumA (rMove pc)) (sumA (rPlay pc))
end Go.Proofs.YtcnimekhpnejlaaGreat.Ev
