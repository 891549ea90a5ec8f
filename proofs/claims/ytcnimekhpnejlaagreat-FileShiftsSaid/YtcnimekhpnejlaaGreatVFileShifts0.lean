/- Texts of this seat joined into one: Rm. -/
import Derived.Test.YtcnimekhpnejlaaGreatVB4

/- Calls told beforehand, of texts in files: what the evaluator computes with. Code 71: is it the variable that searching reads? -/
namespace Go.Proofs.YtcnimekhpnejlaaGreat.Ev
open Go
/-- strings.Index; the variable that it reads lies at 0. -/
def sumIdx (pc : List (X × Bool)) : Call := fun g args h nx =>
  if g = 50 then
    match args with
    | [.a (.s y), .a (.s z)] => (asS y).bind fun s => (asS z).bind fun t =>
      match h.get 0 with
      | some (.abs e) => if truL pc (.app 71 e) = some true ∧ truL pc (.lt (.li 1048576) (.len s)) = some false then some (.a (.s (.xi .i64 (.app 70 (.cons s t)))), h, nx) else none
      | _ => none
    | _ => none
  else none
/-- All that files do. -/
def sumF (has : Nat → Bool) (pc : List (X × Bool)) (call : Call) : Call := sumOr sumBeg (sumOr (sumIdx pc) (sumOr (sumWhole has pc call) (sumOr (sumA (rLaw pc)) (sumOr (sumP (rZer pc)) (sumFi pc)))))
end Go.Proofs.YtcnimekhpnejlaaGreat.Ev
