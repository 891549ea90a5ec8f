/- Calls that answer one plain value and leave all that lay there: told beforehand. -/
import Derived.Test.YtoehfadjpficiaaGreatDoorEvTrue
namespace Go.Proofs.YtoehfadjpficiaaGreatDoor.Ev
open Go Go.RowKit
set_option linter.unusedVariables false
def PlainOk (g : Nat) (f : List EV → Option SV) : Prop := ∀ args r, f args = some r → ∀ E (vs : List Value), Rels (EV.rel E) args vs → ∀ w, Calls Tryz.prog g vs.toArray w fun e w' => ∃ v, e = .returned v ∧ r.rel E v ∧ Below w.heap.size w w'
def sumPlain (g : Nat) (f : List EV → Option SV) : Call := fun g' args h nx => if g' = g then (f args).map fun r => (.a (.s r), h, nx) else none
theorem sumPlain_ok {C : Ctx} (hP : C.P = Tryz.prog) {g : Nat} {f : List EV → Option SV} (hf : PlainOk g f) : CallOk C (sumPlain g f) := by
  intro g' args h nx r he E w vs hr hρ hfr hargs
  rw [hP]
  unfold sumPlain at he
  split at he
  · rename_i hg
    subst hg
    obtain ⟨x, hx, rfl⟩ := Option.map_eq_some_iff.1 he
    refine (hf args x hx E vs hargs w).mono fun e w' ⟨v, h1, h2, h3⟩ => ?_
    exact ⟨v, E, h1, Goes.below hr h3, h2⟩
  · cases he
end Go.Proofs.YtoehfadjpficiaaGreatDoor.Ev
