/- Calls without arguments that answer true and leave all that lay there: told beforehand. -/
import Derived.Test.YtoehfadjpficiaaGreatDoorEvLaw
namespace Go.Proofs.YtoehfadjpficiaaGreatDoor.Ev
open Go Go.RowKit
set_option linter.unusedVariables false
theorem Goes.below {E : Env} {h : T Blk} {nx : Nat} {w w' : World} (hr : HRel E h w) (b : Below w.heap.size w w') : Goes E h nx w E h nx w' where
  ext := Ext.refl E
  out := fun _ _ => rfl
  le := Nat.le_refl _
  rel := ⟨fun i c hc => by
    obtain ⟨p, o, h1, h2, h3⟩ := hr.at_ i c hc
    exact ⟨p, o, h1, by rw [b.block _ (lt_of_heap h2)]; exact h2, h3⟩, hr.inj⟩
  frame := ⟨b.os, b.tape, b.output, b.size, fun k hk _ => b.block k hk⟩
  ids := fun i c hc => .inl ⟨c, hc⟩
  own := fun i c p hc hp => .inl ⟨i, c, p, hc, hp, rfl⟩
def AnsTrue (g : Nat) : Prop := ∀ W, Calls Tryz.prog g #[] W fun e W' => e = .returned (.bool true) ∧ Below W.heap.size W W'
theorem ansTrue_any {fact : Known} {ρ : Nat → Value} (hC : fact.Ok ρ) {sum : Call} (hsum : CallOk (ctx fact ρ) sum) {F K g : Nat} (hev : isTrue (evCall (ctx fact ρ) funT.get sum F K g [] .nil 0) = true) : AnsTrue g :=
  fun W => law_any hC hsum hev (vs := []) trivial W
def sumTrue (l : List Nat) : Call := fun g args h nx =>
  match args with
  | [] => if l.contains g = true then some (.a (.s (.bool true)), h, nx) else none
  | _ => none
theorem sumTrue_ok {C : Ctx} (hP : C.P = Tryz.prog) {l : List Nat} (hl : ∀ g ∈ l, AnsTrue g) : CallOk C (sumTrue l) := by
  intro g args h nx r he E w vs hr hρ hf hargs
  rw [hP]
  unfold sumTrue at he
  split at he
  · split at he
    · rename_i hg
      obtain rfl := Option.some.inj he
      match vs, hargs with
      | [], _ =>
        refine (hl g (by simpa using hg) w).mono fun e w' ⟨h1, h2⟩ => ?_
        exact ⟨_, E, h1, Goes.below hr h2, rfl⟩
    · cases he
  · cases he
def sumOr (a b : Call) : Call := fun g args h nx =>
  match a g args h nx with
  | some r => some r
  | none => b g args h nx
theorem sumOr_ok {C : Ctx} {a b : Call} (ha : CallOk C a) (hb : CallOk C b) : CallOk C (sumOr a b) := by
  intro g args h nx r he
  unfold sumOr at he
  split at he
  · rename_i r' h1
    obtain rfl := Option.some.inj he
    exact ha g args h nx _ h1
  · exact hb g args h nx r he
end Go.Proofs.YtoehfadjpficiaaGreatDoor.Ev
