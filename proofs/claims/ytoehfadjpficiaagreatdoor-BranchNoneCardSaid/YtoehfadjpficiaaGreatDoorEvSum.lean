/- Calls whose outcome is told: maps.Clone. -/
import Derived.Test.YtoehfadjpficiaaGreatDoorEvTab
import Derived.Shelf.SlMaps.Clone
import Derived.WalkKit
namespace Go.Proofs.YtoehfadjpficiaaGreatDoor.Ev
open Go Go.RowKit
set_option linter.unusedVariables false
set_option maxRecDepth 100000 in
set_option maxHeartbeats 2000000 in
theorem clone_any (b : Nat) (es : Array MapEntry) (clock : Nat) (w : World) (hb : w.heap[b]? = some (.map es clock)) :
    Calls Tryz.prog 164 #[.map (some b)] w fun e w' => e = .returned (.map (some w.heap.size)) ∧ w' = w.alloc (.map es clock) := by
  have hq := fun w => run_eql_map_nil_sl (P := Tryz.prog) w 186 _ _ (some b) Tryz.underlying186
  go_enter Tryz.func164, Tryz.ntmps164
  go_wp2
  rw [run_callFunc_extern Tryz.func191 (by kernel_rfl) (by kernel_rfl) (by kernel_rfl) (e := Extern.MapsClone.clone) (by kernel_rfl), run_maps_clone_sl w 186 hb]
  simp only [Result.andThen]
  rw [Oper.upon_value]
  go_wp2
  rw [run_typeAssert_map_sl _ 186 20 _ _ _ Tryz.underlying186]
  simp only [Result.andThen]
  rw [Oper.upon_value]
  go_wp2
  go_ret
  exact ⟨rfl, rfl⟩
set_option maxRecDepth 100000 in
set_option maxHeartbeats 2000000 in
theorem clone_nil (w : World) : Calls Tryz.prog 164 #[.map none] w fun e w' => e = .returned (.map none) ∧ w' = w := by
  have hq := fun w => run_eql_map_nil_sl (P := Tryz.prog) w 186 _ _ none Tryz.underlying186
  go_enter Tryz.func164, Tryz.ntmps164
  go_wp2
  go_ret
  exact ⟨rfl, rfl⟩
def sumClone : Call := fun g args h nx =>
  if g = 164 then
    match args with
    | [.a (.s (.map i))] =>
      match h.get i with
      | some (.mp es clock) => some (.a (.s (.map nx)), h.set nx (.mp es clock), nx + 1)
      | _ => none
    | [.a (.s .nilm)] => some (.a (.s .nilm), h, nx)
    | _ => none
  else none
theorem sumClone_ok {C : Ctx} (hP : C.P = Tryz.prog) : CallOk C sumClone := by
  intro g args h nx r he E w vs hr hρ hf hargs
  rw [hP]
  unfold sumClone at he
  split at he
  · rename_i hg
    subst hg
    split at he
    · rename_i i
      split at he
      · rename_i es clock hb
        obtain rfl := Option.some.inj he
        match vs, hargs with
        | [v], hargs =>
          obtain ⟨p, hp, rfl⟩ := hargs.1
          obtain ⟨o, ho, ents, rfl, hm⟩ := hr.blk hb hp
          have hn : E.m nx = none := hf nx (Nat.le_refl _)
          have hext := Env.ext_put (p := ⟨w.heap.size, 0, 0⟩) hn
          refine (clone_any p.blk ents clock w ho).mono fun e w' ⟨he, hw⟩ => ?_
          subst hw
          exact ⟨_, _, he, Goes.new (o := .map ents clock) hr hn ⟨w.heap.size, 0, 0⟩ rfl ⟨ents, rfl, mpRel.ext hext hm⟩, _, Env.put_at _ _ _, rfl⟩
        | [], hargs => exact hargs.elim
        | _ :: _ :: _, hargs => exact hargs.2.elim
      · cases he
    · obtain rfl := Option.some.inj he
      match vs, hargs with
      | [v], hargs =>
        obtain rfl := hargs.1
        refine (clone_nil w).mono fun e w' ⟨he, hw⟩ => ?_
        subst hw
        exact ⟨_, _, he, Goes.refl hr, rfl⟩
      | [], hargs => exact hargs.elim
      | _ :: _ :: _, hargs => exact hargs.2.elim
    · cases he
  · cases he
end Go.Proofs.YtoehfadjpficiaaGreatDoor.Ev
