import Derived.Test.YtoehfadjpficiaaGreatEvFun
namespace Go.Proofs.YtoehfadjpficiaaGreat.Ev
open Go Go.RowKit
def teOf (P : Program) (t : TypeId) : Option TE :=
  match P.underlying t, P.info? t with
  | some u, some i =>
    match i.zero with
    | some z => some ⟨u, i.size, i.bytes, z, P.eqGuardType P.depth t, P.stoodInHeld t⟩
    | none => none
  | _, _ => none
theorem teOf_ok {P : Program} {t : TypeId} {e : TE} (h : teOf P t = some e) : TEok P t e := by
  unfold teOf at h
  split at h
  · rename_i u i hu hi
    split at h
    · rename_i z hz
      obtain rfl := Option.some.inj h
      unfold TEok
      rw [hu, hi]
      simp [hz]
    · cases h
  · cases h
theorem funs_ok {C : Ctx} (hP : C.P = Tryz.prog) : FunOk C funT.get := fun g fn h => by
  rw [hP]
  exact funT_all g fn h
def isTrue : Option Res → Bool
  | some (.a (.s (.bool true)), _, _) => true
  | _ => false
end Go.Proofs.YtoehfadjpficiaaGreat.Ev
