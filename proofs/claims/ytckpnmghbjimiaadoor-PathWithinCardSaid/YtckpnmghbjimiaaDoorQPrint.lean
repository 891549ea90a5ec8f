/- Print (pure). -/
import Derived.Test.YtckpnmghbjimiaaDoorQNames
import Derived.Test.YtckpnmghbjimiaaDoorPxPathPrint
namespace Go.Proofs.YtckpnmghbjimiaaDoor.Pure
open Go.Proofs.YtckpnmghbjimiaaDoor Go.Proofs.YtckpnmghbjimiaaDoor.P Go.RowKit Go.Proofs.YtckpnmghbjimiaaDoorW.PrintWords

def badAt : List ByteArray → Int → Option Int
  | [], _ => none
  | x :: xs, i => if checkE x = 0 then badAt xs (i + 1) else some i
def printA (l : List ByteArray) : ByteArray × Int × Int :=
  match badAt l 0 with
  | some i => (⟨#[]⟩, i, 130)
  | none => if 32 < l.length then (⟨#[]⟩, 32, 182) else if 1024 < (formL l).size then (⟨#[]⟩, 0, 181) else (formL l, 0, 0)

theorem badAt_none : ∀ (l : List ByteArray) (i : Int), badAt l i = none → ∀ x ∈ l, checkE x = 0
  | [], _, _ => by simp
  | y :: l, i, h => by
    intro x hx
    rw [badAt] at h
    by_cases hc : checkE y = 0
    · rw [if_pos hc] at h
      rcases List.mem_cons.1 hx with rfl | hx
      · exact hc
      · exact badAt_none l _ h x hx
    · rw [if_neg hc] at h; cases h

theorem print_loop (l : List ByteArray) (hl : l.length ≤ 9223372036854775806) (d : Nat) : ∀ i : Nat, i + d = l.length → badAt l 0 = badAt (l.drop i) i →
    Ev (fun k => path_Print.l0 k l l (l.length : Int) (i : Int)) (printA l) := by
  induction d with
  | zero =>
    intro i hi hb
    rw [List.drop_of_length_le (by omega : l.length ≤ i)] at hb
    have hall := badAt_none l 0 hb
    refine Ev.step (f := fun _ => some _) (fun k => ?_) (Ev.now _)
    simp only [path_Print.l0]
    rw [if_neg (by omega)]
    unfold printA
    rw [hb]
    simp only [badAt]
    by_cases h : 32 < l.length
    · rw [if_pos (by omega), if_pos h]
    · rw [if_neg (by omega), if_neg h]
      obtain ⟨t, ht, hf, hsz⟩ := join_form l (by omega) hall
      rw [ht, Option.bind_some, if_pos (by omega), hf]
      by_cases h2 : 1024 < (formL l).size
      · rw [if_pos (by omega), if_pos h2]
      · rw [if_neg (by omega), if_neg h2]
  | succ d ih =>
    intro i hi hb
    have hlt : i < l.length := by omega
    rw [drop_cons l i hlt, badAt] at hb
    by_cases hc : checkE (l.getD i ByteArray.empty) = 0
    · rw [if_pos hc] at hb
      refine Ev.step (fun k => ?_) (ih (i + 1) (by omega) (by rw [hb]; rfl))
      simp only [path_Print.l0]
      rw [if_pos (by omega), if_pos (by omega), if_pos (by omega), rdOf_nat, check_ev, Option.bind_some, if_pos hc, wrap_succ (by omega) (by omega)]
      rfl
    · rw [if_neg hc] at hb
      refine Ev.step (f := fun _ => some _) (fun k => ?_) (Ev.now _)
      simp only [path_Print.l0]
      rw [if_pos (by omega), if_pos (by omega), if_pos (by omega), rdOf_nat, check_ev, Option.bind_some, if_neg hc]
      unfold printA
      rw [hb, (checkE_cases _).resolve_left hc]

theorem print_ev (l : List ByteArray) (hl : l.length ≤ 9223372036854775806) : Ev (fun k => path_Print.f k l) (printA l) := print_loop l hl l.length 0 (by omega) rfl

end Go.Proofs.YtckpnmghbjimiaaDoor.Pure
