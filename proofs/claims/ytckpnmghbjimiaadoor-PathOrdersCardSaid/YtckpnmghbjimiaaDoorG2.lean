/- The contract of path.Parse in the printed form. -/
import Derived.Test.YtckpnmghbjimiaaDoorC4
namespace Go.Proofs.YtckpnmghbjimiaaDoor.P
open Go.RowKit Go.Proofs.YtckpnmghbjimiaaDoor Go.Proofs.YtckpnmghbjimiaaDoorW.PrintWords

def path_Parse.f (a0 : ByteArray) : Option (List ByteArray × Bool × Int × Int) := some (parseA a0)
theorem path_Parse.calls (a0 : ByteArray) (r1 : List ByteArray) (r2 : Bool) (r3 : Int) (r4 : Int) (w : World) (h : path_Parse.f a0 = some (r1, r2, r3, r4)) :
    Calls Tryd.prog 17 #[.string a0] w fun e w' => ∃ v0_ : Value, e = .returned (.tuple #[.agg #[v0_, .bool r2], .int .i64 r3, .int .i64 r4]) ∧ Kd.R Kd.string 9 w' w.heap.size (fun _ => True) v0_ r1 ∧ Below w.heap.size w w' := by
  have h' : parseA a0 = (r1, r2, r3, r4) := Option.some.inj h
  refine (parse_any a0 w).mono fun e w' hp => ?_
  rw [h'] at hp
  obtain ⟨v0, he, ho, hb⟩ := hp
  exact ⟨v0, he, Kd.R_of_own ho (fun _ _ => trivial), hb⟩

end Go.Proofs.YtckpnmghbjimiaaDoor.P
