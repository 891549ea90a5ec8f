/- The contract of strings.Compare in the printed form, over the shelf's. -/
import Derived.Test.YtgciocgdppaaiaaShelf
import Derived.Test.YtgciocgdppaaiaaWWords
namespace Go.Proofs.Ytgciocgdppaaiaa.P
open Go.RowKit Go.Proofs.Ytgciocgdppaaiaa Go.Proofs.YtgciocgdppaaiaaW.PrintWords

def strings_Compare.f (a0 a1 : ByteArray) : Option Int := some (Lib.compareBytes a0.data.toList a1.data.toList)
theorem strings_Compare.calls (a0 a1 : ByteArray) (r : Int) (w : World) (h : strings_Compare.f a0 a1 = some r) :
    Calls Try.prog 16 #[.string a0, .string a1] w fun e w' => e = .returned (.int .i64 r) ∧ Drawn0 w w' := by
  obtain rfl := Option.some.inj h
  refine (Try.strings_Compare a0 a1 w).mono fun e w' hp => ?_
  obtain ⟨rfl, rfl⟩ := hp
  exact ⟨rfl, Drawn0.refl _⟩

end Go.Proofs.Ytgciocgdppaaiaa.P
