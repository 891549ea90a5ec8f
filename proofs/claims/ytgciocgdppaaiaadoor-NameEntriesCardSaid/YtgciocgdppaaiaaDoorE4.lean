/- Contracts of strings.Trim, TrimLeft and Compare in the printed form, over the shelf's. -/
import Derived.Test.YtgciocgdppaaiaaDoorShelf
import Derived.Test.YtgciocgdppaaiaaDoorWWords
namespace Go.Proofs.YtgciocgdppaaiaaDoor.P
open Go.RowKit Go.Proofs.YtgciocgdppaaiaaDoor Go.Proofs.YtgciocgdppaaiaaDoorW.PrintWords

def strings_Trim.f (a0 a1 : ByteArray) : Option ByteArray :=
  match a1.data.toList with
  | [c] => if c.toNat < 128 ∧ a0.size ≤ 9223372036854775807 then some ⟨(Lib.trimB a0.data.toList c).toArray⟩ else none
  | _ => none
theorem strings_Trim.calls (a0 a1 : ByteArray) (r : ByteArray) (w : World) (h : strings_Trim.f a0 a1 = some r) :
    Calls Tryd.prog 33 #[.string a0, .string a1] w fun e w' => e = .returned (.string r) ∧ Below w.heap.size w w' := by
  obtain ⟨⟨l⟩⟩ := a1
  unfold strings_Trim.f at h
  match l, h with
  | [], h => cases h
  | _ :: _ :: _, h => cases h
  | [c], h =>
    simp only at h
    by_cases hh : c.toNat < 128 ∧ a0.size ≤ 9223372036854775807
    · rw [if_pos hh] at h
      obtain rfl := Option.some.inj h
      have := Tryd.strings_Trim_one a0 c hh.1 w hh.2
      refine this.mono fun e w' hp => ?_
      refine ⟨hp.1, ?_⟩
      rcases hp.2 with rfl | rfl
      · exact Below.refl _ _
      · exact below_drew1 (Below.refl _ _)
    · rw [if_neg hh] at h
      cases h

def strings_TrimLeft.f (a0 a1 : ByteArray) : Option ByteArray :=
  match a1.data.toList with
  | [c] => if c.toNat < 128 then some ⟨(Lib.trimLeftB a0.data.toList c).toArray⟩ else none
  | _ => none
theorem strings_TrimLeft.calls (a0 a1 : ByteArray) (r : ByteArray) (w : World) (h : strings_TrimLeft.f a0 a1 = some r) :
    Calls Tryd.prog 45 #[.string a0, .string a1] w fun e w' => e = .returned (.string r) ∧ Below w.heap.size w w' := by
  obtain ⟨⟨l⟩⟩ := a1
  unfold strings_TrimLeft.f at h
  match l, h with
  | [], h => cases h
  | _ :: _ :: _, h => cases h
  | [c], h =>
    simp only at h
    by_cases hh : c.toNat < 128
    · rw [if_pos hh] at h
      obtain rfl := Option.some.inj h
      refine (Tryd.strings_TrimLeft_one a0 c hh w).mono fun e w' hp => ?_
      obtain ⟨rfl, rfl⟩ := hp
      exact ⟨rfl, Below.refl _ _⟩
    · rw [if_neg hh] at h
      cases h

def strings_Compare.f (a0 a1 : ByteArray) : Option Int := some (Lib.compareBytes a0.data.toList a1.data.toList)
theorem strings_Compare.calls (a0 a1 : ByteArray) (r : Int) (w : World) (h : strings_Compare.f a0 a1 = some r) :
    Calls Tryd.prog 46 #[.string a0, .string a1] w fun e w' => e = .returned (.int .i64 r) ∧ Drawn0 w w' := by
  obtain rfl := Option.some.inj h
  refine (Tryd.strings_Compare a0 a1 w).mono fun e w' hp => ?_
  obtain ⟨rfl, rfl⟩ := hp
  exact ⟨rfl, Drawn0.refl _⟩

end Go.Proofs.YtgciocgdppaaiaaDoor.P
