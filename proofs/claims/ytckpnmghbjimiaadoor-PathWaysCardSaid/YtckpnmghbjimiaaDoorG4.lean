/- The contract of strings.FieldsFunc in the printed form: at the closure of path.Match ('is it a slash?'). -/
import Derived.Test.YtckpnmghbjimiaaDoorShelf
import Derived.Test.YtckpnmghbjimiaaDoorWWords
import Derived.WalkKit
import Derived.Lib.FieldsP
namespace Go.Proofs.YtckpnmghbjimiaaDoor.P
open Go.RowKit Go.Proofs.YtckpnmghbjimiaaDoor Go.Proofs.YtckpnmghbjimiaaDoorW.PrintWords

def isSlash (x : Nat) : Bool := decide (x = 47)

set_option maxRecDepth 100000 in
theorem closure48 (x : Nat) (W : World) : Calls Tryd.prog 48 #[.int .i32 (x : Int)] W fun e w' => e = .returned (.bool (isSlash x)) ∧ Below W.heap.size W w' := by
  have h : ((x : Int) == 47) = isSlash x := by unfold isSlash; rw [Bool.eq_iff_iff]; simp; omega
  go_enter Tryd.func48, Tryd.ntmps48
  go_wp2
  go_ret
  exact ⟨rfl, Below.refl _ _⟩

def strings_FieldsFunc.f (a0 : ByteArray) (a1 : Nat) : Option (List ByteArray) := if a1 = 48 ∧ a0.size ≤ 4294967296 then some (Lib.goFieldsP isSlash a0) else none
theorem strings_FieldsFunc.calls (a0 : ByteArray) (a1 : Nat) (r : List ByteArray) (w : World) (h : strings_FieldsFunc.f a0 a1 = some r) :
    Calls Tryd.prog 47 #[.string a0, .func (.func a1) #[] #[]] w fun e w' => ∃ v0_ : Value, e = .returned v0_ ∧ Kd.R Kd.string 9 w' w.heap.size (fun _ => True) v0_ r ∧ Below w.heap.size w w' := by
  unfold strings_FieldsFunc.f at h
  by_cases hh : a1 = 48 ∧ a0.size ≤ 4294967296
  · rw [if_pos hh] at h
    obtain rfl := Option.some.inj h
    obtain ⟨rfl, hs⟩ := hh
    refine (Tryd.strings_FieldsFunc_grows 48 #[] (enters_of Tryd.func48 (by kernel_rfl) rfl) isSlash a0 w hs (fun W x _ _ => closure48 x W)).mono fun e w' hp => ?_
    obtain ⟨A, he, hA, ho, hb⟩ := hp
    exact ⟨_, he, Kd.R_of_own ho (fun _ _ => trivial), hb⟩
  · rw [if_neg hh] at h
    cases h

end Go.Proofs.YtckpnmghbjimiaaDoor.P
