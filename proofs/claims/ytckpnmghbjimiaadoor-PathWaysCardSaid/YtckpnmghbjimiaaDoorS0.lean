/- Small facts: a loop's counter, the awake of these laws, slices held against each other (pure). -/
import Derived.Test.YtckpnmghbjimiaaDoorX1
import Derived.Test.YtckpnmghbjimiaaDoorPxSignetref18Same
import Derived.Test.YtckpnmghbjimiaaDoorPxSignetlaw18Awake
namespace Go.Proofs.YtckpnmghbjimiaaDoor
open Go.RowKit Go.Proofs.YtckpnmghbjimiaaDoorW.PrintWords Go.Proofs.YtckpnmghbjimiaaDoor.P

theorem toList_inj {a b : ByteArray} (h : a.toList = b.toList) : a = b := by
  rw [ByteArray.toList_eq, ByteArray.toList_eq] at h
  obtain ⟨⟨a⟩⟩ := a
  obtain ⟨⟨b⟩⟩ := b
  simp only at h
  rw [h]

theorem wrap_succ {i : Int} (h0 : 0 ≤ i) (h : i < 9223372036854775807) : wrap64 (i + 1) = i + 1 := by unfold wrap64; omega

theorem awake_true : signetlaw18_awake.f = some true := by decide +kernel

end Go.Proofs.YtckpnmghbjimiaaDoor

namespace Go.Proofs.YtckpnmghbjimiaaDoor.Pure
open Go.Proofs.YtckpnmghbjimiaaDoor Go.Proofs.YtckpnmghbjimiaaDoor.P Go.RowKit Go.Proofs.YtckpnmghbjimiaaDoorW.PrintWords

theorem rdOf_nat (l : List ByteArray) (i : Nat) : rdOf ByteArray.empty l (i : Int) = l.getD i ByteArray.empty := rfl
theorem drop_cons (l : List ByteArray) (i : Nat) (h : i < l.length) : l.drop i = l.getD i ByteArray.empty :: l.drop (i + 1) := by
  rw [List.drop_eq_getElem_cons h, List.getD_eq_getElem?_getD, List.getElem?_eq_getElem h]
  rfl

theorem same_loop (x y : List ByteArray) (hx : x.length ≤ 9223372036854775807) (hl : x.length = y.length) (d : Nat) : ∀ i : Nat, i + d = x.length →
    Ev (fun k => signetref18_Same.l0 k x y (x.length : Int) (i : Int)) (decide (x.drop i = y.drop i)) := by
  induction d with
  | zero =>
    intro i hi
    refine Ev.step (f := fun _ => some _) (fun k => ?_) (Ev.now _)
    simp only [signetref18_Same.l0]
    rw [if_neg (by omega), List.drop_of_length_le (by omega : x.length ≤ i), List.drop_of_length_le (by omega : y.length ≤ i)]
    rfl
  | succ d ih =>
    intro i hi
    have h1 : (i : Int) < (x.length : Int) := by omega
    have h0 : (0 : Int) ≤ (i : Int) := by omega
    have h2 : (i : Int) < (y.length : Int) := by omega
    rw [drop_cons x i (by omega), drop_cons y i (by omega)]
    by_cases he : (x.getD i ByteArray.empty).toList = (y.getD i ByteArray.empty).toList
    · have e : decide (x.getD i ByteArray.empty :: x.drop (i + 1) = y.getD i ByteArray.empty :: y.drop (i + 1)) = decide (x.drop (i + 1) = y.drop (i + 1)) := by rw [toList_inj he]; simp
      rw [e]
      refine Ev.step (fun k => ?_) (ih (i + 1) (by omega))
      simp only [signetref18_Same.l0]
      rw [if_pos h1, if_pos h0, if_pos h1, if_pos h2, rdOf_nat, rdOf_nat, if_pos he, wrap_succ h0 (by omega)]
      rfl
    · have e : decide (x.getD i ByteArray.empty :: x.drop (i + 1) = y.getD i ByteArray.empty :: y.drop (i + 1)) = false := by
        refine decide_eq_false (fun h => he ?_)
        rw [(List.cons.inj h).1]
      rw [e]
      refine Ev.step (f := fun _ => some _) (fun k => ?_) (Ev.now _)
      simp only [signetref18_Same.l0]
      rw [if_pos h1, if_pos h0, if_pos h1, if_pos h2, rdOf_nat, rdOf_nat, if_neg he]

theorem same_ev (x y : List ByteArray) (hx : x.length ≤ 9223372036854775807) : Ev (fun k => signetref18_Same.f k x y) (decide (x = y)) := by
  by_cases hl : x.length = y.length
  · have := same_loop x y hx hl x.length 0 (by omega)
    simp only [List.drop_zero] at this
    refine Ev.congr (fun k => ?_) this
    simp only [signetref18_Same.f]
    rw [if_pos (by omega)]
    rfl
  · have e : decide (x = y) = false := decide_eq_false (fun h => hl (by rw [h]))
    rw [e]
    refine Ev.congr (f := fun _ => some false) (fun k => ?_) (Ev.now _)
    simp only [signetref18_Same.f]
    rw [if_neg (by omega)]

end Go.Proofs.YtckpnmghbjimiaaDoor.Pure
