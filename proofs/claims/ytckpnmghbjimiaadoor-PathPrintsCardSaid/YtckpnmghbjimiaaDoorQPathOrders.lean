/- The pure law of PathOrders: Compare is the order of the names, and an order. -/
import Derived.Test.YtckpnmghbjimiaaDoorS1
import Derived.Test.YtckpnmghbjimiaaDoorPxSignetlaw18PathOrders
namespace Go.Proofs.YtckpnmghbjimiaaDoor.Pure
open Go.Proofs.YtckpnmghbjimiaaDoor Go.Proofs.YtckpnmghbjimiaaDoor.P Go.RowKit Go.Proofs.YtckpnmghbjimiaaDoorW.PrintWords

theorem cmp_eq (a b : ByteArray) : cmp_Compare_string.f a b = some (cB a.toList b.toList) := by
  unfold cmp_Compare_string.f cmp_isNaN_string.f cB
  have h : ∀ l : List UInt8, (l != l) = false := fun l => by simp
  simp only [h, Option.bind_some, Bool.false_eq_true, if_false]
  repeat' split
  all_goals rfl

theorem rdOf_nat (l : List ByteArray) (i : Nat) : rdOf ByteArray.empty l (i : Int) = l.getD i ByteArray.empty := rfl
theorem drop_cons (l : List ByteArray) (i : Nat) (h : i < l.length) : l.drop i = l.getD i ByteArray.empty :: l.drop (i + 1) := by
  rw [List.drop_eq_getElem_cons h, List.getD_eq_getElem?_getD, List.getElem?_eq_getElem h]
  rfl

theorem sc_loop (x y : List ByteArray) (hx : x.length ≤ 9223372036854775807) (d : Nat) : ∀ i : Nat, i + d = x.length →
    Ev (fun k => slices_Compare_string_string.l0 k x y x (x.length : Int) (i : Int)) (cL (x.drop i) (y.drop i)) := by
  induction d with
  | zero =>
    intro i hi
    refine Ev.step (f := fun _ => some (cL (x.drop i) (y.drop i))) (fun k => ?_) (Ev.now _)
    have h1 : ¬ ((i : Int) < (x.length : Int)) := by omega
    simp only [slices_Compare_string_string.l0]
    rw [if_neg h1, List.drop_of_length_le (by omega : x.length ≤ i)]
    by_cases h2 : (x.length : Int) < (y.length : Int)
    · rw [if_pos h2, drop_cons y i (by omega)]; rfl
    · rw [if_neg h2, List.drop_of_length_le (by omega : y.length ≤ i)]; rfl
  | succ d ih =>
    intro i hi
    have h1 : (i : Int) < (x.length : Int) := by omega
    have h0 : (0 : Int) ≤ (i : Int) := by omega
    rw [drop_cons x i (by omega)]
    by_cases h2 : i < y.length
    · rw [drop_cons y i h2]
      by_cases hc : cB (x.getD i ByteArray.empty).toList (y.getD i ByteArray.empty).toList = 0
      · have e : cL (x.getD i ByteArray.empty :: x.drop (i + 1)) (y.getD i ByteArray.empty :: y.drop (i + 1)) = cL (x.drop (i + 1)) (y.drop (i + 1)) := by rw [cL, if_pos hc]
        rw [e]
        refine Ev.step (fun k => ?_) (ih (i + 1) (by omega))
        simp only [slices_Compare_string_string.l0]
        rw [if_pos h1, if_pos h0, if_pos h1, if_neg (by omega), if_pos (by omega), cmp_eq, rdOf_nat, rdOf_nat, hc]
        simp only [Option.bind_some, if_true]
        rw [wrap_succ h0 (by omega)]
        rfl
      · have e : cL (x.getD i ByteArray.empty :: x.drop (i + 1)) (y.getD i ByteArray.empty :: y.drop (i + 1)) = cB (x.getD i ByteArray.empty).toList (y.getD i ByteArray.empty).toList := by rw [cL, if_neg hc]
        rw [e]
        refine Ev.step (f := fun _ => some _) (fun k => ?_) (Ev.now _)
        simp only [slices_Compare_string_string.l0]
        rw [if_pos h1, if_pos h0, if_pos h1, if_neg (by omega), if_pos (by omega), cmp_eq, rdOf_nat, rdOf_nat]
        simp only [Option.bind_some]
        rw [if_neg hc]
    · rw [List.drop_of_length_le (by omega : y.length ≤ i)]
      refine Ev.step (f := fun _ => some _) (fun k => ?_) (Ev.now _)
      simp only [slices_Compare_string_string.l0]
      rw [if_pos h1, if_pos h0, if_pos h1, if_pos (by omega)]
      rfl

theorem compare_ev (x y : List ByteArray) (hx : x.length ≤ 9223372036854775807) : Ev (fun k => path_Compare.f k x y) (cL x y) := by
  have := sc_loop x y hx x.length 0 (by omega)
  simp only [List.drop_zero] at this
  exact Ev.bind (f := fun _ t => some t) this (Ev.now _)

theorem cL_lt {a b : ByteArray} {x y : List ByteArray} (h : Op.bytesLess a.toList b.toList = true) : cL (a :: x) (b :: y) = -1 := by simp [cL, cB, h]
theorem cL_gt {a b : ByteArray} {x y : List ByteArray} (h : ¬ Op.bytesLess a.toList b.toList = true) (h2 : Op.bytesLess b.toList a.toList = true) : cL (a :: x) (b :: y) = 1 := by simp [cL, cB, h, h2]
theorem cL_eq {a b : ByteArray} {x y : List ByteArray} (h : ¬ Op.bytesLess a.toList b.toList = true) (h2 : ¬ Op.bytesLess b.toList a.toList = true) : cL (a :: x) (b :: y) = cL x y := by simp [cL, cB, h, h2]

theorem order_loop (x y : List ByteArray) (hx : x.length ≤ 9223372036854775807) (d : Nat) : ∀ i : Nat, i + d = x.length → i ≤ y.length →
    Ev (fun k => signetref18_Order.l0 k x y (i : Int)) (cL (x.drop i) (y.drop i)) := by
  induction d with
  | zero =>
    intro i hi hy
    refine Ev.step (f := fun k => signetref18_Order.j1 k x y i false) (fun k => ?_) (Ev.step (f := fun _ => some (cL (x.drop i) (y.drop i))) (fun k => ?_) (Ev.now _))
    · simp only [signetref18_Order.l0]
      rw [if_neg (by omega)]
    · simp only [signetref18_Order.j1, Bool.false_eq_true, if_false]
      rw [List.drop_of_length_le (by omega : x.length ≤ i)]
      by_cases h2 : (x.length : Int) < (y.length : Int)
      · rw [if_pos h2, drop_cons y i (by omega)]; rfl
      · rw [if_neg h2, if_neg (by omega), List.drop_of_length_le (by omega : y.length ≤ i)]; rfl
  | succ d ih =>
    intro i hi hy
    have h1 : (i : Int) < (x.length : Int) := by omega
    have h0 : (0 : Int) ≤ (i : Int) := by omega
    by_cases h2 : i < y.length
    · have h2' : (i : Int) < (y.length : Int) := by omega
      rw [drop_cons x i (by omega), drop_cons y i h2]
      refine Ev.step (f := fun k => signetref18_Order.j1 k x y i true) (fun k => ?_) ?_
      · simp only [signetref18_Order.l0]
        rw [if_pos h1, decide_eq_true h2']
      · by_cases hb : Op.bytesLess (x.getD i ByteArray.empty).toList (y.getD i ByteArray.empty).toList = true
        · have e : cL (x.getD i ByteArray.empty :: x.drop (i + 1)) (y.getD i ByteArray.empty :: y.drop (i + 1)) = -1 := cL_lt hb
          rw [e]
          refine Ev.step (f := fun _ => some _) (fun k => ?_) (Ev.now _)
          simp only [signetref18_Order.j1, if_true]
          rw [if_pos h0, if_pos h1, if_pos h2', rdOf_nat, rdOf_nat, if_pos hb]
        · by_cases hb2 : Op.bytesLess (y.getD i ByteArray.empty).toList (x.getD i ByteArray.empty).toList = true
          · have e : cL (x.getD i ByteArray.empty :: x.drop (i + 1)) (y.getD i ByteArray.empty :: y.drop (i + 1)) = 1 := cL_gt hb hb2
            rw [e]
            refine Ev.step (f := fun _ => some _) (fun k => ?_) (Ev.now _)
            simp only [signetref18_Order.j1, if_true]
            rw [if_pos h0, if_pos h1, if_pos h2', rdOf_nat, rdOf_nat, if_neg hb, if_pos hb2]
          · have e : cL (x.getD i ByteArray.empty :: x.drop (i + 1)) (y.getD i ByteArray.empty :: y.drop (i + 1)) = cL (x.drop (i + 1)) (y.drop (i + 1)) := cL_eq hb hb2
            rw [e]
            refine Ev.step (fun k => ?_) (ih (i + 1) (by omega) (by omega))
            simp only [signetref18_Order.j1, if_true]
            rw [if_pos h0, if_pos h1, if_pos h2', rdOf_nat, rdOf_nat, if_neg hb, if_neg hb2, wrap_succ h0 (by omega)]
            rfl
    · refine Ev.step (f := fun k => signetref18_Order.j1 k x y i false) (fun k => ?_) (Ev.step (f := fun _ => some (cL (x.drop i) (y.drop i))) (fun k => ?_) (Ev.now _))
      · simp only [signetref18_Order.l0]
        rw [if_pos h1, decide_eq_false (by omega)]
      · simp only [signetref18_Order.j1, Bool.false_eq_true, if_false]
        rw [if_neg (by omega), if_pos (by omega), drop_cons x i (by omega), List.drop_of_length_le (by omega : y.length ≤ i)]
        rfl

theorem order_ev (x y : List ByteArray) (hx : x.length ≤ 9223372036854775807) : Ev (fun k => signetref18_Order.f k x y) (cL x y) := by
  have := order_loop x y hx x.length 0 (by omega) (by omega)
  simp only [List.drop_zero] at this
  exact this

theorem same_loop (x y : List ByteArray) (hx : x.length ≤ 9223372036854775807) (hl : x.length = y.length) (d : Nat) : ∀ i : Nat, i + d = x.length →
    Ev (fun k => signetref18_Same.l0 k x y (x.length : Int) (i : Int)) (decide (x.drop i = y.drop i)) := by
  induction d with
  | zero =>
    intro i hi
    refine Ev.step (f := fun _ => some _) (fun k => ?_) (Ev.now _)
    simp only [signetref18_Same.l0]
    rw [if_neg (by omega), List.drop_of_length_le (by omega : x.length ≤ i), List.drop_of_length_le (by omega : y.length ≤ i)]
    rfl
  | succ d ih =>
    intro i hi
    have h1 : (i : Int) < (x.length : Int) := by omega
    have h0 : (0 : Int) ≤ (i : Int) := by omega
    have h2 : (i : Int) < (y.length : Int) := by omega
    rw [drop_cons x i (by omega), drop_cons y i (by omega)]
    by_cases he : (x.getD i ByteArray.empty).toList = (y.getD i ByteArray.empty).toList
    · have e : decide (x.getD i ByteArray.empty :: x.drop (i + 1) = y.getD i ByteArray.empty :: y.drop (i + 1)) = decide (x.drop (i + 1) = y.drop (i + 1)) := by rw [toList_inj he]; simp
      rw [e]
      refine Ev.step (fun k => ?_) (ih (i + 1) (by omega))
      simp only [signetref18_Same.l0]
      rw [if_pos h1, if_pos h0, if_pos h1, if_pos h2, rdOf_nat, rdOf_nat, if_pos he, wrap_succ h0 (by omega)]
      rfl
    · have e : decide (x.getD i ByteArray.empty :: x.drop (i + 1) = y.getD i ByteArray.empty :: y.drop (i + 1)) = false := by
        refine decide_eq_false (fun h => he ?_)
        rw [(List.cons.inj h).1]
      rw [e]
      refine Ev.step (f := fun _ => some _) (fun k => ?_) (Ev.now _)
      simp only [signetref18_Same.l0]
      rw [if_pos h1, if_pos h0, if_pos h1, if_pos h2, rdOf_nat, rdOf_nat, if_neg he]

theorem same_ev (x y : List ByteArray) (hx : x.length ≤ 9223372036854775807) : Ev (fun k => signetref18_Same.f k x y) (decide (x = y)) := by
  by_cases hl : x.length = y.length
  · have := same_loop x y hx hl x.length 0 (by omega)
    simp only [List.drop_zero] at this
    refine Ev.congr (fun k => ?_) this
    simp only [signetref18_Same.f]
    rw [if_pos (by omega)]
    rfl
  · have e : decide (x = y) = false := decide_eq_false (fun h => hl (by rw [h]))
    rw [e]
    refine Ev.congr (f := fun _ => some false) (fun k => ?_) (Ev.now _)
    simp only [signetref18_Same.f]
    rw [if_neg (by omega)]

theorem PathOrders (l0 l1 l2 : List ByteArray) (h0 : l0.length ≤ 9223372036854775807) (h1 : l1.length ≤ 9223372036854775807) (h2 : l2.length ≤ 9223372036854775807) : ∃ k, signetlaw18_PathOrders.f k l0 l1 l2 = some true := by
  refine Ev.rounds (r := true) ?_
  refine Ev.bind (compare_ev l0 l1 h0) (Ev.bind (compare_ev l1 l2 h1) (Ev.bind (compare_ev l0 l2 h0) ?_))
  rw [awake_true]
  simp only [Option.bind_some, if_true]
  refine Ev.bind (order_ev l0 l1 h0) ?_
  simp only [if_true]
  refine Ev.bind (compare_ev l1 l0 h1) ?_
  have hw : cL l1 l0 = wrap64 (-cL l0 l1) := by
    rw [cL_swap l0 l1]
    rcases cL_range l0 l1 with h | h | h <;> rw [h] <;> (unfold wrap64; omega)
  simp only [hw, if_true]
  refine Ev.bind (same_ev l0 l1 h0) ?_
  have hz : (cL l0 l1 == 0) = decide (l0 = l1) := by
    rw [Bool.eq_iff_iff]
    simp [cL_zero]
  simp only [hz, bne_self_eq_false, Bool.false_eq_true, if_false]
  by_cases ht : cL l0 l1 = cL l1 l2
  · simp only [ht, if_true]
    rw [← ht, cL_trans ht]
    simp only [beq_self_eq_true]
    exact Ev.now _
  · simp only [ht, if_false]
    exact Ev.now _

end Go.Proofs.YtckpnmghbjimiaaDoor.Pure
