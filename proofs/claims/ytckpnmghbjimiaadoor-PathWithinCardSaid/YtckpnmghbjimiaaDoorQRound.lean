/- The one form of a path is read back (pure); Same and Within. -/
import Derived.Test.YtckpnmghbjimiaaDoorQClean
import Derived.Test.YtckpnmghbjimiaaDoorPxPathSame
import Derived.Test.YtckpnmghbjimiaaDoorG6
namespace Go.Proofs.YtckpnmghbjimiaaDoor.Pure
open Go.Proofs.YtckpnmghbjimiaaDoor Go.Proofs.YtckpnmghbjimiaaDoor.P Go.RowKit Go.Proofs.YtckpnmghbjimiaaDoorW.PrintWords

theorem indexAny_mem (chars : List UInt8) : ∀ (l : List UInt8) (b : UInt8), b ∈ l → chars.contains b = true → 0 ≤ Lib.indexAny l chars
  | [], b, h, _ => by simp at h
  | c :: l, b, h, hc => by
    rw [Lib.indexAny]
    split
    · exact Int.le_refl _
    · next hn =>
      rcases List.mem_cons.1 h with rfl | h
      · exact absurd hc hn
      · have ih := indexAny_mem chars l b h hc
        split
        · next e => rw [beq_iff_eq.1 e] at ih; omega
        · omega

theorem no47 {x : ByteArray} (h : checkE x = 0) : ∀ c ∈ x.data.toList, c ≠ 47 := by
  intro c hc e
  subst e
  have hb : hasBad x = true := decide_eq_true (indexAny_mem _ _ _ hc rfl)
  have := nameB_bad hb
  unfold nameB at this
  rw [h] at this
  cases this

theorem join_cons (x y : ByteArray) (l : List ByteArray) : Lib.join ((x :: y :: l).map (·.data.toList)) [47] = x.data.toList ++ 47 :: Lib.join ((y :: l).map (·.data.toList)) [47] := by
  simp [Lib.join, List.intercalate]

theorem split_join : ∀ l : List ByteArray, l ≠ [] → (∀ x ∈ l, checkE x = 0) → splitSlash (Lib.join (l.map (·.data.toList)) [47]) = l.map (·.data.toList)
  | [], h, _ => absurd rfl h
  | [x], _, h => by
    rw [show Lib.join ([x].map (·.data.toList)) [47] = x.data.toList from by simp [Lib.join, List.intercalate]]
    rw [split_word _ (no47 (h x List.mem_cons_self))]
    rfl
  | x :: y :: l, _, h => by
    have ih := split_join (y :: l) (by simp) (fun z hz => h z (List.mem_cons_of_mem _ hz))
    rw [join_cons, split_word_slash _ _ (no47 (h x List.mem_cons_self)), ih]
    rfl

theorem runP_form : ∀ (l N : List ByteArray) (D : Bool) (i : Int), (∀ x ∈ l, checkE x = 0) → N.length + l.length ≤ 32 → ∃ j, runP (N, D, i) l = .ok (N ++ l, if l = [] then D else false, j)
  | [], N, D, i, _, _ => ⟨i, by simp [runP]⟩
  | x :: l, N, D, i, h, hl => by
    have hx := h x List.mem_cons_self
    simp only [List.length_cons] at hl
    have hs : stepP (N, D, i) x = .ok (N ++ [x], false, i + (x.size + 1)) := by
      have h0 := hx
      unfold checkE at h0
      unfold stepP
      by_cases h1 : x.toList = []
      · rw [if_pos h1] at h0; cases h0
      · rw [if_neg h1] at h0 ⊢
        by_cases h2 : 56 < x.size
        · rw [if_pos h2] at h0; cases h0
        · rw [if_neg h2] at h0
          by_cases h3 : hasBad x = true
          · rw [if_pos h3] at h0; cases h0
          · rw [if_neg h3] at h0
            by_cases h4 : x.toList = [46]
            · rw [if_pos h4] at h0; cases h0
            · rw [if_neg h4] at h0 ⊢
              by_cases h5 : x.toList = [46, 46]
              · rw [if_pos h5] at h0; cases h0
              · rw [if_neg h5, if_neg (fun g => g hx), if_neg (by show ¬ N.length = 32; omega)]
    obtain ⟨j, hj⟩ := runP_form l (N ++ [x]) false (i + (x.size + 1)) (fun y hy => h y (List.mem_cons_of_mem _ hy)) (by simp; omega)
    refine ⟨j, ?_⟩
    rw [runP, hs]
    simp only
    rw [hj]
    simp

theorem parse_form (l : List ByteArray) (h : ∀ x ∈ l, checkE x = 0) (hl : l.length ≤ 32) (hs : (formL l).size ≤ 1024) : parseA (formL l) = (l, decide (l = []), 0, 0) := by
  unfold parseA
  rw [if_neg (by omega), if_pos (by rw [formL, data_ofL]; rfl)]
  unfold parseR parts
  rw [Lib.extract_to_end, formL, data_ofL]
  simp only [List.drop_succ_cons, List.drop_zero]
  by_cases h0 : l = []
  · subst h0
    have e : (splitSlash (Lib.join (([] : List ByteArray).map (·.data.toList)) [47])).map ofL = [ofL []] := rfl
    rw [e, runP]
    have : stepP ([], true, 1) (ofL []) = .ok ([], true, 1 + ((ofL []).size + 1)) := by
      unfold stepP
      rw [if_pos (toList_ofL [])]
    rw [this]
    rfl
  · rw [split_join l h0 h]
    have e : (l.map (·.data.toList)).map ofL = l := by
      rw [List.map_map]
      conv => rhs; rw [← List.map_id l]
      exact List.map_congr_left (fun x _ => ofL_data x)
    obtain ⟨j, hj⟩ := runP_form l [] true 1 h (by simpa using hl)
    rw [e, hj]
    simp [finP, h0]

theorem equal_loop (x y : List ByteArray) (hx : x.length ≤ 9223372036854775807) (hl : x.length = y.length) (d : Nat) : ∀ i : Nat, i + d = x.length →
    Ev (fun k => slices_Equal_string_string.l0 k x y (x.length : Int) (i : Int)) (decide (x.drop i = y.drop i)) := by
  induction d with
  | zero =>
    intro i hi
    refine Ev.step (f := fun _ => some _) (fun k => ?_) (Ev.now _)
    simp only [slices_Equal_string_string.l0]
    rw [if_neg (by omega), List.drop_of_length_le (by omega : x.length ≤ i), List.drop_of_length_le (by omega : y.length ≤ i)]
    rfl
  | succ d ih =>
    intro i hi
    have h1 : (i : Int) < (x.length : Int) := by omega
    have h0 : (0 : Int) ≤ (i : Int) := by omega
    have h2 : (i : Int) < (y.length : Int) := by omega
    rw [drop_cons x i (by omega), drop_cons y i (by omega)]
    by_cases he : (x.getD i ByteArray.empty).toList = (y.getD i ByteArray.empty).toList
    · have e : decide (x.getD i ByteArray.empty :: x.drop (i + 1) = y.getD i ByteArray.empty :: y.drop (i + 1)) = decide (x.drop (i + 1) = y.drop (i + 1)) := by rw [toList_inj he]; simp
      rw [e]
      refine Ev.step (fun k => ?_) (ih (i + 1) (by omega))
      simp only [slices_Equal_string_string.l0]
      rw [if_pos h1, if_pos h0, if_pos h1, if_pos h2, rdOf_nat, rdOf_nat, if_pos he, wrap_succ h0 (by omega)]
      rfl
    · have e : decide (x.getD i ByteArray.empty :: x.drop (i + 1) = y.getD i ByteArray.empty :: y.drop (i + 1)) = false := decide_eq_false (fun g => he (by rw [(List.cons.inj g).1]))
      rw [e]
      refine Ev.step (f := fun _ => some _) (fun k => ?_) (Ev.now _)
      simp only [slices_Equal_string_string.l0]
      rw [if_pos h1, if_pos h0, if_pos h1, if_pos h2, rdOf_nat, rdOf_nat, if_neg he]

theorem equal_ev (x y : List ByteArray) (hx : x.length ≤ 9223372036854775807) : Ev (fun k => slices_Equal_string_string.f k x y) (decide (x = y)) := by
  by_cases hl : x.length = y.length
  · have := equal_loop x y hx hl x.length 0 (by omega)
    simp only [List.drop_zero] at this
    refine Ev.congr (fun k => ?_) this
    simp only [slices_Equal_string_string.f]
    rw [if_pos (by omega)]
    rfl
  · have e : decide (x = y) = false := decide_eq_false (fun h => hl (by rw [h]))
    rw [e]
    refine Ev.congr (f := fun _ => some false) (fun k => ?_) (Ev.now _)
    simp only [slices_Equal_string_string.f]
    rw [if_neg (by omega)]

/-- Same: two texts that are paths of the same names. -/
def sameA (s t : ByteArray) : Bool := decide ((parseA s).2.2.2 = 0) && decide ((parseA t).2.2.2 = 0) && decide ((parseA s).1 = (parseA t).1)
theorem psame_ev (s t : ByteArray) : Ev (fun k => path_Same.f k s t) (sameA s t) := by
  unfold path_Same.f path_Parse.f sameA
  simp only [Option.bind_some]
  have h1 := parseA_len s
  by_cases h : (parseA s).2.2.2 = 0
  · by_cases h2 : (parseA t).2.2.2 = 0
    · simp only [if_pos h, if_pos h2]
      simp only [h, h2, decide_true, Bool.true_and]
      exact Ev.bind (f := fun _ t => some t) (equal_ev _ _ (by omega)) (Ev.now _)
    · simp only [if_pos h, if_neg h2]
      simp only [h2, decide_false, Bool.and_false, Bool.false_and]
      exact Ev.now _
  · simp only [if_neg h]
    simp only [h, decide_false, Bool.false_and]
    exact Ev.now _

/-- Within: the names begin with others. -/
theorem within_ev (x y : List ByteArray) (a b : Bool) (hx : x.length ≤ 9223372036854775807) : Ev (fun k => path_Within.f k x a y b) (decide (y.length ≤ x.length) && decide (x.take y.length = y)) := by
  unfold path_Within.f
  by_cases h : y.length ≤ x.length
  · simp only [if_pos h]
    simp only [h, decide_true, Bool.true_and]
    exact equal_ev _ _ (by rw [List.length_take]; omega)
  · simp only [if_neg h]
    simp only [h, decide_false, Bool.false_and]
    exact Ev.now _

end Go.Proofs.YtckpnmghbjimiaaDoor.Pure
