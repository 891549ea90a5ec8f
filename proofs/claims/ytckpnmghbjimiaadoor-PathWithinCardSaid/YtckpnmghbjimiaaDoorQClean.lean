/- Clean (pure): the one form of a path. -/
import Derived.Test.YtckpnmghbjimiaaDoorQFacts
import Derived.Test.YtckpnmghbjimiaaDoorQPrint
import Derived.Test.YtckpnmghbjimiaaDoorPxPathClean
namespace Go.Proofs.YtckpnmghbjimiaaDoor.Pure
open Go.Proofs.YtckpnmghbjimiaaDoor Go.Proofs.YtckpnmghbjimiaaDoor.P Go.RowKit Go.Proofs.YtckpnmghbjimiaaDoorW.PrintWords

theorem lensP_dropLast : ∀ l : List ByteArray, lensP l.dropLast ≤ lensP l
  | [] => Nat.le_refl _
  | [x] => by simp [lensP]
  | x :: y :: l => by
    have ih := lensP_dropLast (y :: l)
    simp only [List.dropLast_cons_cons, lensP, List.map_cons, List.sum_cons] at ih ⊢
    omega

theorem stepP_lens {st st' : PSt} {x : ByteArray} (h : stepP st x = .ok st') : lensP st'.1 ≤ lensP st.1 + (x.size + 1) := by
  unfold stepP at h
  by_cases h1 : x.toList = []
  · rw [if_pos h1] at h; cases h; exact Nat.le_add_right _ _
  · rw [if_neg h1] at h
    by_cases h2 : x.toList = [46]
    · rw [if_pos h2] at h; cases h; exact Nat.le_add_right _ _
    · rw [if_neg h2] at h
      by_cases h3 : x.toList = [46, 46]
      · rw [if_pos h3] at h; cases h; exact Nat.le_trans (lensP_dropLast _) (Nat.le_add_right _ _)
      · rw [if_neg h3] at h
        by_cases h4 : checkE x = 0
        · rw [if_neg (fun g => g h4)] at h
          by_cases h5 : st.1.length = 32
          · rw [if_pos h5] at h; cases h
          · rw [if_neg h5] at h
            cases h
            show lensP (st.1 ++ [x]) ≤ _
            rw [lensP_append]
            simp [lensP]
        · rw [if_pos h4] at h; cases h

theorem runP_lens : ∀ (a : List ByteArray) (st st' : PSt), runP st a = .ok st' → lensP st'.1 ≤ lensP st.1 + lensP a
  | [], st, st', h => by cases h; exact Nat.le_add_right _ _
  | x :: a, st, st', h => by
    rw [runP] at h
    cases hs : stepP st x with
    | error e => rw [hs] at h; cases h
    | ok st1 =>
      rw [hs] at h
      have h1 := runP_lens a st1 st' h
      have h2 := stepP_lens hs
      have h3 : lensP (x :: a) = x.size + 1 + lensP a := by simp [lensP]
      omega

/-- The names of a text are no longer than it. -/
theorem parseA_lens (s : ByteArray) (h0 : (parseA s).2.2.2 = 0) : lensP (parseA s).1 ≤ s.size ∧ s.size ≤ 1024 ∧ 1 ≤ s.size := by
  unfold parseA at h0 ⊢
  by_cases h1 : 1024 < s.size
  · rw [if_pos h1] at h0; cases h0
  · rw [if_neg h1] at h0 ⊢
    by_cases h2 : s.data.toList.head? = some 47
    · rw [if_pos h2] at h0 ⊢
      have hpos : 1 ≤ s.size := by
        rw [Lib.size_eq]
        cases hl : s.data.toList with
        | nil => rw [hl] at h2; cases h2
        | cons c l => simp
      refine ⟨?_, by omega, hpos⟩
      unfold parseR at h0 ⊢
      cases hr : runP ([], true, 1) (parts (s.extract 1 s.size)) with
      | ok st =>
        have := runP_lens _ _ _ hr
        have h3 := lensP_parts (s.extract 1 s.size)
        have h4 : (s.extract 1 s.size).size = s.size - 1 := by rw [Lib.size_eq, Lib.extract_to_end, List.length_drop, ← Lib.size_eq]
        rw [h3, h4] at this
        show lensP st.1 ≤ _
        simp only [lensP, List.map_nil, List.sum_nil] at this ⊢
        omega
      | error e =>
        rw [hr] at h0
        rcases runP_ecode _ _ _ hr with h | h <;> (exfalso; change e.2 = 0 at h0; rw [h] at h0; cases h0)
    · rw [if_neg h2] at h0; cases h0

theorem formL_le (l : List ByteArray) (h : lensP l ≤ 1024) : (formL l).size ≤ 1024 ∧ ∀ n, lensP l ≤ n → 1 ≤ n → (formL l).size ≤ n := by
  by_cases h0 : l = []
  · subst h0
    have : (formL []).size = 1 := rfl
    exact ⟨by omega, fun n _ _ => by omega⟩
  · rw [formL_size l h0]
    exact ⟨h, fun n hn _ => hn⟩

theorem badAt_all : ∀ (l : List ByteArray) (i : Int), (∀ x ∈ l, checkE x = 0) → badAt l i = none
  | [], _, _ => rfl
  | x :: l, i, h => by
    rw [badAt, if_pos (h x List.mem_cons_self)]
    exact badAt_all l _ (fun y hy => h y (List.mem_cons_of_mem _ hy))

theorem printA_names (s : ByteArray) (h0 : (parseA s).2.2.2 = 0) : printA (parseA s).1 = (formL (parseA s).1, 0, 0) := by
  unfold printA
  rw [badAt_all _ _ (parseA_names s)]
  have h1 := parseA_len s
  have h2 := parseA_lens s h0
  have h3 := (formL_le (parseA s).1 (by omega)).1
  simp only
  rw [if_neg (by omega), if_neg (by omega)]

def cleanA (s : ByteArray) : ByteArray × Int := if (parseA s).2.2.2 = 0 then (formL (parseA s).1, 0) else (⟨#[]⟩, (parseA s).2.2.2)
theorem clean_ev (s : ByteArray) : Ev (fun k => path_Clean.f k s) (cleanA s) := by
  unfold path_Clean.f path_Parse.f cleanA
  simp only [Option.bind_some]
  by_cases h : (parseA s).2.2.2 = 0
  · simp only [if_pos h]
    refine Ev.bind (print_ev _ (by have := parseA_len s; omega)) ?_
    simp only [printA_names s h]
    exact Ev.now _
  · simp only [if_neg h]
    exact Ev.now _

end Go.Proofs.YtckpnmghbjimiaaDoor.Pure
