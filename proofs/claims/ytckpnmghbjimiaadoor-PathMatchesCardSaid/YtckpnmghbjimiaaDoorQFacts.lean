/- What is true of every answer of the parsers (pure). -/
import Derived.Test.YtckpnmghbjimiaaDoorQNames
import Derived.Test.YtckpnmghbjimiaaDoorPxPathSplit
import Derived.Test.YtckpnmghbjimiaaDoorPxSignetlaw18Same
namespace Go.Proofs.YtckpnmghbjimiaaDoor.Pure
open Go.Proofs.YtckpnmghbjimiaaDoor Go.Proofs.YtckpnmghbjimiaaDoor.P Go.RowKit Go.Proofs.YtckpnmghbjimiaaDoorW.PrintWords

theorem stepP_names {st st' : PSt} {x : ByteArray} (h : stepP st x = .ok st') (hn : ∀ y ∈ st.1, checkE y = 0) : ∀ y ∈ st'.1, checkE y = 0 := by
  unfold stepP at h
  by_cases h1 : x.toList = []
  · rw [if_pos h1] at h; cases h; exact hn
  · rw [if_neg h1] at h
    by_cases h2 : x.toList = [46]
    · rw [if_pos h2] at h; cases h; exact hn
    · rw [if_neg h2] at h
      by_cases h3 : x.toList = [46, 46]
      · rw [if_pos h3] at h; cases h; exact fun y hy => hn y (List.dropLast_subset _ hy)
      · rw [if_neg h3] at h
        by_cases h4 : checkE x = 0
        · rw [if_neg (fun g => g h4)] at h
          by_cases h5 : st.1.length = 32
          · rw [if_pos h5] at h; cases h
          · rw [if_neg h5] at h
            cases h
            intro y hy
            rcases List.mem_append.1 hy with hy | hy
            · exact hn y hy
            · rw [List.mem_singleton.1 hy]; exact h4
        · rw [if_pos h4] at h; cases h

theorem runP_names : ∀ (a : List ByteArray) (st st' : PSt), runP st a = .ok st' → (∀ y ∈ st.1, checkE y = 0) → ∀ y ∈ st'.1, checkE y = 0
  | [], st, st', h, hn => by cases h; exact hn
  | x :: a, st, st', h, hn => by
    rw [runP] at h
    cases hs : stepP st x with
    | error e => rw [hs] at h; cases h
    | ok st1 =>
      rw [hs] at h
      exact runP_names a st1 st' h (stepP_names hs hn)

theorem parseA_names (s : ByteArray) : ∀ x ∈ (parseA s).1, checkE x = 0 := by
  unfold parseA
  split
  · simp
  · split
    · unfold parseR
      cases hr : runP ([], true, 1) (parts (s.extract 1 s.size)) with
      | ok st => exact runP_names _ _ _ hr (by simp)
      | error e => simp [finP]
    · simp

theorem parseA_len (s : ByteArray) : (parseA s).1.length ≤ 32 := by
  unfold parseA
  split
  · simp
  · split
    · unfold parseR
      cases hr : runP ([], true, 1) (parts (s.extract 1 s.size)) with
      | ok st => exact runP_len _ _ _ hr (by simp)
      | error e => simp [finP]
    · simp

theorem runP_ecode : ∀ (a : List ByteArray) (st : PSt) (e : Int × Int), runP st a = .error e → e.2 = 130 ∨ e.2 = 182
  | [], st, e, h => by cases h
  | x :: a, st, e, h => by
    rw [runP] at h
    cases hs : stepP st x with
    | ok st1 => rw [hs] at h; exact runP_ecode a st1 e h
    | error e2 =>
      rw [hs] at h
      cases h
      unfold stepP at hs
      by_cases h1 : x.toList = []
      · rw [if_pos h1] at hs; cases hs
      · rw [if_neg h1] at hs
        by_cases h2 : x.toList = [46]
        · rw [if_pos h2] at hs; cases hs
        · rw [if_neg h2] at hs
          by_cases h3 : x.toList = [46, 46]
          · rw [if_pos h3] at hs; cases hs
          · rw [if_neg h3] at hs
            by_cases h4 : checkE x = 0
            · rw [if_neg (fun g => g h4)] at hs
              by_cases h5 : st.1.length = 32
              · rw [if_pos h5] at hs; cases hs; exact .inr rfl
              · rw [if_neg h5] at hs; cases hs
            · rw [if_pos h4] at hs
              cases hs
              exact .inl ((checkE_cases x).resolve_left h4)

/-- An answer is an error, which says nothing more, or there is none. -/
theorem parseA_cases (s : ByteArray) : ((parseA s).2.2.2 = 0 ∧ (parseA s).2.2.1 = 0) ∨ ((parseA s).2.2.2 ≠ 0 ∧ (parseA s).1 = [] ∧ (parseA s).2.1 = false) := by
  unfold parseA
  split
  · exact .inr ⟨by decide, rfl, rfl⟩
  · split
    · unfold parseR
      cases hr : runP ([], true, 1) (parts (s.extract 1 s.size)) with
      | ok st => exact .inl ⟨rfl, rfl⟩
      | error e =>
        refine .inr ⟨?_, rfl, rfl⟩
        rcases runP_ecode _ _ _ hr with h | h <;> (show e.2 ≠ 0; rw [h]; decide)
    · exact .inr ⟨by decide, rfl, rfl⟩

def splitA (s : ByteArray) : List ByteArray × Bool × ByteArray × Int :=
  if (parseA s).2.2.2 = 0 then if (parseA s).1 = [] then ([], false, ⟨#[]⟩, 180) else ((parseA s).1.dropLast, true, (parseA s).1.getD ((parseA s).1.length - 1) ByteArray.empty, 0) else ([], false, ⟨#[]⟩, (parseA s).2.2.2)

theorem split_f (s : ByteArray) : path_Split.f s = some (splitA s) := by
  unfold path_Split.f splitA path_Parse.f
  have hlen := parseA_len s
  generalize parseA s = p at *
  simp only [Option.bind_some]
  by_cases h : p.2.2.2 = 0
  · rw [if_pos h, if_pos h]
    by_cases h0 : p.1 = []
    · rw [if_pos (by rw [h0]; rfl), if_pos h0]
    · have hn : 0 < p.1.length := List.length_pos_iff.2 h0
      have hw : wrap64 ((p.1.length : Int) - 1) = ((p.1.length - 1 : Nat) : Int) := by unfold wrap64; omega
      have ht : p.1.take ((p.1.length - 1 : Nat) : Int).toNat = p.1.dropLast := by rw [List.dropLast_eq_take]; rfl
      rw [if_neg (by omega), if_neg h0, hw, if_pos (by omega), if_pos (by omega), ht]
      unfold slices_Clone_string_string.f
      rw [if_pos (by simp; omega), Option.bind_some, if_pos (by omega)]
      rfl
  · rw [if_neg h, if_neg h]

theorem lsame_ev (x y : List ByteArray) (a b : Bool) (hx : x.length ≤ 9223372036854775807) : Ev (fun k => signetlaw18_same.f k x a y b) (decide (a = b) && decide (x = y)) := by
  unfold signetlaw18_same.f
  by_cases h : a = b
  · subst h
    simp only [beq_self_eq_true, if_true, decide_true, Bool.true_and]
    refine Ev.congr (fun k => ?_) (same_ev x y hx)
    cases signetref18_Same.f k x y <;> rfl
  · have : (a == b) = false := by simpa using h
    rw [this]
    simp only [Bool.false_eq_true, if_false, h, decide_false, Bool.false_and]
    exact Ev.now _
theorem lsame_self (x : List ByteArray) (a : Bool) (hx : x.length ≤ 9223372036854775807) : Ev (fun k => signetlaw18_same.f k x a x a) true := by
  have := lsame_ev x x a a hx
  simpa using this

end Go.Proofs.YtckpnmghbjimiaaDoor.Pure
