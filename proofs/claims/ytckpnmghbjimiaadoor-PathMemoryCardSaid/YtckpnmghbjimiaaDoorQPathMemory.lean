/- The pure law of PathMemory: what is handed out is the caller's own. -/
import Derived.Test.YtckpnmghbjimiaaDoorQFacts
import Derived.Test.YtckpnmghbjimiaaDoorPxSignetlaw18PathMemory
namespace Go.Proofs.YtckpnmghbjimiaaDoor.Pure
open Go.Proofs.YtckpnmghbjimiaaDoor Go.Proofs.YtckpnmghbjimiaaDoor.P Go.RowKit Go.Proofs.YtckpnmghbjimiaaDoorW.PrintWords

theorem split_ok (s : ByteArray) : ((splitA s).2.2.2 == 0) = (if (parseA s).2.2.2 = 0 then decide (((parseA s).1.length : Int) > 0) else false) := by
  unfold splitA
  by_cases h : (parseA s).2.2.2 = 0
  · rw [if_pos h, if_pos h]
    by_cases h0 : (parseA s).1 = []
    · rw [if_pos h0, h0]; rfl
    · have hn : 0 < (parseA s).1.length := List.length_pos_iff.2 h0
      rw [if_neg h0, decide_eq_true (by omega)]
      rfl
  · rw [if_neg h, if_neg h]
    simpa using h

theorem memory_loop (s : ByteArray) (sd : Bool) (n : Nat) (hn : n ≤ 32) (d : Nat) : ∀ (i : Nat) (M : List ByteArray), i + d = n → M.length = n →
    Ev (fun k => signetlaw18_PathMemory.l0 k s (splitA s).2.2.2 (parseA s).2.2.2 (n : Int) (i : Int) (parseA s).1 (parseA s).2.1 M sd (parseA s).1 (parseA s).2.1) true := by
  have hlen := parseA_len s
  induction d with
  | zero =>
    intro i M hi hM
    refine Ev.step (f := fun k => (signetlaw18_same.f k (parseA s).1 (parseA s).2.1 (parseA s).1 (parseA s).2.1).bind fun t242 => (if t242 = true then ((signetlaw18_same.f k (parseA s).1 (parseA s).2.1 (parseA s).1 (parseA s).2.1).bind fun t243 => (if t243 = true then (if (parseA s).2.2.2 = 0 then (some (((splitA s).2.2.2 == 0) == (decide (((parseA s).1.length : Int) > 0)))) else (some (((splitA s).2.2.2 == 0) == false))) else (some false))) else (some false))) (fun k => ?_) ?_
    · simp only [signetlaw18_PathMemory.l0]
      rw [if_neg (by omega), if_pos (by simp; omega)]
      unfold path_Parse.f
      simp only [Option.bind_some]
    · refine Ev.bind (lsame_self _ _ (by omega)) ?_
      simp only [if_true]
      refine Ev.bind (lsame_self _ _ (by omega)) ?_
      simp only [if_true]
      rw [split_ok]
      by_cases h : (parseA s).2.2.2 = 0
      · simp only [h, if_true, beq_self_eq_true]
        exact Ev.now _
      · simp only [h, if_false, beq_self_eq_true]
        exact Ev.now _
  | succ d ih =>
    intro i M hi hM
    refine Ev.step (fun k => ?_) (ih (i + 1) (M.set i (⟨#[109, 97, 114, 107]⟩ : ByteArray)) (by omega) (by simpa using hM))
    simp only [signetlaw18_PathMemory.l0]
    rw [if_pos (by omega), if_pos (by omega), if_pos (by omega), wrap_succ (by omega) (by omega)]
    rfl

theorem PathMemory (s : ByteArray) (_hs : s.size ≤ 140737488351232) : ∃ k, signetlaw18_PathMemory.f k s = some true := by
  refine Ev.rounds ?_
  unfold signetlaw18_PathMemory.f path_Parse.f
  simp only [split_f, awake_true, Option.bind_some, if_true]
  refine Ev.bind (parse_ev s) ?_
  simp only [bne_self_eq_false]
  have hl : (splitA s).1.length ≤ 32 := by
    have := parseA_len s
    unfold splitA
    split
    · split
      · simp
      · simp; omega
    · simp
  refine Ev.step (f := fun k => signetlaw18_PathMemory.l0 k s (splitA s).2.2.2 (parseA s).2.2.2 ((splitA s).1.length : Int) ((0 : Nat) : Int) (parseA s).1 (parseA s).2.1 (splitA s).1 (splitA s).2.1 (parseA s).1 (parseA s).2.1) (fun k => ?_) (memory_loop s _ _ hl _ 0 _ (Nat.zero_add _) rfl)
  simp only [signetlaw18_PathMemory.j0, Bool.false_eq_true, if_false]
  rfl

end Go.Proofs.YtckpnmghbjimiaaDoor.Pure
