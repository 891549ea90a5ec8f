/- The pure law of PathClean. -/
import Derived.Test.YtckpnmghbjimiaaDoorQRound
import Derived.Test.YtckpnmghbjimiaaDoorPxSignetlaw18PathClean
namespace Go.Proofs.YtckpnmghbjimiaaDoor.Pure
open Go.Proofs.YtckpnmghbjimiaaDoor Go.Proofs.YtckpnmghbjimiaaDoor.P Go.RowKit Go.Proofs.YtckpnmghbjimiaaDoorW.PrintWords

theorem PathClean (s : ByteArray) (_hs : s.size ≤ 140737488351232) : ∃ k, signetlaw18_PathClean.f k s = some true := by
  refine Ev.rounds ?_
  unfold signetlaw18_PathClean.f path_Parse.f
  simp only [awake_true, Option.bind_some, if_true]
  have hlen := parseA_len s
  refine Ev.bind (clean_ev s) ?_
  unfold cleanA
  by_cases h : (parseA s).2.2.2 = 0
  · have h2 := parseA_lens s h
    have hf := formL_le (parseA s).1 (by omega)
    have hn := parseA_names s
    have hp := printA_names s h
    have hr := parse_form (parseA s).1 hn hlen hf.1
    simp only [h, if_true]
    have hc : cleanA (formL (parseA s).1) = (formL (parseA s).1, 0) := by
      unfold cleanA
      rw [hr]
      rfl
    refine Ev.bind (clean_ev (formL (parseA s).1)) ?_
    rw [hc]
    refine Ev.bind (print_ev (parseA s).1 (by omega)) ?_
    rw [hp]
    simp only [hr, if_true]
    refine Ev.bind (a := true) ?_ ?_
    · have e : (((parseA s).1.length : Int) == 0) = decide ((parseA s).1 = []) := by
        rw [Bool.eq_iff_iff]
        simp
      rw [e]
      exact lsame_self _ _ (by omega)
    · simp only [if_true]
      refine Ev.congr (f := fun k => (path_Same.f k s (formL (parseA s).1)).bind fun t316 => (if t316 = true then ((path_Within.f k (parseA s).1 (parseA s).2.1 (parseA s).1 (decide ((parseA s).1 = []))).bind fun t317 => (some t317)) else (some false))) (fun k => by rw [if_pos (by have := hf.2 s.size h2.1 h2.2.2; omega)]) ?_
      refine Ev.bind (psame_ev _ _) ?_
      have e : sameA s (formL (parseA s).1) = true := by
        unfold sameA
        rw [hr]
        simp [h]
      rw [e]
      simp only [if_true]
      have hw := within_ev (parseA s).1 (parseA s).1 (parseA s).2.1 (decide ((parseA s).1 = [])) (by omega)
      rw [List.take_length] at hw
      simp only [Nat.le_refl, decide_true, Bool.and_self] at hw
      exact Ev.bind (f := fun _ t => some t) hw (Ev.now _)
  · simp only [h, if_false, if_true]
    refine Ev.congr (f := fun k => (path_Same.f k s s).bind fun t302 => (some (!t302))) (fun k => by rw [if_pos (by rw [Lib.toList_data])]) ?_
    refine Ev.bind (psame_ev _ _) ?_
    have e : sameA s s = false := by unfold sameA; simp [h]
    rw [e]
    exact Ev.now _

end Go.Proofs.YtckpnmghbjimiaaDoor.Pure
