/- The pure law of PathParses: Parse, Clean and Split are the document's. -/
import Derived.Test.YtckpnmghbjimiaaDoorQClean
import Derived.Test.YtckpnmghbjimiaaDoorPxSignetlaw18PathParses
namespace Go.Proofs.YtckpnmghbjimiaaDoor.Pure
open Go.Proofs.YtckpnmghbjimiaaDoor Go.Proofs.YtckpnmghbjimiaaDoor.P Go.RowKit Go.Proofs.YtckpnmghbjimiaaDoorW.PrintWords

theorem rsplit_ev (s : ByteArray) : Ev (fun k => signetref18_Split.f k s) (splitA s) := by
  unfold signetref18_Split.f splitA
  have hlen := parseA_len s
  refine Ev.bind (parse_ev s) ?_
  generalize parseA s = p at *
  refine Ev.congr (fun k => ?_) (Ev.now _)
  by_cases h : p.2.2.2 = 0
  · rw [if_pos h, if_pos h]
    by_cases h0 : p.1 = []
    · rw [if_pos (by rw [h0]; rfl), if_pos h0]
    · have hn : 0 < p.1.length := List.length_pos_iff.2 h0
      have hw : wrap64 ((p.1.length : Int) - 1) = ((p.1.length - 1 : Nat) : Int) := by unfold wrap64; omega
      have ht : p.1.take ((p.1.length - 1 : Nat) : Int).toNat = p.1.dropLast := by rw [List.dropLast_eq_take]; rfl
      rw [if_neg (by omega), if_neg h0, hw, if_pos (by omega), if_pos (by omega), if_pos (by omega), ht]
      rfl
  · rw [if_neg h, if_neg h]

theorem splitA_len (s : ByteArray) : (splitA s).1.length ≤ 32 := by
  have := parseA_len s
  unfold splitA
  split
  · split
    · simp
    · simp; omega
  · simp

theorem j1_ev (s : ByteArray) : Ev (fun k => signetlaw18_PathParses.j1 k s false) true := by
  refine Ev.step (f := fun k => (path_Split.f s).bind fun bt202 => ((signetref18_Split.f k s).bind fun bt208 => ((signetlaw18_same.f k bt202.1 bt202.2.1 bt208.1 bt208.2.1).bind fun t214 => (if t214 = true then (if bt202.2.2.1.toList = bt208.2.2.1.toList then (some (bt202.2.2.2 == bt208.2.2.2)) else (some false)) else (some false))))) (fun k => by simp only [signetlaw18_PathParses.j1, Bool.false_eq_true, if_false]) ?_
  simp only [split_f, Option.bind_some]
  refine Ev.bind (rsplit_ev s) (Ev.bind (lsame_self _ _ (by have := splitA_len s; omega)) ?_)
  simp only [if_true, beq_self_eq_true]
  exact Ev.now _
theorem j2_ev (s : ByteArray) : Ev (fun k => signetlaw18_PathParses.j2 k s false) true := by
  refine Ev.step (f := fun k => (path_Split.f s).bind fun bt202 => ((signetref18_Split.f k s).bind fun bt208 => ((signetlaw18_same.f k bt202.1 bt202.2.1 bt208.1 bt208.2.1).bind fun t214 => (if t214 = true then (if bt202.2.2.1.toList = bt208.2.2.1.toList then (some (bt202.2.2.2 == bt208.2.2.2)) else (some false)) else (some false))))) (fun k => by simp only [signetlaw18_PathParses.j2, Bool.false_eq_true, if_false]) ?_
  simp only [split_f, Option.bind_some]
  refine Ev.bind (rsplit_ev s) (Ev.bind (lsame_self _ _ (by have := splitA_len s; omega)) ?_)
  simp only [if_true, beq_self_eq_true]
  exact Ev.now _

theorem PathParses (s : ByteArray) (_hs : s.size ≤ 140737488351232) : ∃ k, signetlaw18_PathParses.f k s = some true := by
  refine Ev.rounds ?_
  unfold signetlaw18_PathParses.f path_Parse.f
  simp only [awake_true, Option.bind_some, if_true]
  have hlen := parseA_len s
  refine Ev.bind (parse_ev s) (Ev.bind (lsame_self _ _ (by omega)) ?_)
  simp only [if_true, bne_self_eq_false]
  refine Ev.step (f := fun k => (path_Clean.f k s).bind fun bt199 => (if (parseA s).2.2.2 = 0 then ((signetref18_Form.f k (parseA s).1).bind fun t201 => (if bt199.1.toList = t201.toList then (signetlaw18_PathParses.j1 k s (bt199.2 != 0)) else (signetlaw18_PathParses.j1 k s true))) else (if bt199.1.toList = ([] : List UInt8) then (signetlaw18_PathParses.j2 k s (bt199.2 != (parseA s).2.2.2)) else (signetlaw18_PathParses.j2 k s true)))) (fun k => by simp only [signetlaw18_PathParses.j0, Bool.false_eq_true, if_false]) ?_
  refine Ev.bind (clean_ev s) ?_
  unfold cleanA
  by_cases h : (parseA s).2.2.2 = 0
  · simp only [if_pos h]
    have h2 := parseA_lens s h
    refine Ev.bind (form_ev _ (by omega) (by omega)) ?_
    simp only [if_true, bne_self_eq_false]
    exact j1_ev s
  · simp only [if_neg h, bne_self_eq_false]
    refine Ev.congr (fun k => ?_) (j2_ev s)
    rw [if_pos (by rw [Lib.toList_data])]

end Go.Proofs.YtckpnmghbjimiaaDoor.Pure
