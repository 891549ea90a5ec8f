/- The pure law of PathWithin: Within and Same are the document's. -/
import Derived.Test.YtckpnmghbjimiaaDoorQRound
import Derived.Test.YtckpnmghbjimiaaDoorPxSignetlaw18PathWithin
namespace Go.Proofs.YtckpnmghbjimiaaDoor.Pure
open Go.Proofs.YtckpnmghbjimiaaDoor Go.Proofs.YtckpnmghbjimiaaDoor.P Go.RowKit Go.Proofs.YtckpnmghbjimiaaDoorW.PrintWords

theorem take_snoc (l : List ByteArray) (i : Nat) (h : i < l.length) : l.take (i + 1) = l.take i ++ [l.getD i ByteArray.empty] := by
  rw [List.take_succ_eq_append_getElem h, List.getD_eq_getElem?_getD, List.getElem?_eq_getElem h]
  rfl

theorem sameA_symm (s t : ByteArray) : sameA t s = sameA s t := by
  unfold sameA
  rw [Bool.eq_iff_iff]
  simp only [Bool.and_eq_true, decide_eq_true_eq]
  constructor
  · rintro ⟨⟨h1, h2⟩, h3⟩; exact ⟨⟨h2, h1⟩, h3.symm⟩
  · rintro ⟨⟨h1, h2⟩, h3⟩; exact ⟨⟨h2, h1⟩, h3.symm⟩

theorem within_end (a b : List ByteArray) (ad bd : Bool) (s t : ByteArray) (ha : a.length ≤ 8796093021952) :
    Ev (fun k => signetlaw18_PathWithin.l0 k (decide (b.length ≤ a.length) && decide (a.take b.length = b)) (b.length : Int) (b.length : Int) a ad b bd s t) true := by
  have h1 := parseA_len s
  refine Ev.step (f := fun k => ((signetref18_Parse.f k s).bind fun bt160 => ((signetref18_Parse.f k t).bind fun bt167 => ((path_Within.f k a ad b bd).bind fun t174 => (if (t174 == (decide (b.length ≤ a.length) && decide (a.take b.length = b))) = true then ((path_Same.f k s t).bind fun t175 => (if bt160.2.2.2 = 0 then (if bt167.2.2.2 = 0 then ((signetref18_Same.f k bt160.1 bt167.1).bind fun t176 => (if (t175 == t176) = true then ((path_Same.f k t s).bind fun t177 => ((path_Same.f k s t).bind fun t178 => (some (t177 == t178)))) else (some false))) else (if (t175 == false) = true then ((path_Same.f k t s).bind fun t179 => ((path_Same.f k s t).bind fun t180 => (some (t179 == t180)))) else (some false))) else (if (t175 == false) = true then ((path_Same.f k t s).bind fun t181 => ((path_Same.f k s t).bind fun t182 => (some (t181 == t182)))) else (some false)))) else (some false)))))) (fun k => ?_) ?_
  · simp only [signetlaw18_PathWithin.l0]
    rw [if_neg (by omega)]
  · refine Ev.bind (parse_ev s) (Ev.bind (parse_ev t) (Ev.bind (within_ev a b ad bd (by omega)) ?_))
    simp only [beq_self_eq_true, if_true]
    refine Ev.bind (psame_ev s t) ?_
    have hend : Ev (fun k => (path_Same.f k t s).bind fun t181 => ((path_Same.f k s t).bind fun t182 => (some (t181 == t182)))) true := by
      refine Ev.bind (psame_ev t s) (Ev.bind (psame_ev s t) ?_)
      rw [sameA_symm]
      simp only [beq_self_eq_true]
      exact Ev.now _
    by_cases hs : (parseA s).2.2.2 = 0
    · by_cases ht : (parseA t).2.2.2 = 0
      · simp only [hs, ht, if_true]
        refine Ev.bind (same_ev _ _ (by omega)) ?_
        have e : sameA s t = decide ((parseA s).1 = (parseA t).1) := by unfold sameA; simp [hs, ht]
        rw [e]
        simp only [beq_self_eq_true, if_true]
        exact hend
      · simp only [hs, ht, if_true, if_false]
        have e : sameA s t = false := by unfold sameA; simp [ht]
        rw [e]
        simp only [beq_self_eq_true, if_true]
        exact hend
    · simp only [hs, if_false]
      have e : sameA s t = false := by unfold sameA; simp [hs]
      rw [e]
      simp only [beq_self_eq_true, if_true]
      exact hend

theorem within_loop (a b : List ByteArray) (ad bd : Bool) (s t : ByteArray) (ha : a.length ≤ 8796093021952) (hb : b.length ≤ 8796093021952) (d : Nat) : ∀ i : Nat, i + d = b.length →
    Ev (fun k => signetlaw18_PathWithin.l0 k (decide (b.length ≤ a.length) && decide (a.take i = b.take i)) (b.length : Int) (i : Int) a ad b bd s t) true := by
  induction d with
  | zero =>
    intro i hi
    obtain rfl : i = b.length := by omega
    have := within_end a b ad bd s t ha
    rw [List.take_length]
    exact this
  | succ d ih =>
    intro i hi
    have hib : i < b.length := by omega
    by_cases hw : (decide (b.length ≤ a.length) && decide (a.take i = b.take i)) = true
    · rw [hw]
      simp only [Bool.and_eq_true, decide_eq_true_eq] at hw
      have hia : i < a.length := by omega
      have e : ((a.getD i ByteArray.empty).toList == (b.getD i ByteArray.empty).toList) = (decide (b.length ≤ a.length) && decide (a.take (i + 1) = b.take (i + 1))) := by
        rw [Bool.eq_iff_iff, take_snoc a i hia, take_snoc b i hib]
        simp only [beq_iff_eq, Bool.and_eq_true, decide_eq_true_eq]
        constructor
        · intro h
          exact ⟨hw.1, by rw [hw.2, toList_inj h]⟩
        · rintro ⟨_, h⟩
          have := (List.append_inj' h rfl).2
          rw [(List.cons.inj this).1]
      refine Ev.step (fun k => ?_) (ih (i + 1) (by omega))
      simp only [signetlaw18_PathWithin.l0]
      rw [if_pos (by omega), if_pos trivial, if_pos (by omega), if_pos (by omega), if_pos (by omega), rdOf_nat, rdOf_nat, e, wrap_succ (by omega) (by omega)]
      rfl
    · have hf : (decide (b.length ≤ a.length) && decide (a.take i = b.take i)) = false := by simpa using hw
      have e : (decide (b.length ≤ a.length) && decide (a.take (i + 1) = b.take (i + 1))) = false := by
        by_cases hl : b.length ≤ a.length
        · have hia : i < a.length := by omega
          simp only [hl, decide_true, Bool.true_and, decide_eq_false_iff_not] at hf ⊢
          rw [take_snoc a i hia, take_snoc b i hib]
          exact fun h => hf (List.append_inj' h rfl).1
        · simp [hl]
      have H := ih (i + 1) (by omega)
      rw [e] at H
      rw [hf]
      refine Ev.step (fun k => ?_) H
      simp only [signetlaw18_PathWithin.l0]
      rw [if_pos (by omega), if_neg (by simp), wrap_succ (by omega) (by omega)]
      rfl

theorem PathWithin (a : List ByteArray) (ad : Bool) (b : List ByteArray) (bd : Bool) (s t : ByteArray) (ha : a.length ≤ 8796093021952) (hb : b.length ≤ 8796093021952) (_hs : s.size ≤ 140737488351232) (_ht : t.size ≤ 140737488351232) : ∃ k, signetlaw18_PathWithin.f k a ad b bd s t = some true := by
  refine Ev.rounds ?_
  unfold signetlaw18_PathWithin.f
  simp only [awake_true, Option.bind_some, if_true]
  have H := within_loop a b ad bd s t ha hb b.length 0 (Nat.zero_add _)
  have e : (decide (b.length ≤ a.length) && decide (a.take 0 = b.take 0)) = decide ((a.length : Int) ≥ (b.length : Int)) := by
    rw [Bool.eq_iff_iff]
    simp
  rw [e] at H
  exact H

end Go.Proofs.YtckpnmghbjimiaaDoor.Pure
