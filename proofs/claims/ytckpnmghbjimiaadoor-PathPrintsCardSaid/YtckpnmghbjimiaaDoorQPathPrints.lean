/- The pure law of PathPrints: Print is the document's. -/
import Derived.Test.YtckpnmghbjimiaaDoorQNames
import Derived.Test.YtckpnmghbjimiaaDoorPxSignetlaw18PathPrints
namespace Go.Proofs.YtckpnmghbjimiaaDoor.Pure
open Go.Proofs.YtckpnmghbjimiaaDoor Go.Proofs.YtckpnmghbjimiaaDoor.P Go.RowKit Go.Proofs.YtckpnmghbjimiaaDoorW.PrintWords

def badAt : List ByteArray → Int → Option Int
  | [], _ => none
  | x :: xs, i => if checkE x = 0 then badAt xs (i + 1) else some i
def printA (l : List ByteArray) : ByteArray × Int × Int :=
  match badAt l 0 with
  | some i => (⟨#[]⟩, i, 130)
  | none => if 32 < l.length then (⟨#[]⟩, 32, 182) else if 1024 < (formL l).size then (⟨#[]⟩, 0, 181) else (formL l, 0, 0)

theorem badAt_none : ∀ (l : List ByteArray) (i : Int), badAt l i = none → ∀ x ∈ l, checkE x = 0
  | [], _, _ => by simp
  | y :: l, i, h => by
    intro x hx
    rw [badAt] at h
    by_cases hc : checkE y = 0
    · rw [if_pos hc] at h
      rcases List.mem_cons.1 hx with rfl | hx
      · exact hc
      · exact badAt_none l _ h x hx
    · rw [if_neg hc] at h; cases h

theorem print_loop (l : List ByteArray) (hl : l.length ≤ 9223372036854775806) (d : Nat) : ∀ i : Nat, i + d = l.length → badAt l 0 = badAt (l.drop i) i →
    Ev (fun k => path_Print.l0 k l l (l.length : Int) (i : Int)) (printA l) := by
  induction d with
  | zero =>
    intro i hi hb
    rw [List.drop_of_length_le (by omega : l.length ≤ i)] at hb
    have hall := badAt_none l 0 hb
    refine Ev.step (f := fun _ => some _) (fun k => ?_) (Ev.now _)
    simp only [path_Print.l0]
    rw [if_neg (by omega)]
    unfold printA
    rw [hb]
    simp only [badAt]
    by_cases h : 32 < l.length
    · rw [if_pos (by omega), if_pos h]
    · rw [if_neg (by omega), if_neg h]
      obtain ⟨t, ht, hf, hsz⟩ := join_form l (by omega) hall
      rw [ht, Option.bind_some, if_pos (by omega), hf]
      by_cases h2 : 1024 < (formL l).size
      · rw [if_pos (by omega), if_pos h2]
      · rw [if_neg (by omega), if_neg h2]
  | succ d ih =>
    intro i hi hb
    have hlt : i < l.length := by omega
    rw [drop_cons l i hlt, badAt] at hb
    by_cases hc : checkE (l.getD i ByteArray.empty) = 0
    · rw [if_pos hc] at hb
      refine Ev.step (fun k => ?_) (ih (i + 1) (by omega) (by rw [hb]; rfl))
      simp only [path_Print.l0]
      rw [if_pos (by omega), if_pos (by omega), if_pos (by omega), rdOf_nat, check_ev, Option.bind_some, if_pos hc, wrap_succ (by omega) (by omega)]
      rfl
    · rw [if_neg hc] at hb
      refine Ev.step (f := fun _ => some _) (fun k => ?_) (Ev.now _)
      simp only [path_Print.l0]
      rw [if_pos (by omega), if_pos (by omega), if_pos (by omega), rdOf_nat, check_ev, Option.bind_some, if_neg hc]
      unfold printA
      rw [hb, (checkE_cases _).resolve_left hc]

theorem print_ev (l : List ByteArray) (hl : l.length ≤ 9223372036854775806) : Ev (fun k => path_Print.f k l) (printA l) := print_loop l hl l.length 0 (by omega) rfl

theorem rprint_loop (l : List ByteArray) (hl : l.length ≤ 9223372036854775806) (hs : ∀ s ∈ l, s.size ≤ 9223372036854775807) (d : Nat) : ∀ i : Nat, i + d = l.length → badAt l 0 = badAt (l.drop i) i →
    Ev (fun k => signetref18_Print.l0 k l l (l.length : Int) (i : Int)) (printA l) := by
  induction d with
  | zero =>
    intro i hi hb
    rw [List.drop_of_length_le (by omega : l.length ≤ i)] at hb
    have hall := badAt_none l 0 hb
    have hp : printA l = if 32 < l.length then (⟨#[]⟩, 32, 182) else if 1024 < (formL l).size then (⟨#[]⟩, 0, 181) else (formL l, 0, 0) := by
      unfold printA; rw [hb]; rfl
    rw [hp]
    by_cases h : 32 < l.length
    · rw [if_pos h]
      refine Ev.step (f := fun _ => some _) (fun k => ?_) (Ev.now _)
      simp only [signetref18_Print.l0]
      rw [if_neg (by omega), if_pos (by omega)]
    · rw [if_neg h]
      have hb := lensP_small l hall
      refine Ev.step (f := fun k => (signetref18_Form.f k l).bind fun t267 => (if (t267.size : Int) > 1024 then (some ((⟨#[]⟩ : ByteArray), 0, 181)) else (some (t267, 0, 0)))) (fun k => ?_) ?_
      · simp only [signetref18_Print.l0]
        rw [if_neg (by omega), if_neg (by omega)]
      · refine Ev.bind (form_ev l (by omega) (by omega)) (Ev.congr (fun k => ?_) (Ev.now _))
        by_cases h2 : 1024 < (formL l).size
        · rw [if_pos (by omega), if_pos h2]
        · rw [if_neg (by omega), if_neg h2]
  | succ d ih =>
    intro i hi hb
    have hlt : i < l.length := by omega
    have hn := isName_ev (l.getD i ByteArray.empty) (hs _ (by rw [List.getD_eq_getElem?_getD, List.getElem?_eq_getElem hlt]; exact List.getElem_mem _))
    rw [drop_cons l i hlt, badAt] at hb
    refine Ev.step (f := fun k => (signetref18_IsName.f k (l.getD i ByteArray.empty)).bind fun t266 => (if t266 = true then (signetref18_Print.l0 k l l (l.length : Int) ((i + 1 : Nat) : Int)) else (some ((⟨#[]⟩ : ByteArray), (i : Int), 130)))) (fun k => ?_) (Ev.bind hn ?_)
    · simp only [signetref18_Print.l0]
      rw [if_pos (by omega), if_pos (by omega), if_pos (by omega), rdOf_nat, wrap_succ (by omega) (by omega)]
      rfl
    · unfold nameB
      by_cases hc : checkE (l.getD i ByteArray.empty) = 0
      · rw [if_pos hc] at hb
        simp only [hc, decide_true, if_true]
        exact ih (i + 1) (by omega) (by rw [hb]; rfl)
      · rw [if_neg hc] at hb
        simp only [hc, decide_false, Bool.false_eq_true, if_false]
        unfold printA
        rw [hb]
        exact Ev.now _

theorem rprint_ev (l : List ByteArray) (hl : l.length ≤ 9223372036854775806) (hs : ∀ s ∈ l, s.size ≤ 9223372036854775807) : Ev (fun k => signetref18_Print.f k l) (printA l) := rprint_loop l hl hs l.length 0 (by omega) rfl

theorem PathPrints (l : List ByteArray) (hl : l.length ≤ 8796093021952) (hs : ∀ s ∈ l, s.size ≤ 9223372036854775807) : ∃ k, signetlaw18_PathPrints.f k l = some true := by
  refine Ev.rounds ?_
  unfold signetlaw18_PathPrints.f
  simp only [awake_true, Option.bind_some, if_true, List.nil_append, List.length_nil, Nat.zero_add]
  refine Ev.congr (f := fun k => (path_Print.f k l).bind fun bt275 => ((signetref18_Print.f k l).bind fun bt278 => (if bt275.1.toList = bt278.1.toList then (if bt275.2.1 = bt278.2.1 then (if bt275.2.2 = bt278.2.2 then ((signetref18_Same.f k l l).bind fun t281 => (some t281)) else (some false)) else (some false)) else (some false)))) (fun k => by rw [if_pos (by omega)]) ?_
  refine Ev.bind (print_ev l (by omega)) (Ev.bind (rprint_ev l (by omega) hs) ?_)
  simp only [if_true]
  have hsm := same_ev l l (by omega)
  refine Ev.bind hsm ?_
  simp only [decide_true]
  exact Ev.now _

end Go.Proofs.YtckpnmghbjimiaaDoor.Pure
