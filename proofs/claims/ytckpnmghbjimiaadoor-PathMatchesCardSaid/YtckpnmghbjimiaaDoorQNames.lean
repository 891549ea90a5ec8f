/- Names and their one form (pure). -/
import Derived.Test.YtckpnmghbjimiaaDoorQParse
import Derived.Test.YtckpnmghbjimiaaDoorPxNameCheck
import Derived.Test.YtckpnmghbjimiaaDoorPxSignetref18Form
import Derived.Test.YtckpnmghbjimiaaDoorG3
namespace Go.Proofs.YtckpnmghbjimiaaDoor.Pure
open Go.Proofs.YtckpnmghbjimiaaDoor Go.Proofs.YtckpnmghbjimiaaDoor.P Go.RowKit Go.Proofs.YtckpnmghbjimiaaDoorW.PrintWords

theorem check_ev (x : ByteArray) : name_Check.f x = some (checkE x) := by
  unfold name_Check.f checkE strings_ContainsAny.f
  by_cases h1 : x.toList = []
  · rw [if_pos h1, if_pos h1]
  · rw [if_neg h1, if_neg h1]
    by_cases h2 : 56 < x.size
    · rw [if_pos (by omega), if_pos h2]
    · rw [if_neg (by omega), if_neg h2, if_pos ⟨rfl, by omega⟩]
      simp only [Option.bind_some]
      repeat' split
      all_goals first | rfl | (exfalso; simp_all)

theorem checkE_cases (x : ByteArray) : checkE x = 0 ∨ checkE x = 130 := by
  unfold checkE
  repeat' split
  all_goals first | exact .inr rfl | exact .inl rfl
theorem checkE_size {x : ByteArray} (h : checkE x = 0) : x.size ≤ 56 := by
  refine Classical.byContradiction fun hn => ?_
  unfold checkE at h
  by_cases h1 : x.toList = []
  · rw [if_pos h1] at h; cases h
  · rw [if_neg h1, if_pos (by omega)] at h; cases h

theorem app_data (a b : ByteArray) : (a ++ b).data.toList = a.data.toList ++ b.data.toList := by
  rw [ByteArray.data_append, Array.toList_append]

/-- The names, each behind a slash. -/
def fl (l : List ByteArray) : List UInt8 := l.flatMap fun x => 47 :: x.data.toList
def formL (l : List ByteArray) : ByteArray := ofL (47 :: Lib.join (l.map (·.data.toList)) [47])
theorem fl_join : ∀ l : List ByteArray, l ≠ [] → fl l = 47 :: Lib.join (l.map (·.data.toList)) [47]
  | [], h => absurd rfl h
  | [x], _ => by simp [fl, Lib.join]
  | x :: y :: l, _ => by
    have ih := fl_join (y :: l) (by simp)
    rw [show fl (x :: y :: l) = (47 :: x.data.toList) ++ fl (y :: l) from rfl, ih]
    simp [Lib.join]
theorem fl_len : ∀ l : List ByteArray, (fl l).length = lensP l
  | [] => rfl
  | x :: l => by
    have ih := fl_len l
    rw [show fl (x :: l) = (47 :: x.data.toList) ++ fl l from rfl, List.length_append, ih, List.length_cons, ← Lib.size_eq]
    simp [lensP]

theorem form_loop (l : List ByteArray) (hl : l.length ≤ 9223372036854775806) (d : Nat) : ∀ (i : Nat) (acc : ByteArray), i + d = l.length → acc.size + lensP (l.drop i) ≤ 9223372036854775807 →
    Ev (fun k => signetref18_Form.l0 k acc l (l.length : Int) (i : Int)) (acc ++ ofL (fl (l.drop i))) := by
  induction d with
  | zero =>
    intro i acc hi _
    refine Ev.step (f := fun _ => some _) (fun k => ?_) (Ev.now _)
    simp only [signetref18_Form.l0]
    rw [if_neg (by omega), List.drop_of_length_le (by omega : l.length ≤ i)]
    congr 1
    refine ba_ext ?_
    rw [app_data, data_ofL]
    simp [fl]
  | succ d ih =>
    intro i acc hi hb
    have hlt : i < l.length := by omega
    rw [drop_cons l i hlt] at hb ⊢
    have hsz : lensP (l.getD i ByteArray.empty :: l.drop (i + 1)) = (l.getD i ByteArray.empty).size + 1 + lensP (l.drop (i + 1)) := by simp [lensP]
    rw [hsz] at hb
    have hs1 : ((⟨#[47]⟩ : ByteArray) ++ l.getD i ByteArray.empty).size = 1 + (l.getD i ByteArray.empty).size := by rw [ByteArray.size_append]; rfl
    have e : acc ++ ofL (fl (l.getD i ByteArray.empty :: l.drop (i + 1))) = (acc ++ ((⟨#[47]⟩ : ByteArray) ++ l.getD i ByteArray.empty)) ++ ofL (fl (l.drop (i + 1))) := by
      refine ba_ext ?_
      simp only [app_data, data_ofL]
      simp [fl]
    rw [e]
    refine Ev.step (fun k => ?_) (ih (i + 1) _ (by omega) (by rw [ByteArray.size_append, hs1]; omega))
    simp only [signetref18_Form.l0]
    rw [if_pos (by omega), if_pos (by omega), if_pos (by omega), rdOf_nat, if_pos (by omega), if_pos (by rw [hs1]; omega), wrap_succ (by omega) (by omega)]
    rfl

theorem form_ev (l : List ByteArray) (hl : l.length ≤ 9223372036854775806) (hb : lensP l ≤ 9223372036854775807) : Ev (fun k => signetref18_Form.f k l) (formL l) := by
  unfold signetref18_Form.f
  by_cases h : l = []
  · subst h
    exact Ev.congr (fun k => by simp; rfl) (Ev.now (formL []))
  · have hn : 0 < l.length := List.length_pos_iff.2 h
    refine Ev.congr (f := fun k => signetref18_Form.l0 k (⟨#[]⟩ : ByteArray) l (l.length : Int) 0) (fun k => by rw [if_neg (by omega)]) ?_
    have := form_loop l hl l.length 0 (⟨#[]⟩ : ByteArray) (by omega) (by rw [List.drop_zero]; show 0 + lensP l ≤ _; omega)
    rw [List.drop_zero] at this
    have e : (⟨#[]⟩ : ByteArray) ++ ofL (fl l) = formL l := by
      refine ba_ext ?_
      rw [app_data, formL, ← fl_join l h]
      rfl
    rw [e] at this
    exact this

theorem formL_size (l : List ByteArray) (h : l ≠ []) : (formL l).size = lensP l := by
  rw [formL, ← fl_join l h, size_ofL, fl_len]

theorem lensP_small : ∀ (l : List ByteArray), (∀ x ∈ l, checkE x = 0) → lensP l ≤ 57 * l.length
  | [], _ => by simp [lensP]
  | x :: l, h => by
    have ih := lensP_small l (fun y hy => h y (List.mem_cons_of_mem _ hy))
    have := checkE_size (h x List.mem_cons_self)
    simp only [lensP, List.map_cons, List.sum_cons, List.length_cons] at ih ⊢
    omega

/-- What strings.Join answers, behind a slash. -/
theorem join_form (l : List ByteArray) (hl : l.length ≤ 32) (h : ∀ x ∈ l, checkE x = 0) : ∃ t, strings_Join.f l (⟨#[47]⟩ : ByteArray) = some t ∧ (⟨#[47]⟩ : ByteArray) ++ t = formL l ∧ t.size ≤ 2000 := by
  have hb := lensP_small l h
  have hj : (Lib.join (l.map (·.data.toList)) [47]).length ≤ 2000 := by
    by_cases h0 : l = []
    · subst h0; simp [Lib.join]
    · have := congrArg List.length (fl_join l h0)
      rw [fl_len, List.length_cons] at this
      omega
  refine ⟨_, by unfold strings_Join.f; rw [if_pos ⟨by omega, by show (Lib.join (l.map (·.data.toList)) [47]).length ≤ _; omega⟩], ?_, ?_⟩
  · refine ba_ext ?_
    rw [app_data]
    rfl
  · rw [Lib.size_eq]
    exact hj

end Go.Proofs.YtckpnmghbjimiaaDoor.Pure
