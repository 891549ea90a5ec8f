/- path.Match (pure): name by name. -/
import Derived.Test.YtckpnmghbjimiaaDoorQFields
import Derived.Test.YtckpnmghbjimiaaDoorQNameMatch
import Derived.Test.YtckpnmghbjimiaaDoorQFacts
import Derived.Test.YtckpnmghbjimiaaDoorQPrefix
import Derived.Test.YtckpnmghbjimiaaDoorPxPathMatch
namespace Go.Proofs.YtckpnmghbjimiaaDoor.Pure
open Go.Proofs.YtckpnmghbjimiaaDoor Go.Proofs.YtckpnmghbjimiaaDoor.P Go.RowKit Go.Proofs.YtckpnmghbjimiaaDoorW.PrintWords

open Classical in
/-- Is each text what its pattern says? -/
noncomputable def allM : List ByteArray → List ByteArray → Bool
  | p :: ps, x :: xs => decide (Mat p.data.toList x.data.toList) && allM ps xs
  | _, _ => true

open Classical in
theorem nameMatch_ev (P S : ByteArray) (hP : P.size ≤ 4611686018427387904) (hS : S.size ≤ 4611686018427387904) : Ev (fun k => name_Match.f k P S) (decide (Mat P.data.toList S.data.toList)) := by
  unfold name_Match.f
  exact loopN P S hP hS _ (by simp) 0 0 (Nat.zero_le _) (Nat.zero_le _) Iff.rfl

open Classical in
theorem pm_loop (l y : List ByteArray) (yd : Bool) (hl : l.length = y.length) (h1 : l.length ≤ 1000000) (hls : ∀ x ∈ l, x.size ≤ 100000) (hys : ∀ x ∈ y, x.size ≤ 100000) (d : Nat) : ∀ i : Nat, i + d = l.length →
    Ev (fun k => path_Match.l0 k l (l.length : Int) (i : Int) y yd) (allM (l.drop i) (y.drop i)) := by
  induction d with
  | zero =>
    intro i hi
    refine Ev.step (f := fun _ => some _) (fun k => ?_) (Ev.now _)
    simp only [path_Match.l0]
    rw [if_neg (by omega), List.drop_of_length_le (by omega : l.length ≤ i)]
    rfl
  | succ d ih =>
    intro i hi
    have h2 : i < l.length := by omega
    have h3 : i < y.length := by omega
    rw [drop_cons l i h2, drop_cons y i h3, allM]
    have hm := nameMatch_ev (l.getD i ByteArray.empty) (y.getD i ByteArray.empty) (by have := hls (l.getD i ByteArray.empty) (by rw [List.getD_eq_getElem?_getD, List.getElem?_eq_getElem h2]; exact List.getElem_mem _); omega) (by have := hys (y.getD i ByteArray.empty) (by rw [List.getD_eq_getElem?_getD, List.getElem?_eq_getElem h3]; exact List.getElem_mem _); omega)
    refine Ev.step (f := fun k => (name_Match.f k (l.getD i ByteArray.empty) (y.getD i ByteArray.empty)).bind fun t126 => (if t126 = true then (path_Match.l0 k l (l.length : Int) ((i + 1 : Nat) : Int) y yd) else (some false))) (fun k => ?_) (Ev.bind hm ?_)
    · simp only [path_Match.l0]
      rw [if_pos (by omega), if_pos (by omega), if_pos (by omega), if_pos (by omega), rdOf_nat, rdOf_nat, wrap_succ (by omega) (by omega)]
      rfl
    · by_cases hM : Mat (l.getD i ByteArray.empty).data.toList (y.getD i ByteArray.empty).data.toList
      · simp only [hM, decide_true, if_true, Bool.true_and]
        exact ih (i + 1) (by omega)
      · simp only [hM, decide_false, Bool.false_eq_true, if_false, Bool.false_and]
        exact Ev.now _

/-- A path of patterns held against a text. -/
noncomputable def matchA (P s : ByteArray) : Bool :=
  decide ((parseA s).2.2.2 = 0) && (decide (P.data.toList.head? = some 47) && (decide (((fieldsL P.data.toList).map ofL).length = (parseA s).1.length) && allM ((fieldsL P.data.toList).map ofL) (parseA s).1))

theorem splitSlash_mem : ∀ (l p : List UInt8), p ∈ splitSlash l → p.length ≤ l.length
  | [], p, h => by simp [splitSlash] at h; simp [h]
  | c :: l, p, h => by
    have ih := splitSlash_mem l
    rw [splitSlash] at h
    split at h
    · rcases List.mem_cons.1 h with rfl | h
      · simp
      · have := ih p h; simp; omega
    · cases hs : splitSlash l with
      | nil => exact absurd hs (splitSlash_ne l)
      | cons q qs =>
        rw [hs] at h
        simp only at h
        rcases List.mem_cons.1 h with rfl | h
        · have := ih q (by rw [hs]; exact List.mem_cons_self)
          simp; exact this
        · have := ih p (by rw [hs]; exact List.mem_cons_of_mem _ h)
          simp; omega

theorem fields_size (P : ByteArray) : ∀ x ∈ (fieldsL P.data.toList).map ofL, x.size ≤ P.size := by
  intro x hx
  obtain ⟨p, hp, rfl⟩ := List.mem_map.1 hx
  rw [size_ofL, Lib.size_eq]
  exact splitSlash_mem _ _ (List.mem_filter.1 hp).1

theorem splitSlash_length : ∀ l : List UInt8, (splitSlash l).length ≤ l.length + 1
  | [] => by simp [splitSlash]
  | c :: l => by
    have ih := splitSlash_length l
    rw [splitSlash]
    split
    · simp; exact ih
    · cases hs : splitSlash l with
      | nil => simp
      | cons q qs => rw [hs] at ih; simp at ih ⊢; omega

theorem pmatch_ev (P s : ByteArray) (hP : P.size ≤ 3000) : Ev (fun k => path_Match.f k P s) (matchA P s) := by
  have hlen := parseA_len s
  have hnames := parseA_names s
  have hfl : ((fieldsL P.data.toList).map ofL).length ≤ 1000000 := by
    rw [List.length_map]
    have h1 := List.length_filter_le (fun x => decide (x ≠ [])) (splitSlash P.data.toList)
    have h2 := splitSlash_length P.data.toList
    rw [← Lib.size_eq] at h2
    unfold fieldsL
    simp only [ne_eq] at h1 ⊢
    omega
  have hff : strings_FieldsFunc.f P 48 = some ((fieldsL P.data.toList).map ofL) := by
    unfold strings_FieldsFunc.f
    rw [if_pos ⟨rfl, by omega⟩, goFields_slash]
  have hbad : Ev (fun k => path_Match.j0 k P true (parseA s).1 (parseA s).2.1) false :=
    Ev.step (f := fun _ => some false) (fun k => by simp [path_Match.j0]) (Ev.now _)
  unfold path_Match.f path_Parse.f matchA
  simp only [Option.bind_some, prefix_f]
  by_cases h0 : (parseA s).2.2.2 = 0
  · simp only [if_pos h0]
    simp only [h0, decide_true, Bool.true_and]
    by_cases h47 : P.data.toList.head? = some 47
    · simp only [h47, decide_true, Bool.not_true, Bool.true_and]
      refine Ev.step (f := fun k => if (((fieldsL P.data.toList).map ofL).length : Int) = ((parseA s).1.length : Int) then (path_Match.l0 k ((fieldsL P.data.toList).map ofL) (((fieldsL P.data.toList).map ofL).length : Int) 0 (parseA s).1 (parseA s).2.1) else (some false)) (fun k => ?_) ?_
      · simp only [path_Match.j0, Bool.false_eq_true, if_false, hff, Option.bind_some]
      · by_cases hl : ((fieldsL P.data.toList).map ofL).length = (parseA s).1.length
        · simp only [hl, decide_true, Bool.true_and, if_true]
          have := pm_loop ((fieldsL P.data.toList).map ofL) (parseA s).1 (parseA s).2.1 hl hfl (fun x hx => by have := fields_size P x hx; omega) (fun x hx => by have := checkE_size (hnames x hx); omega) _ 0 (Nat.zero_add _)
          rw [hl] at this
          exact this
        · have hl' : ¬ ((((fieldsL P.data.toList).map ofL).length : Int) = ((parseA s).1.length : Int)) := by omega
          simp only [hl, hl', decide_false, Bool.false_and, if_false]
          exact Ev.now _
    · simp only [h47, decide_false, Bool.not_false, Bool.false_and]
      exact hbad
  · simp only [if_neg h0]
    simp only [h0, decide_false, Bool.false_and]
    exact hbad

theorem fields_cons47 (v : List UInt8) : fieldsL (47 :: v) = fieldsL v := by
  have := fieldsL_slash (w := []) (v := v) (by simp)
  simpa using this

end Go.Proofs.YtckpnmghbjimiaaDoor.Pure
