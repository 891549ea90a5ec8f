/- strings.FieldsFunc at the slash: the parts that are not empty (pure). -/
import Derived.Test.YtckpnmghbjimiaaDoorQParse
import Derived.Test.YtckpnmghbjimiaaDoorG4
namespace Go.Proofs.YtckpnmghbjimiaaDoor.Pure
open Go.Proofs.YtckpnmghbjimiaaDoor Go.Proofs.YtckpnmghbjimiaaDoor.P Go.RowKit Go.Proofs.YtckpnmghbjimiaaDoorW.PrintWords

def fieldsL (l : List UInt8) : List (List UInt8) := (splitSlash l).filter (· ≠ [])
theorem fieldsL_word {w : List UInt8} (h : ∀ c ∈ w, c ≠ 47) : fieldsL w = if w = [] then [] else [w] := by
  unfold fieldsL
  rw [split_word w h]
  by_cases h0 : w = [] <;> simp [h0]
theorem fieldsL_slash {w v : List UInt8} (h : ∀ c ∈ w, c ≠ 47) : fieldsL (w ++ 47 :: v) = (if w = [] then [] else [w]) ++ fieldsL v := by
  unfold fieldsL
  rw [split_word_slash w v h]
  by_cases h0 : w = [] <;> simp [h0]

def piece (s : ByteArray) (x : Nat × Nat) : ByteArray := s.extract x.1 x.2

theorem spans_none (s : ByteArray) (f pos : Nat) (acc : List (Nat × Nat)) (h : pos < s.size) : Lib.spansFromP isSlash s (f + 1) pos none acc = if isSlash (Utf8.decode s pos).1 = true then Lib.spansFromP isSlash s f (pos + (Utf8.decode s pos).2) none acc else Lib.spansFromP isSlash s f (pos + (Utf8.decode s pos).2) (some pos) acc := by
  show (if pos < s.size then _ else _) = _
  rw [if_pos h]
theorem spans_some (s : ByteArray) (f pos a : Nat) (acc : List (Nat × Nat)) (h : pos < s.size) : Lib.spansFromP isSlash s (f + 1) pos (some a) acc = if isSlash (Utf8.decode s pos).1 = true then Lib.spansFromP isSlash s f (pos + (Utf8.decode s pos).2) none (acc ++ [(a, pos)]) else Lib.spansFromP isSlash s f (pos + (Utf8.decode s pos).2) (some a) acc := by
  show (if pos < s.size then _ else _) = _
  rw [if_pos h]

theorem no_slash (s : ByteArray) (a b : Nat) (h : ∀ j, a ≤ j → j < b → s.data.toList[j]? ≠ some 47) : ∀ c ∈ (s.data.toList.drop a).take (b - a), c ≠ 47 := by
  intro c hc e
  subst e
  obtain ⟨j, hj, hj2⟩ := List.mem_take_iff_getElem.1 hc
  rw [List.getElem_drop] at hj2
  exact h (a + j) (by omega) (by omega) (by rw [List.getElem?_eq_getElem (by rw [List.length_drop] at hj; omega), hj2])

theorem spans_slash (s : ByteArray) : ∀ (f pos a : Nat) (st : Option Nat) (acc : List (Nat × Nat)), ((st = none ∧ a = pos) ∨ (st = some a ∧ a < pos)) → (∀ j, a ≤ j → j < pos → s.data.toList[j]? ≠ some 47) → pos ≤ s.size → s.size - pos ≤ f →
    (Lib.closeSpans s (Lib.spansFromP isSlash s f pos st acc)).map (piece s) = acc.map (piece s) ++ (fieldsL (s.data.toList.drop a)).map ofL := by
  have hz := Lib.size_eq s
  -- the end
  have hend : ∀ (a : Nat) (st : Option Nat) (acc : List (Nat × Nat)), ((st = none ∧ a = s.size) ∨ (st = some a ∧ a < s.size)) → (∀ j, a ≤ j → j < s.size → s.data.toList[j]? ≠ some 47) →
      (Lib.closeSpans s (acc, st)).map (piece s) = acc.map (piece s) ++ (fieldsL (s.data.toList.drop a)).map ofL := by
    intro a st acc hst hno
    rcases hst with ⟨rfl, rfl⟩ | ⟨rfl, hlt⟩
    · rw [List.drop_of_length_le (by omega)]
      simp [Lib.closeSpans, fieldsL, splitSlash]
    · have hw := no_slash s a s.size hno
      rw [List.take_of_length_le (by rw [List.length_drop]; omega)] at hw
      have h0 : s.data.toList.drop a ≠ [] := fun e => by have := congrArg List.length e; rw [List.length_drop] at this; simp at this; omega
      rw [fieldsL_word hw, if_neg h0]
      simp only [Lib.closeSpans, List.map_append, List.map_cons, List.map_nil]
      congr 2
      refine ba_ext ?_
      rw [piece, Lib.extract_to_end, data_ofL]
  intro f
  induction f with
  | zero =>
    intro pos a st acc hst hno hps hf
    obtain rfl : pos = s.size := by omega
    exact hend a st acc hst hno
  | succ f ih =>
    intro pos a st acc hst hno hps hf
    by_cases hlt : pos < s.size
    · obtain ⟨x, hx⟩ := get_some s pos hlt
      have hxg : s[pos]'hlt = x := by
        have h2 : s.data[pos]? = some x := by rw [← Array.getElem?_toList]; exact hx
        exact (Array.getElem?_eq_some_iff.1 h2).2
      have hap : a ≤ pos := by rcases hst with h | h <;> omega
      by_cases h47 : x = 47
      · subst h47
        have hd : Utf8.decode s pos = (47, 1) := by rw [decode_ascii s pos hlt (by rw [hxg]; decide), hxg]; rfl
        have hw := no_slash s a pos hno
        have hsplit : s.data.toList.drop a = (s.data.toList.drop a).take (pos - a) ++ 47 :: s.data.toList.drop (pos + 1) := by
          conv => lhs; rw [← List.take_append_drop (pos - a) (s.data.toList.drop a)]
          rw [List.drop_drop, show a + (pos - a) = pos from by omega, Lib.drop_at hx]
        have hnext := fun acc' => ih (pos + 1) (pos + 1) none acc' (.inl ⟨rfl, rfl⟩) (fun j h1 h2 => by omega) (by omega) (by omega)
        rw [hsplit, fieldsL_slash hw]
        rcases hst with ⟨rfl, rfl⟩ | ⟨rfl, hlt2⟩
        · rw [spans_none s f _ acc hlt, hd, if_pos (show isSlash ((47, 1) : Nat × Nat).1 = true from rfl)]
          show List.map (piece s) (Lib.closeSpans s (Lib.spansFromP isSlash s f (a + 1) none acc)) = _
          rw [hnext]
          simp
        · have h0 : (s.data.toList.drop a).take (pos - a) ≠ [] := fun e => by have := congrArg List.length e; rw [List.length_take, List.length_drop] at this; simp at this; omega
          rw [spans_some s f pos a acc hlt, hd, if_pos (show isSlash ((47, 1) : Nat × Nat).1 = true from rfl)]
          show List.map (piece s) (Lib.closeSpans s (Lib.spansFromP isSlash s f (pos + 1) none (acc ++ [(a, pos)]))) = _
          rw [hnext, if_neg h0]
          have hpc : piece s (a, pos) = ofL ((s.data.toList.drop a).take (pos - a)) := by
            refine ba_ext ?_
            rw [piece, Lib.extract_data, data_ofL]
          simp [hpc]
      · have hdec : (Utf8.decode s pos).1 ≠ 47 ∧ (∀ j, pos ≤ j → j < pos + (Utf8.decode s pos).2 → s.data.toList[j]? ≠ some 47) := by
          by_cases hasc : x.toNat < 128
          · have hd : Utf8.decode s pos = (x.toNat, 1) := by rw [decode_ascii s pos hlt (by rw [hxg]; exact hasc), hxg]
            rw [hd]
            refine ⟨fun e => h47 (UInt8.toNat_inj.1 (by rw [show x.toNat = 47 from e]; rfl)), fun j h1 h2 => ?_⟩
            obtain rfl : j = pos := by simp only at h2; omega
            rw [hx]
            exact fun e => h47 (Option.some.inj e)
          · have hh := dec_at_high s pos (by rw [get_at s pos x hx]; omega)
            refine ⟨by omega, fun j h1 h2 e => ?_⟩
            have := hh.2 j 47 h1 h2 e
            exact absurd this (by decide)
        have hwd := Lib.width_pos s pos
        have hwn : pos + (Utf8.decode s pos).2 ≤ s.size := by
          have := Lib.decodeN_le_n' (s.size - pos) (s.get! pos).toNat (s.get! (pos + 1)).toNat (s.get! (pos + 2)).toNat (s.get! (pos + 3)).toNat (by omega)
          rw [← Lib.decode_at] at this
          omega
        have hns : isSlash (Utf8.decode s pos).1 = false := decide_eq_false hdec.1
        have hno2 : ∀ j, a ≤ j → j < pos + (Utf8.decode s pos).2 → s.data.toList[j]? ≠ some 47 := by
          intro j h1 h2
          by_cases hj : j < pos
          · exact hno j h1 hj
          · exact hdec.2 j (by omega) h2
        have hnext := ih (pos + (Utf8.decode s pos).2) a (some a) acc (.inr ⟨rfl, by omega⟩) hno2 hwn (by omega)
        rw [← hnext]
        rcases hst with ⟨rfl, rfl⟩ | ⟨rfl, hlt2⟩
        · rw [spans_none s f _ acc hlt, hns, if_neg (by simp)]
        · rw [spans_some s f pos a acc hlt, hns, if_neg (by simp)]
    · obtain rfl : pos = s.size := by omega
      rw [Lib.spansFromP_end _ _ _ _ _ _ hlt]
      exact hend a st acc hst hno

theorem goFields_slash (s : ByteArray) : Lib.goFieldsP isSlash s = (fieldsL s.data.toList).map ofL := by
  have := spans_slash s s.size 0 0 none [] (.inl ⟨rfl, rfl⟩) (fun j h1 h2 => by omega) (Nat.zero_le _) (by omega)
  simp only [List.map_nil, List.nil_append, List.drop_zero] at this
  exact this

end Go.Proofs.YtckpnmghbjimiaaDoor.Pure
