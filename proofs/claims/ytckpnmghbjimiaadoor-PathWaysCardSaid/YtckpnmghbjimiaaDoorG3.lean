/- Contracts of strings.Join, slices.Clone and strings.Trim in the printed form, over the shelf's. -/
import Derived.Test.YtckpnmghbjimiaaDoorShelf
import Derived.Test.YtckpnmghbjimiaaDoorWWords
import Derived.DataReads
namespace Go.Proofs.YtckpnmghbjimiaaDoor.P
open Go.RowKit Go.Proofs.YtckpnmghbjimiaaDoor Go.Proofs.YtckpnmghbjimiaaDoorW.PrintWords

theorem C_cells {w : World} {A : Option Addr} {l : List ByteArray} (h : Kd.C Kd.string w A l.length l) (h0 : 0 < l.length) :
    ∃ b o, A = some ⟨b, o, none⟩ ∧ b < w.heap.size ∧ ∀ (j : Nat) x, l[j]? = some x → w.cell? ⟨b, o + j, none⟩ = some (.string x) := by
  obtain ⟨h1, h2, h3⟩ := h
  obtain ⟨⟨b, o, s⟩, ha, hc⟩ := h3 h0
  have H : ∀ (j : Nat) x, l[j]? = some x → w.cell? (Addr.add ⟨b, o, s⟩ j) = some (.string x) := by
    intro j x hj
    obtain ⟨cs, hl, hk, hcs⟩ := hc j x hj
    obtain rfl : cs = [.string x] := hk
    have := hcs 0 (.string x) rfl
    simpa [show Kd.string.sz = 1 from rfl] using this
  have hz := H 0 l[0] (List.getElem?_eq_getElem h0)
  have hs : s = none := World.cell?_spot hz
  subst hs
  refine ⟨b, o, ha, ?_, fun j x hj => ?_⟩
  · refine Classical.byContradiction fun hn => ?_
    rw [World.cell?, Addr.add, if_pos rfl, Array.getElem?_eq_none (by simp only; omega)] at hz
    cases hz
  · have := H j x hj
    rw [Addr.add] at this
    split at this
    · next e => subst e; exact this
    · exact this

def strings_Join.f (a0 : List ByteArray) (a1 : ByteArray) : Option ByteArray :=
  if a0.length ≤ 140737488355328 ∧ (Lib.join (a0.map (·.data.toList)) a1.data.toList).length ≤ 140737488355328 then some ⟨(Lib.join (a0.map (·.data.toList)) a1.data.toList).toArray⟩ else none
theorem strings_Join.calls (A0 : Option Addr) (c0 : Nat) (l0 : List ByteArray) (a1 : ByteArray) (r : ByteArray) (w : World) (hr0 : Kd.C Kd.string w A0 l0.length l0) (hc0 : l0.length ≤ c0) (h : strings_Join.f l0 a1 = some r) :
    Calls Tryd.prog 42 #[.slice A0 l0.length c0, .string a1] w fun e w' => e = .returned (.string r) ∧ Below w.heap.size w w' := by
  unfold strings_Join.f at h
  by_cases hh : l0.length ≤ 140737488355328 ∧ (Lib.join (l0.map (·.data.toList)) a1.data.toList).length ≤ 140737488355328
  · rw [if_pos hh] at h
    obtain rfl := Option.some.inj h
    by_cases h0 : 0 < l0.length
    · obtain ⟨b, o, rfl, hb, hc⟩ := C_cells hr0 h0
      exact Tryd.strings_Join b o c0 l0 a1 w hc hb hh.1 hc0 hh.2
    · obtain rfl : l0 = [] := List.length_eq_zero_iff.1 (by omega)
      refine (Tryd.strings_Join_none A0 c0 a1 w).mono fun e w' hp => ?_
      obtain ⟨rfl, rfl⟩ := hp
      exact ⟨rfl, Below.refl _ _⟩
  · rw [if_neg hh] at h
    cases h

def slices_Clone_string_string.f (a0 : List ByteArray) : Option (List ByteArray) := if a0.length ≤ 8796093022208 then some a0 else none
theorem slices_Clone_string_string.calls (A0 : Option Addr) (c0 : Nat) (l0 : List ByteArray) (r : List ByteArray) (w : World) (hr0 : Kd.C Kd.string w A0 l0.length l0) (hc0 : l0.length ≤ c0) (h : slices_Clone_string_string.f l0 = some r) :
    Calls Tryd.prog 40 #[.slice A0 l0.length c0] w fun e w' => ∃ v0_ : Value, e = .returned v0_ ∧ Kd.R Kd.string 9 w' w.heap.size (fun _ => True) v0_ r ∧ Below w.heap.size w w' := by
  unfold slices_Clone_string_string.f at h
  by_cases hh : l0.length ≤ 8796093022208
  · rw [if_pos hh] at h
    obtain rfl := Option.some.inj h
    by_cases h0 : 0 < l0.length
    · obtain ⟨b, o, rfl, hb, hc⟩ := C_cells hr0 h0
      refine (Tryd.slices_Clone_string b o l0.length c0 l0 w (Nat.le_refl _) (by omega) fun j hj => hc j _ ?_).mono fun e w' hp => ?_
      · rw [List.getD_eq_getElem?_getD, List.getElem?_eq_getElem hj]
        rfl
      · obtain ⟨v', he, ho, _, hb'⟩ := hp
        refine ⟨v', he, ?_, hb'⟩
        rw [List.take_length] at ho
        exact Kd.R_of_own ho (fun _ _ => trivial)
    · obtain rfl : l0 = [] := List.length_eq_zero_iff.1 (by omega)
      match A0, hr0 with
      | none, _ =>
        refine (Tryd.slices_Clone_string_nil 0 c0 w).mono fun e w' hp => ?_
        obtain ⟨rfl, rfl⟩ := hp
        exact ⟨_, rfl, Kd.R_nil _ _ _ _ _, Below.refl _ _⟩
      | some a, _ =>
        refine (Tryd.slices_Clone_string_zero a c0 w).mono fun e w' hp => ?_
        obtain ⟨v', he, ho, _, hb'⟩ := hp
        exact ⟨v', he, Kd.R_of_own (xs := []) ho (fun _ _ => trivial), hb'⟩
  · rw [if_neg hh] at h
    cases h

def strings_Trim.f (a0 a1 : ByteArray) : Option ByteArray :=
  match a1.data.toList with
  | [c] => if c.toNat < 128 ∧ a0.size ≤ 9223372036854775807 then some ⟨(Lib.trimB a0.data.toList c).toArray⟩ else none
  | _ => none
theorem strings_Trim.calls (a0 a1 : ByteArray) (r : ByteArray) (w : World) (h : strings_Trim.f a0 a1 = some r) :
    Calls Tryd.prog 59 #[.string a0, .string a1] w fun e w' => e = .returned (.string r) ∧ Below w.heap.size w w' := by
  obtain ⟨⟨l⟩⟩ := a1
  unfold strings_Trim.f at h
  match l, h with
  | [], h => cases h
  | _ :: _ :: _, h => cases h
  | [c], h =>
    simp only at h
    by_cases hh : c.toNat < 128 ∧ a0.size ≤ 9223372036854775807
    · rw [if_pos hh] at h
      obtain rfl := Option.some.inj h
      have := Tryd.strings_Trim_one a0 c hh.1 w hh.2
      refine this.mono fun e w' hp => ?_
      refine ⟨hp.1, ?_⟩
      rcases hp.2 with rfl | rfl
      · exact Below.refl _ _
      · exact below_drew1 (Below.refl _ _)
    · rw [if_neg hh] at h
      cases h

end Go.Proofs.YtckpnmghbjimiaaDoor.P
