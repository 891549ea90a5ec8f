/- word.take and signetref01.Take: the number of so many bytes of a text from a place on. -/
import Derived.Test.YtgciocgdppaaiaaDoorPxWordGot
import Derived.Test.YtgciocgdppaaiaaDoorPxSignetref01Of
import Derived.Lib.ConvBytes
import Derived.Laws.AppendOwn
import Derived.Test.YtgciocgdppaaiaaDoorS0

namespace Go.Proofs.YtgciocgdppaaiaaDoor
open Go.RowKit Go.Proofs.YtgciocgdppaaiaaDoorW.PrintWords

/-- A text's bytes as whole numbers. -/
def intsL (s : ByteArray) : List Int := s.data.toList.map fun b => (b.toNat : Int)
theorem intsL_length (s : ByteArray) : (intsL s).length = s.size := by unfold intsL; rw [List.length_map, Lib.size_eq]

theorem bytes_C (w : World) (s : ByteArray) (hs : s.size ≤ 9223372036854775807) : Kd.C (Kd.int .u8) (Lib.bytesWorld w 5 s) (some ⟨w.heap.size, 0, none⟩) (intsL s).length (intsL s) := by
  refine ⟨rfl, by rw [intsL_length]; exact hs, fun _ => ⟨_, rfl, fun j p hj => ⟨[.int .u8 p], rfl, rfl, fun i u hi => ?_⟩⟩⟩
  have hjl : j < s.size := by
    have := (List.getElem?_eq_some_iff.1 hj).1
    rw [intsL_length] at this
    exact this
  match i, hi with
  | 0, hi =>
    simp at hi
    subst hi
    have hcell := Lib.bytesWorld_cell w 5 s j hjl
    have e : (⟨w.heap.size, 0, none⟩ : Addr).add (j * (Kd.int .u8).sz + 0) = ⟨w.heap.size, j, none⟩ := by
      show (⟨w.heap.size, 0, none⟩ : Addr).add (j * 1 + 0) = _
      unfold Addr.add
      split
      · next e => rw [show j = 0 from by omega]
      · show (⟨w.heap.size, 0 + (j * 1 + 0), none⟩ : Addr) = _; congr 1; omega
    rw [e, hcell]
    unfold intsL at hj
    rw [List.getElem?_map] at hj
    rw [List.getD_eq_getElem?_getD]
    cases hb : s.data.toList[j]? with
    | none => rw [hb] at hj; cases hj
    | some b =>
      rw [hb] at hj
      simp at hj
      rw [← hj]
      rfl
  | (i + 1), hi => simp at hi

theorem bytes_below (w : World) (s : ByteArray) : Below w.heap.size w (Lib.bytesWorld w 5 s) := by
  refine ⟨rfl, rfl, rfl, ?_, fun k hk => Lib.bytesWorld_at_old w 5 s k hk⟩
  rw [Lib.bytesWorld_size]
  omega

end Go.Proofs.YtgciocgdppaaiaaDoor

namespace Go.Proofs.YtgciocgdppaaiaaDoor.P
open Go.RowKit Go.Proofs.YtgciocgdppaaiaaDoor Go.Proofs.YtgciocgdppaaiaaDoorW.PrintWords

theorem got_on (k : Nat) (t : ByteArray) (r : Int) (W : World) (ht : t.size ≤ 9223372036854775807) (h : word_got.f k (intsL t) = some r) :
    Calls Tryd.prog 77 #[.slice (some ⟨W.heap.size, 0, none⟩) t.size (grownCap W t.size 0 5)] (Lib.bytesWorld W 5 t) fun e w' => e = .returned (.int .u64 r) ∧ Below W.heap.size W w' := by
  have hc := word_got.calls k (some ⟨W.heap.size, 0, none⟩) (grownCap W t.size 0 5) (intsL t) r (Lib.bytesWorld W 5 t) (bytes_C W t ht) (by rw [intsL_length]; exact grownCap_ge _ _ _ _) h
  rw [intsL_length] at hc
  refine hc.mono fun e w' hp => ⟨hp.1, ?_⟩
  have hb := hp.2.below
  exact (bytes_below W t).trans (hb.mono (by rw [Lib.bytesWorld_size]; omega))
theorem of_on (k : Nat) (t : ByteArray) (r : Int) (W : World) (ht : t.size ≤ 9223372036854775807) (h : signetref01_Of.f k (intsL t) = some r) :
    Calls Tryd.prog 64 #[.slice (some ⟨W.heap.size, 0, none⟩) t.size (grownCap W t.size 0 5)] (Lib.bytesWorld W 5 t) fun e w' => e = .returned (.int .u64 r) ∧ Below W.heap.size W w' := by
  have hc := signetref01_Of.calls k (some ⟨W.heap.size, 0, none⟩) (grownCap W t.size 0 5) (intsL t) r (Lib.bytesWorld W 5 t) (bytes_C W t ht) (by rw [intsL_length]; exact grownCap_ge _ _ _ _) h
  rw [intsL_length] at hc
  refine hc.mono fun e w' hp => ⟨hp.1, ?_⟩
  have hb := hp.2.below
  exact (bytes_below W t).trans (hb.mono (by rw [Lib.bytesWorld_size]; omega))

def word_take.f (k : Nat) (a0 : ByteArray) (a1 : Int) (a2 : Int) : Option (Int × Bool) :=
  if 0 ≤ a2 ∧ a0.size ≤ 140737488355328 then if a1 < 0 then some (0, false) else if (a0.size : Int) < a1 then some (0, false) else if (a0.size : Int) - a1 < a2 then some (0, false)
  else (word_got.f k (intsL (a0.extract a1.toNat (a1 + a2).toNat))).bind fun r => some (r, true) else none
theorem word_take.mono : ∀ a0 a1 a2 k, LeO (word_take.f k a0 a1 a2) (word_take.f (k + 1) a0 a1 a2) := by
  intro a0 a1 a2 k
  unfold word_take.f
  refine LeO.ite (LeO.ite (LeO.refl _) (LeO.ite (LeO.refl _) (LeO.ite (LeO.refl _) (LeO.bind (word_got.mono _ _) (fun _ => LeO.refl _))))) (LeO.none _)

set_option maxRecDepth 100000 in
set_option maxHeartbeats 4000000 in
theorem word_take.calls (k : Nat) (a0 : ByteArray) (a1 : Int) (a2 : Int) (r1 : Int) (r2 : Bool) (w : World) (h : word_take.f k a0 a1 a2 = some (r1, r2)) :
    Calls Tryd.prog 63 #[.string a0, .int .i64 a1, .int .i64 a2] w fun e w' => e = .returned (.tuple #[.int .u64 r1, .bool r2]) ∧ Below w.heap.size w w' := by
  unfold word_take.f at h
  by_cases hc : 0 ≤ a2 ∧ a0.size ≤ 140737488355328
  · rw [if_pos hc] at h
    obtain ⟨hc1, hc2⟩ := hc
    by_cases h1 : a1 < 0
    · rw [if_pos h1] at h
      cases h
      have hd : decide (a1 < 0) = true := decide_eq_true h1
      go_enter Tryd.func63, Tryd.ntmps63
      go_wp2
      go_ret2
      exact ⟨rfl, Below.refl _ _⟩
    · rw [if_neg h1] at h
      have hd1 : decide (a1 < 0) = false := decide_eq_false h1
      by_cases h2 : (a0.size : Int) < a1
      · rw [if_pos h2] at h
        cases h
        have hd : decide ((a0.size : Int) < a1) = true := decide_eq_true h2
        go_enter Tryd.func63, Tryd.ntmps63
        go_wp2
        go_ret2
        exact ⟨rfl, Below.refl _ _⟩
      · rw [if_neg h2] at h
        have hd2 : decide ((a0.size : Int) < a1) = false := decide_eq_false h2
        have hw : wrap64 ((a0.size : Int) - a1) = (a0.size : Int) - a1 := by unfold wrap64; omega
        by_cases h3 : (a0.size : Int) - a1 < a2
        · rw [if_pos h3] at h
          cases h
          have hd : decide ((a0.size : Int) - a1 < a2) = true := decide_eq_true h3
          go_enter Tryd.func63, Tryd.ntmps63
          go_wp2
          go_ret2
          exact ⟨rfl, Below.refl _ _⟩
        · rw [if_neg h3] at h
          have hd3 : decide ((a0.size : Int) - a1 < a2) = false := decide_eq_false h3
          obtain ⟨t, ht, h⟩ := Option.bind_eq_some_iff.mp h
          cases h
          have g0 : 0 ≤ a1 := by omega
          have g1 : a1 ≤ a1 + a2 := by omega
          have g2 : a1 + a2 ≤ (a0.size : Int) := by omega
          have hts : (a0.extract a1.toNat (a1 + a2).toNat).size ≤ 9223372036854775807 := by rw [ByteArray.size_extract]; omega
          obtain ⟨t, hT⟩ : ∃ t, a0.extract a1.toNat (a1 + a2).toNat = t := ⟨_, rfl⟩
          rw [hT] at ht hts
          have kc := fun W => Lib.run_convert_string_bytes (P := Tryd.prog) W 9 70 5 t Tryd.underlying9 Tryd.underlying70 Tryd.underlying5
          go_enter Tryd.func63, Tryd.ntmps63
          go_wp2_with (go_at_call 77; refine (got_on k t r1 _ hts ht).mono ?_; rintro e w5 ⟨rfl, hb5⟩)
          go_ret2
          exact ⟨rfl, hb5⟩
  · rw [if_neg hc] at h
    cases h

def signetref01_Take.f (k : Nat) (a0 : ByteArray) (a1 : Int) (a2 : Int) : Option (Int × Bool) :=
  if 0 ≤ a2 ∧ a0.size ≤ 140737488355328 then if a1 < 0 then some (0, false) else if (a0.size : Int) < a1 then some (0, false) else if (a0.size : Int) - a1 < a2 then some (0, false)
  else (signetref01_Of.f k (intsL (a0.extract a1.toNat (a1 + a2).toNat))).bind fun r => some (r, true) else none
theorem signetref01_Take.mono : ∀ a0 a1 a2 k, LeO (signetref01_Take.f k a0 a1 a2) (signetref01_Take.f (k + 1) a0 a1 a2) := by
  intro a0 a1 a2 k
  unfold signetref01_Take.f
  refine LeO.ite (LeO.ite (LeO.refl _) (LeO.ite (LeO.refl _) (LeO.ite (LeO.refl _) (LeO.bind (signetref01_Of.mono _ _) (fun _ => LeO.refl _))))) (LeO.none _)

set_option maxRecDepth 100000 in
set_option maxHeartbeats 4000000 in
theorem signetref01_Take.calls (k : Nat) (a0 : ByteArray) (a1 : Int) (a2 : Int) (r1 : Int) (r2 : Bool) (w : World) (h : signetref01_Take.f k a0 a1 a2 = some (r1, r2)) :
    Calls Tryd.prog 41 #[.string a0, .int .i64 a1, .int .i64 a2] w fun e w' => e = .returned (.tuple #[.int .u64 r1, .bool r2]) ∧ Below w.heap.size w w' := by
  unfold signetref01_Take.f at h
  by_cases hc : 0 ≤ a2 ∧ a0.size ≤ 140737488355328
  · rw [if_pos hc] at h
    obtain ⟨hc1, hc2⟩ := hc
    by_cases h1 : a1 < 0
    · rw [if_pos h1] at h
      cases h
      have hd : decide (a1 < 0) = true := decide_eq_true h1
      go_enter Tryd.func41, Tryd.ntmps41
      go_wp2
      go_ret2
      exact ⟨rfl, Below.refl _ _⟩
    · rw [if_neg h1] at h
      have hd1 : decide (a1 < 0) = false := decide_eq_false h1
      by_cases h2 : (a0.size : Int) < a1
      · rw [if_pos h2] at h
        cases h
        have hd : decide ((a0.size : Int) < a1) = true := decide_eq_true h2
        go_enter Tryd.func41, Tryd.ntmps41
        go_wp2
        go_ret2
        exact ⟨rfl, Below.refl _ _⟩
      · rw [if_neg h2] at h
        have hd2 : decide ((a0.size : Int) < a1) = false := decide_eq_false h2
        have hw : wrap64 ((a0.size : Int) - a1) = (a0.size : Int) - a1 := by unfold wrap64; omega
        by_cases h3 : (a0.size : Int) - a1 < a2
        · rw [if_pos h3] at h
          cases h
          have hd : decide ((a0.size : Int) - a1 < a2) = true := decide_eq_true h3
          go_enter Tryd.func41, Tryd.ntmps41
          go_wp2
          go_ret2
          exact ⟨rfl, Below.refl _ _⟩
        · rw [if_neg h3] at h
          have hd3 : decide ((a0.size : Int) - a1 < a2) = false := decide_eq_false h3
          obtain ⟨t, ht, h⟩ := Option.bind_eq_some_iff.mp h
          cases h
          have g0 : 0 ≤ a1 := by omega
          have g1 : a1 ≤ a1 + a2 := by omega
          have g2 : a1 + a2 ≤ (a0.size : Int) := by omega
          have hts : (a0.extract a1.toNat (a1 + a2).toNat).size ≤ 9223372036854775807 := by rw [ByteArray.size_extract]; omega
          obtain ⟨t, hT⟩ : ∃ t, a0.extract a1.toNat (a1 + a2).toNat = t := ⟨_, rfl⟩
          rw [hT] at ht hts
          have kc := fun W => Lib.run_convert_string_bytes (P := Tryd.prog) W 9 70 5 t Tryd.underlying9 Tryd.underlying70 Tryd.underlying5
          go_enter Tryd.func41, Tryd.ntmps41
          go_wp2_with (go_at_call 64; refine (of_on k t r1 _ hts ht).mono ?_; rintro e w5 ⟨rfl, hb5⟩)
          go_ret2
          exact ⟨rfl, hb5⟩
  · rw [if_neg hc] at h
    cases h

end Go.Proofs.YtgciocgdppaaiaaDoor.P
