/- What path.Parse answers, in plain words. -/
import Derived.Test.YtckpnmghbjimiaaDoorA2
import Derived.Test.YtckpnmghbjimiaaDoorB2
namespace Go.Proofs.YtckpnmghbjimiaaDoor
open Go.RowKit

/-- The error of a name. -/
def checkE (x : ByteArray) : Int := if x.toList = [] then 130 else if 56 < x.size then 130 else if hasBad x = true then 130 else if x.toList = [46] then 130 else if x.toList = [46, 46] then 130 else 0

abbrev PSt := List ByteArray × Bool × Int

/-- One part more. -/
def stepP (st : PSt) (x : ByteArray) : Except (Int × Int) PSt :=
  if x.toList = [] then .ok (st.1, true, st.2.2 + (x.size + 1)) else if x.toList = [46] then .ok (st.1, true, st.2.2 + (x.size + 1))
  else if x.toList = [46, 46] then .ok (st.1.dropLast, true, st.2.2 + (x.size + 1))
  else if checkE x ≠ 0 then .error (st.2.2, checkE x) else if st.1.length = 32 then .error (st.2.2, 182)
  else .ok (st.1 ++ [x], false, st.2.2 + (x.size + 1))

def runP : PSt → List ByteArray → Except (Int × Int) PSt
  | st, [] => .ok st
  | st, x :: xs => match stepP st x with
    | .ok st' => runP st' xs
    | .error e => .error e

theorem runP_append (st : PSt) (a b : List ByteArray) : runP st (a ++ b) = match runP st a with
    | .ok st' => runP st' b
    | .error e => .error e := by
  induction a generalizing st with
  | nil => rfl
  | cons x a ih =>
    simp only [List.cons_append, runP]
    cases stepP st x with
    | ok st' => exact ih st'
    | error e => rfl

theorem runP_snoc {st st' : PSt} {a : List ByteArray} (x : ByteArray) (h : runP st a = .ok st') : runP st (a ++ [x]) = stepP st' x := by
  rw [runP_append, h]
  simp only [runP]
  cases stepP st' x <;> rfl

theorem runP_err {st : PSt} {a : List ByteArray} {e : Int × Int} (h : runP st a = .error e) (b : List ByteArray) : runP st (a ++ b) = .error e := by
  rw [runP_append, h]

/-- The answer. -/
def finP : Except (Int × Int) PSt → List ByteArray × Bool × Int × Int
  | .ok st => (st.1, st.2.1, 0, 0)
  | .error e => ([], false, e.1, e.2)

def parseR (s : ByteArray) : List ByteArray × Bool × Int × Int := finP (runP ([], true, 1) (parts (s.extract 1 s.size)))

def lensP (l : List ByteArray) : Nat := (l.map fun x => x.size + 1).sum
theorem lensP_append (a b : List ByteArray) : lensP (a ++ b) = lensP a + lensP b := by simp [lensP]

theorem splitSlash_sum : ∀ l : List UInt8, ((splitSlash l).map fun x => x.length + 1).sum = l.length + 1
  | [] => rfl
  | c :: l => by
    have ih := splitSlash_sum l
    unfold splitSlash
    split
    · simp [ih]; omega
    · split
      · next h => exact absurd h (splitSlash_ne l)
      · next p ps h => rw [h] at ih; simp at ih ⊢; omega

theorem lensP_parts (s : ByteArray) : lensP (parts s) = s.size + 1 := by
  have := splitSlash_sum s.data.toList
  rw [← Lib.size_eq] at this
  rw [← this, lensP, parts, List.map_map]
  rfl

theorem prefix_lens {a b : List ByteArray} (h : a <+: b) : lensP a ≤ lensP b := by
  obtain ⟨c, rfl⟩ := h
  rw [lensP_append]
  omega

theorem runP_at : ∀ (a : List ByteArray) (st st' : PSt), runP st a = .ok st' → st'.2.2 = st.2.2 + lensP a
  | [], st, st', h => by cases h; simp [lensP]
  | x :: a, st, st', h => by
    rw [runP] at h
    cases hs : stepP st x with
    | error e => rw [hs] at h; cases h
    | ok st1 =>
      rw [hs] at h
      have ih := runP_at a st1 st' h
      have h1 : st1.2.2 = st.2.2 + (x.size + 1) := by
        unfold stepP at hs
        repeat' split at hs
        all_goals first | (cases hs; rfl) | cases hs
      rw [ih, h1]
      simp [lensP]
      omega

theorem runP_len : ∀ (a : List ByteArray) (st st' : PSt), runP st a = .ok st' → st.1.length ≤ 32 → st'.1.length ≤ 32
  | [], st, st', h, hl => by cases h; exact hl
  | x :: a, st, st', h, hl => by
    rw [runP] at h
    cases hs : stepP st x with
    | error e => rw [hs] at h; cases h
    | ok st1 =>
      rw [hs] at h
      refine runP_len a st1 st' h ?_
      unfold stepP at hs
      repeat' split at hs
      all_goals first | (cases hs; simp; omega) | cases hs

end Go.Proofs.YtckpnmghbjimiaaDoor
