/- Sizes of a slice of strings inside a struct of two fields. -/
import Derived.Test.YtckpnmghbjimiaaDoorR1
namespace Go.Proofs.YtckpnmghbjimiaaDoor
open Go.ChangeShapes Go.WideShapes Go.ChangeAt Go.RowKit
open Go.Proofs.YtckpnmghbjimiaaDoorW.PrintWords

theorem strs_P {H : Type} {enc : TypeId × Value → H} {W : World} {base : Nat} {spare : Nat → Bool} {held : Bool} {a : Option Addr} {len cap : Nat} {fuel : Nat} {y : DataW H × List MemPlace} {d1 : DataW H}
    {ts : List TypeId} {ds : List (DataW H)} {j : Nat} {t e2 : TypeId} {fs : Array Field} (hsz : (DataW.weightsEach Tryd.prog ts ds).all (· ≤ reachBytes) = true) (ht : ts[j]? = some t) (hd : ds[j]? = some (.agg [y.1, d1]))
    (hu : Tryd.prog.underlying t = some (.struct fs)) (hf : fs.toList.map (·.type) = [22, e2])
    (h : DataW.trod enc Tryd.prog W base spare held fuel 22 [.slice a len cap] = some y) :
    ∃ l : List ByteArray, len = l.length ∧ l.length ≤ cap ∧ Kd.C Kd.string W a l.length l ∧ l.length ≤ 8796093021952 := by
  rcases open_strings Tryd.underlying22 Tryd.underlying9 cells9 h with ⟨hcs, _⟩ | ⟨x', l', c', ss, hcs, _, hl, hm, hz, hx, hcell, hmax⟩
  · simp at hcs
    obtain ⟨rfl, rfl, rfl⟩ := hcs
    exact ⟨[], rfl, Nat.le_refl _, ⟨rfl, by simp, fun h => absurd h (by simp)⟩, by simp⟩
  · simp at hcs
    obtain ⟨rfl, rfl, rfl⟩ := hcs
    have hlen : (ss.take len).length = len := by
      rw [List.length_take, hz]
      split <;> omega
    have hd' : ds[j]? = some (.agg [.slice (strs (ss.take len)) (strs (ss.drop len)), d1]) := by rw [hd, hx]
    have h1 := List.all_eq_true.1 hsz _ (DataW.weights_mem_each ht hd' (((strs (H := H) (ss.take len)).length + (strs (H := H) (ss.drop len)).length) * Tryd.prog.bytesOf 9) (by simp [DataW.weights, hu, hf, DataW.weightsEach, Tryd.underlying22]))
    have hw : ((strs (H := H) (ss.take len)).length + (strs (H := H) (ss.drop len)).length) * Tryd.prog.bytesOf 9 ≤ reachBytes := by simpa using h1
    rw [bytes9] at hw
    have hw2 : (ss.take len).length * 16 ≤ reachBytes := by
      refine Nat.le_trans (Nat.mul_le_mul_right _ ?_) hw
      simp [strs]
    refine ⟨ss.take len, hlen.symm, by rw [hlen]; exact hl, ?_, by unfold reachBytes at hw2; omega⟩
    rw [hlen]
    unfold maxLen at hm
    refine ⟨hlen, by omega, fun _ => ⟨x', rfl, fun j p hj => ⟨[.string p], rfl, rfl, fun i u hi => ?_⟩⟩⟩
    have hjl : j < len := by
      have := (List.getElem?_eq_some_iff.1 hj).1
      rw [hlen] at this
      exact this
    match i, hi with
    | 0, hi =>
      simp at hi
      subst hi
      have := hcell j (by rw [hz]; split <;> omega)
      rw [show x'.add (j * Kd.string.sz + 0) = x'.add j from by simp [show Kd.string.sz = 1 from rfl], this]
      rw [List.getElem?_take_of_lt hjl] at hj
      rw [List.getD_eq_getElem?_getD, hj]
      rfl
    | (i + 1), hi => simp at hi

end Go.Proofs.YtckpnmghbjimiaaDoor
