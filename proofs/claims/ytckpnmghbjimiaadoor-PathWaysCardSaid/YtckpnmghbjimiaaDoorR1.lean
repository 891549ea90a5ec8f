/- Sizes of what a row reads: a slice of strings, a struct of two strings. -/
import Derived.Test.YtckpnmghbjimiaaDoorR0
namespace Go.Proofs.YtckpnmghbjimiaaDoor
open Go.ChangeShapes Go.WideShapes Go.ChangeAt Go.RowKit
open Go.Proofs.YtckpnmghbjimiaaDoorW.PrintWords

theorem bytes9 : Tryd.prog.bytesOf 9 = 16 := by kernel_rfl

theorem strs_S {H : Type} {enc : TypeId × Value → H} {W : World} {base : Nat} {spare : Nat → Bool} {held : Bool} {a : Option Addr} {len cap : Nat} {fuel : Nat} {d : DataW H} {ps : List MemPlace}
    {ts : List TypeId} {ds : List (DataW H)} {j : Nat} (hsz : (DataW.weightsEach Tryd.prog ts ds).all (· ≤ reachBytes) = true) (ht : ts[j]? = some 22) (hd : ds[j]? = some d)
    (h : DataW.trod enc Tryd.prog W base spare held fuel 22 [.slice a len cap] = some (d, ps)) :
    ∃ l : List ByteArray, len = l.length ∧ l.length ≤ cap ∧ Kd.C Kd.string W a l.length l ∧ l.length ≤ 8796093021952 ∧ ∀ s ∈ l, s.size ≤ 9223372036854775807 := by
  rcases open_strings Tryd.underlying22 Tryd.underlying9 cells9 h with ⟨hcs, _⟩ | ⟨x', l', c', ss, hcs, _, hl, hm, hz, hx, hcell, hmax⟩
  · simp at hcs
    obtain ⟨rfl, rfl, rfl⟩ := hcs
    exact ⟨[], rfl, Nat.le_refl _, ⟨rfl, by simp, fun h => absurd h (by simp)⟩, by simp, by simp⟩
  · simp at hcs
    obtain ⟨rfl, rfl, rfl⟩ := hcs
    have hlen : (ss.take len).length = len := by
      rw [List.length_take, hz]
      split <;> omega
    have hd' : ds[j]? = some (.slice (strs (ss.take len)) (strs (ss.drop len))) := by rw [hd, (Prod.mk.inj hx).1]
    have hw := sized_slice hsz ht hd' Tryd.underlying22
    rw [bytes9] at hw
    have hw2 : (ss.take len).length * 16 ≤ reachBytes := by
      refine Nat.le_trans (Nat.mul_le_mul_right _ ?_) hw
      simp [strs]
    refine ⟨ss.take len, hlen.symm, by rw [hlen]; exact hl, ?_, by unfold reachBytes at hw2; omega, fun s hs => ?_⟩
    · rw [hlen]
      unfold maxLen at hm
      refine ⟨hlen, by omega, fun _ => ⟨x', rfl, fun j p hj => ⟨[.string p], rfl, rfl, fun i u hi => ?_⟩⟩⟩
      have hjl : j < len := by
        have := (List.getElem?_eq_some_iff.1 hj).1
        rw [hlen] at this
        exact this
      match i, hi with
      | 0, hi =>
        simp at hi
        subst hi
        have := hcell j (by rw [hz]; split <;> omega)
        rw [show x'.add (j * Kd.string.sz + 0) = x'.add j from by simp [show Kd.string.sz = 1 from rfl], this]
        rw [List.getElem?_take_of_lt hjl] at hj
        rw [List.getD_eq_getElem?_getD, hj]
        rfl
      | (i + 1), hi => simp at hi
    · have := hmax s (List.mem_of_mem_take hs)
      unfold maxLen at this
      omega

theorem two_sized {H : Type} {ts : List TypeId} {ds : List (DataW H)} {j : Nat} {t : TypeId} {x y : List UInt8} {fs : Array Field} {e1 e2 : TypeId}
    (h : (DataW.weightsEach Tryd.prog ts ds).all (· ≤ reachBytes) = true) (ht : ts[j]? = some t) (hd : ds[j]? = some (.agg [.lit (.string x), .lit (.string y)]))
    (hu : Tryd.prog.underlying t = some (.struct fs)) (hf : fs.toList.map (·.type) = [e1, e2]) : x.length ≤ 140737488351232 ∧ y.length ≤ 140737488351232 := by
  have h1 := List.all_eq_true.1 h _ (DataW.weights_mem_each ht hd x.length (by simp [DataW.weights, hu, hf, DataW.weightsEach]))
  have h2 := List.all_eq_true.1 h _ (DataW.weights_mem_each ht hd y.length (by simp [DataW.weights, hu, hf, DataW.weightsEach]))
  unfold reachBytes at h1 h2
  simp at h1 h2
  omega

end Go.Proofs.YtckpnmghbjimiaaDoor
