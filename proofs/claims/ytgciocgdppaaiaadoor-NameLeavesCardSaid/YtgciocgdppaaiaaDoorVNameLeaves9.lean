/- Texts of this seat joined into one: R3. -/
import Derived.Test.YtgciocgdppaaiaaDoorVNameLeaves4
import Derived.Test.YtgciocgdppaaiaaDoorVNameLeaves8
import Derived.Deep.SlicePairs

/- What a row reads: a slice of entries; a block of 256 bytes. -/
namespace Go.Proofs.YtgciocgdppaaiaaDoor
open Go.ChangeShapes Go.WideShapes Go.ChangeAt Go.RowKit Go.Deep
open Go.Proofs.YtgciocgdppaaiaaDoorW.PrintWords Go.Proofs.YtgciocgdppaaiaaDoor.P

theorem weightsAll_mem {H : Type} {P : Program} {e : TypeId} : ∀ {ds : List (DataW H)} {d : DataW H}, d ∈ ds → ∀ n ∈ d.weights P e, n ∈ DataW.weightsAll P e ds
  | d0 :: ds, d, hd, n, hn => by
    simp only [DataW.weightsAll, List.mem_append]
    rcases List.mem_cons.1 hd with rfl | hd
    · exact Or.inl hn
    · exact Or.inr (weightsAll_mem hd n hn)

theorem cells27 : Tryd.prog.cellsOf 27 = 2 := by kernel_rfl
theorem bytes27 : Tryd.prog.bytesOf 27 = 24 := by kernel_rfl
theorem cells3 : Tryd.prog.cellsOf 3 = 1 := by kernel_rfl

/-- A slice of entries, opened. -/
theorem links_S {H : Type} {enc : TypeId × Value → H} {W : World} {base : Nat} {spare : Nat → Bool} {held : Bool} {a : Option Addr} {len cap : Nat} {fuel : Nat} {d : DataW H} {ps : List MemPlace}
    {ts : List TypeId} {ds : List (DataW H)} {j : Nat} (hsz : (DataW.weightsEach Tryd.prog ts ds).all (· ≤ reachBytes) = true) (ht : ts[j]? = some 39) (hd : ds[j]? = some d)
    (h : DataW.trod enc Tryd.prog W base spare held fuel 39 [.slice a len cap] = some (d, ps)) :
    ∃ l : List (Int × ByteArray), len = l.length ∧ l.length ≤ cap ∧ Kd.C k27 W a l.length (l.map mk27) ∧ l.length ≤ 5864062014634 ∧ ∀ p ∈ l, p.2.size ≤ 140737488355328 := by
  rcases open_slice_pairs Tryd.underlying39 Tryd.underlying27 cells27 rfl rfl cells3 cells9 h with ⟨hcs, _⟩ | ⟨x', l', c', m, n, V0, V1, D0, D1, P0, P1, hcs, _, hl, hm, hmm, hx, hcell⟩
  · simp at hcs
    obtain ⟨rfl, rfl, rfl⟩ := hcs
    exact ⟨[], rfl, Nat.le_refl _, ⟨rfl, by simp, fun h => absurd h (by simp)⟩, by simp, by simp⟩
  · simp at hcs
    obtain ⟨rfl, rfl, rfl⟩ := hcs
    have hlm : len ≤ m := by rw [hmm]; split <;> omega
    have hd' : ds[j]? = some (.slice ((List.range len).map fun i => .agg [D0 i, D1 i]) ((List.range (m - len)).map fun j => .agg [D0 (len + j), D1 (len + j)])) := by rw [hd, (Prod.mk.inj hx).1]
    have hw := sized_slice hsz ht hd' Tryd.underlying39
    rw [bytes27, List.length_map, List.length_range] at hw
    have hw2 : len * 24 ≤ reachBytes := Nat.le_trans (Nat.mul_le_mul_right _ (by omega)) hw
    unfold reachBytes at hw2
    have each : ∀ i, i < len → ∃ q : Int × ByteArray, W.cell? (x'.add (i * 2)) = some (.int .i64 q.1) ∧ W.cell? (x'.add (i * 2 + 1)) = some (.string q.2) ∧ q.2.size ≤ 140737488355328 := by
      intro i hi
      obtain ⟨h0, h1, t0, t1⟩ := hcell i (by omega)
      obtain ⟨a0, ea, xa, _⟩ := DataW.trod_int Tryd.underlying3 t0
      obtain ⟨b0, eb, xb, _⟩ := DataW.trod_string Tryd.underlying9 t1
      have ea' : V0 i = .int .i64 a0 := by simpa using ea
      have eb' : V1 i = .string b0 := by simpa using eb
      have hD1 : D1 i = .lit (.string b0.data.toList) := (Prod.mk.inj xb).1
      refine ⟨(a0, b0), by rw [h0, ea'], by rw [h1, eb'], ?_⟩
      have hmem : (DataW.agg [D0 i, D1 i]) ∈ ((List.range len).map fun i => (DataW.agg [D0 i, D1 i] : DataW H)) := List.mem_map.2 ⟨i, List.mem_range.2 hi, rfl⟩
      have hin : b0.data.toList.length ∈ (DataW.agg [D0 i, D1 i]).weights Tryd.prog 27 := by
        simp [DataW.weights, Tryd.underlying27, DataW.weightsEach, hD1]
      have hin2 : b0.data.toList.length ∈ (DataW.slice ((List.range len).map fun i => (DataW.agg [D0 i, D1 i] : DataW H)) ((List.range (m - len)).map fun j => .agg [D0 (len + j), D1 (len + j)])).weights Tryd.prog 39 := by
        simp only [DataW.weights, Tryd.underlying39]
        exact List.mem_cons_of_mem _ (List.mem_append_left _ (weightsAll_mem hmem _ hin))
      have h2 := List.all_eq_true.1 hsz _ (DataW.weights_mem_each ht hd' _ hin2)
      have h3 : b0.data.toList.length ≤ reachBytes := of_decide_eq_true h2
      unfold reachBytes at h3
      rw [← Lib.size_eq] at h3
      show b0.size ≤ _
      omega
    obtain ⟨q, hq⟩ := choose_lt each
    refine ⟨(List.range len).map q, by simp, by simpa using hl, ?_, by rw [List.length_map, List.length_range]; omega, ?_⟩
    · rw [List.length_map, List.length_range]
      unfold maxLen at hm
      refine ⟨by simp, by omega, fun _ => ⟨x', rfl, fun j p hj => ?_⟩⟩
      rw [List.map_map, List.getElem?_map] at hj
      have hjl : j < len := by
        rcases Nat.lt_or_ge j len with h | h
        · exact h
        · rw [List.getElem?_eq_none (by simpa using h)] at hj
          simp at hj
      rw [List.getElem?_range hjl] at hj
      simp only [Option.map_some, Option.some.injEq, Function.comp_apply] at hj
      subst hj
      obtain ⟨h0, h1, _⟩ := hq j hjl
      refine ⟨[.int .i64 (q j).1, .string (q j).2], rfl, k27_mk _ (mk27 (q j)), fun i u hi => ?_⟩
      match i, hi with
      | 0, hi =>
        simp at hi
        subst hi
        exact h0
      | 1, hi =>
        simp at hi
        subst hi
        exact h1
    · intro p hp
      obtain ⟨i, hi, rfl⟩ := List.mem_map.1 hp
      exact (hq i (List.mem_range.1 hi)).2.2

theorem mapM_get {α β : Type} {f : α → Option β} : ∀ {l : List α} {ys : List β}, l.mapM f = some ys → ∀ (i : Nat) (x : α), l[i]? = some x → ∃ y, f x = some y
  | [], _, _, i, x, hx => by simp at hx
  | a :: l, ys, h, i, x, hx => by
    rw [List.mapM_cons] at h
    simp only [bind, Option.bind_eq_some_iff, pure, Option.some.injEq] at h
    obtain ⟨y, hy, zs, hz, rfl⟩ := h
    cases i with
    | zero => simp at hx; subst hx; exact ⟨y, hy⟩
    | succ i => exact mapM_get hz i x (by simpa using hx)

theorem cells43 : Tryd.prog.cellsOf 43 = 256 := by kernel_rfl
theorem cells5 : Tryd.prog.cellsOf 5 = 1 := by kernel_rfl

set_option maxRecDepth 100000 in
/-- A block, opened. -/
theorem block_B {H : Type} {enc : TypeId × Value → H} {W : World} {base : Nat} {spare : Nat → Bool} {held : Bool} {v : Value} {d : DataW H} {ps : List MemPlace} {r : Reach} {b0 : Nat}
    (hv : Value.okWide Tryd.prog W r b0 43 v) (hd : DataW.Trod enc Tryd.prog W base spare held 43 v d ps) : ∃ x : ByteArray, x.size = 256 ∧ v = .agg (blkC x) := by
  simp only [Value.okWide, Tryd.underlying43] at hv
  obtain ⟨xs, rfl, hs, _⟩ := hv
  have hn : xs.size = 256 := by rw [hs, cells43]
  obtain ⟨fuel, hf⟩ := hd
  cases fuel with
  | zero => simp [DataW.trod] at hf
  | succ m =>
    rw [DataW.trod_step] at hf
    unfold DataW.trodStep at hf
    simp only [Tryd.underlying43, Value.cells] at hf
    rw [if_pos (by rw [cells43]; simpa using hn)] at hf
    simp only [Option.map_eq_some_iff] at hf
    obtain ⟨ys, hy, _⟩ := hf
    have each : ∀ i, i < 256 → ∃ b : UInt8, xs[i]? = some (.int .u8 (b.toNat : Int)) := by
      intro i hi
      obtain ⟨y, hyi⟩ := mapM_get hy i i (by rw [List.getElem?_range hi])
      rw [cells5, Nat.mul_one] at hyi
      have hx : xs.toList[i]? = some (xs.toList[i]'(by rw [Array.length_toList]; omega)) := List.getElem?_eq_getElem _
      rw [List.drop_eq_getElem_cons (by rw [Array.length_toList]; omega)] at hyi
      obtain ⟨a, ea, _, wa⟩ := DataW.trod_int Tryd.underlying5 hyi
      simp only [List.take_succ_cons, List.take_zero, List.cons.injEq, and_true] at ea
      rw [Array.getElem?_toList] at hx
      have h01 : 0 ≤ a ∧ a ≤ 255 := by
        simp [Lit.wf] at wa
        have h1 : IntKind.u8.min = 0 := by decide
        have h2 : IntKind.u8.max = 255 := by decide
        omega
      refine ⟨UInt8.ofNat a.toNat, ?_⟩
      rw [hx, ea, UInt8.toNat_ofNat']
      congr 2
      omega
    obtain ⟨q, hq⟩ := choose_lt each
    refine ⟨Pure.ofL ((List.range 256).map q), by rw [Pure.size_ofL]; simp, ?_⟩
    congr 1
    unfold blkC Pure.ofL
    apply Array.ext_getElem?
    intro i
    rw [Array.getElem?_map]
    by_cases hi : i < 256
    · rw [hq i hi, List.getElem?_toArray, List.getElem?_map, List.getElem?_range hi]
      rfl
    · rw [Array.getElem?_eq_none (by omega), List.getElem?_toArray, List.getElem?_eq_none (by simpa using hi)]
      rfl

end Go.Proofs.YtgciocgdppaaiaaDoor
