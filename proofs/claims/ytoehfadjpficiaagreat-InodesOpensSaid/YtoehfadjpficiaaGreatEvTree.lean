/- What is known of a tree of which nothing is known but its cells' kinds: by cases. -/
import Derived.Test.YtoehfadjpficiaaGreatEvNum
namespace Go.Proofs.YtoehfadjpficiaaGreat.Ev
open Go Go.RowKit Go.WideShapes
set_option linter.unusedVariables false
set_option linter.unusedSimpArgs false
/-! ### Kinds of cells -/
def kindsB (P : Program) (t : TypeId) (n : Nat) (kd : Nat → IntKind) : Bool :=
  match P.cellTypes P.depth t with
  | some ts => ts.length == n && (List.range n).all fun i =>
    match ts[i]? with
    | some u => match P.underlying u with
      | some (.int k) => k == kd i
      | _ => false
    | none => false
  | none => false
theorem kinds_of {P : Program} {t : TypeId} {n : Nat} {kd : Nat → IntKind} (hb : kindsB P t n kd = true) {W : World} {base : Nat} {cs : Array Value} (h : Row.okWide P W .any base t cs) (hs : cs.size = n) : ∀ i, i < n → ∃ x, cs.getD i undef = .int (kd i) x := by
  intro i hi
  obtain ⟨ts, hts, _, hall⟩ := h
  unfold kindsB at hb
  rw [hts] at hb
  simp only [Bool.and_eq_true, beq_iff_eq, List.all_eq_true, List.mem_range] at hb
  obtain ⟨hl, hb⟩ := hb
  have hb := hb i hi
  obtain ⟨u, hu, hc⟩ := hall i cs[i] (by rw [Array.getElem?_eq_getElem (by omega)])
  rw [Nat.mod_eq_of_lt (by omega)] at hu
  rw [hu] at hb
  simp only at hb
  split at hb
  · rename_i k hk
    have hk2 : k = kd i := by simpa using hb
    subst hk2
    have hv : Value.okWide P W .any base u cs[i] := by
      unfold Value.okWide
      rw [hk]
      exact hc
    obtain ⟨x, hx⟩ := okWide_int hk hv
    refine ⟨x, ?_⟩
    rw [Array.getD_eq_getD_getElem?, Array.getElem?_eq_getElem (by omega), ← hx]
    rfl
  · cases hb
/-! ### The cases -/
def gKind (i : Nat) : IntKind := if i = 0 then .i64 else if i = 1 then .u32 else .u8
def gNum (i : Nat) : Option IntKind := if i < 34 then some (gKind i) else none
def kA : Known := ⟨fun op i k c => if i = 0 ∧ k = .i64 ∧ 0 ≤ c then cmpI (-1) op c else none, fun _ _ _ _ => none, gNum, fun _ => none⟩
def kB : Known := ⟨fun op i k c => if i = 0 ∧ k = .i64 ∧ c ≤ 6 then cmpI 7 op c else none, fun _ _ _ _ => none, gNum, fun _ => none⟩
def kC (q : Nat) : Known := ⟨fun op i k c =>
  match op with
  | .geq => if i = 0 ∧ k = .i64 ∧ c = 0 then some true else none
  | .leq => if i = 0 ∧ k = .i64 ∧ c = 6 then some true else none
  | .eql => if i = 1 ∧ k = .u32 ∧ c = 0 then some true else if 2 ≤ i ∧ i < q + 2 ∧ k = .u8 ∧ c = 0 then some true else if i = q + 2 ∧ k = .u8 ∧ c = 0 then some false else none
  | .neq => if i = 1 ∧ k = .u32 ∧ c = 0 then some false else none
  | _ => none, fun _ _ _ _ => none, gNum, fun _ => none⟩
def kD : Known := ⟨fun op i k c =>
  match op with
  | .eql => if i = 1 ∧ k = .u32 ∧ c = 0 then some false else none
  | .neq => if i = 1 ∧ k = .u32 ∧ c = 0 then some true else none
  | _ => none, fun _ _ _ _ => none, fun i => if 1 ≤ i ∧ i < 34 then some (gKind i) else none, fun _ => none⟩
theorem cmpK_run {P : Program} {k : IntKind} {x c : Int} {op : BinOp} {b : Bool} (h : cmpI x op c = some b) (t : TypeId) (w : World) : (binOp op t (.int k x) (.int k c)).run P w = .ok (.bool b) w := by
  cases op <;> simp only [cmpI, Option.some.injEq, reduceCtorEq] at h <;> subst h <;> simp [binOp, go_sem]
  · by_cases e : x = c <;> simp [e]
  · by_cases e : x = c <;> simp [e]
section
variable {ρ : Nat → Value} (hk : ∀ i, i < 34 → ∃ x, ρ i = .int (gKind i) x)
include hk
theorem gNum_ok : ∀ i k, gNum i = some k → ∃ x, ρ i = .int k x := fun i k h => by
  unfold gNum at h
  split at h
  · rename_i hi
    obtain rfl := Option.some.inj h
    exact hk i hi
  · cases h
theorem kA_ok {n : Int} (hn : n < 0) (h0 : ρ 0 = .int .i64 n) : kA.Ok ρ where
  fact := fun op i k c b h t w => by
    simp only [kA] at h
    split at h
    · rename_i hc
      obtain ⟨rfl, rfl, hc⟩ := hc
      have : cmpI (-1) op c = cmpI n op c := by
        cases op <;> simp only [cmpI, Option.some.injEq, decide_eq_decide] <;> omega
      rw [this] at h
      rw [h0]
      exact cmpI_run h t w
    · cases h
  der := fun _ _ _ _ _ h => (nomatch h)
  num := gNum_ok hk
  eql := fun i k c b h => by
    simp only [kA] at h
    split at h
    · rename_i hc
      obtain ⟨rfl, rfl, hc⟩ := hc
      have : cmpI (-1) .eql c = cmpI n .eql c := by
        simp only [cmpI, Option.some.injEq, decide_eq_decide]; omega
      rw [this] at h
      exact ⟨n, h0, cmpI_eql h⟩
    · cases h
theorem kB_ok {n : Int} (hn : 6 < n) (h0 : ρ 0 = .int .i64 n) : kB.Ok ρ where
  fact := fun op i k c b h t w => by
    simp only [kB] at h
    split at h
    · rename_i hc
      obtain ⟨rfl, rfl, hc⟩ := hc
      have : cmpI 7 op c = cmpI n op c := by
        cases op <;> simp only [cmpI, Option.some.injEq, decide_eq_decide] <;> omega
      rw [this] at h
      rw [h0]
      exact cmpI_run h t w
    · cases h
  der := fun _ _ _ _ _ h => (nomatch h)
  num := gNum_ok hk
  eql := fun i k c b h => by
    simp only [kB] at h
    split at h
    · rename_i hc
      obtain ⟨rfl, rfl, hc⟩ := hc
      have : cmpI 7 .eql c = cmpI n .eql c := by
        simp only [cmpI, Option.some.injEq, decide_eq_decide]; omega
      rw [this] at h
      exact ⟨n, h0, cmpI_eql h⟩
    · cases h
omit hk in
theorem kC_eql {q : Nat} (h1 : ρ 1 = .int .u32 0) (hz : ∀ i, i < q → ρ (i + 2) = .int .u8 0) {m : Int} (hm : m ≠ 0) (hq : ρ (q + 2) = .int .u8 m) : ∀ i k c b, (kC q).fact .eql i k c = some b → ∃ x, ρ i = .int k x ∧ (x == c) = b := by
  intro i k c b h
  simp only [kC] at h
  split at h
  · rename_i hc
    obtain ⟨rfl, rfl, rfl⟩ := hc
    obtain rfl := Option.some.inj h
    exact ⟨0, h1, rfl⟩
  · split at h
    · rename_i hc
      obtain ⟨hi, hi2, rfl, rfl⟩ := hc
      obtain rfl := Option.some.inj h
      have := hz (i - 2) (by omega)
      rw [show i - 2 + 2 = i by omega] at this
      exact ⟨0, this, rfl⟩
    · split at h
      · rename_i hc
        obtain ⟨rfl, rfl, rfl⟩ := hc
        obtain rfl := Option.some.inj h
        exact ⟨m, hq, by simpa using hm⟩
      · cases h
theorem kC_ok {q : Nat} {n : Int} (hn : 0 ≤ n ∧ n ≤ 6) (h0 : ρ 0 = .int .i64 n) (h1 : ρ 1 = .int .u32 0) (hz : ∀ i, i < q → ρ (i + 2) = .int .u8 0) {m : Int} (hm : m ≠ 0) (hq : ρ (q + 2) = .int .u8 m) : (kC q).Ok ρ where
  fact := fun op i k c b h t w => by
    by_cases he : op = .eql
    · subst he
      obtain ⟨x, hx, hb⟩ := kC_eql h1 hz hm hq i k c b h
      rw [hx]
      refine cmpK_run ?_ t w
      rw [← hb]
      by_cases e : x = c <;> simp [cmpI, e]
    · simp only [kC] at h
      split at h
      · split at h
        · rename_i hc
          obtain ⟨rfl, rfl, rfl⟩ := hc
          obtain rfl := Option.some.inj h
          rw [h0]
          exact cmpK_run (by simp only [cmpI, Option.some.injEq, decide_eq_true_eq]; omega) t w
        · cases h
      · split at h
        · rename_i hc
          obtain ⟨rfl, rfl, rfl⟩ := hc
          obtain rfl := Option.some.inj h
          rw [h0]
          exact cmpK_run (by simp only [cmpI, Option.some.injEq, decide_eq_true_eq]; omega) t w
        · cases h
      · exact absurd rfl he
      · split at h
        · rename_i hc
          obtain ⟨rfl, rfl, rfl⟩ := hc
          obtain rfl := Option.some.inj h
          rw [h1]
          exact cmpK_run (by simp [cmpI]) t w
        · cases h
      · cases h
  der := fun _ _ _ _ _ h => (nomatch h)
  num := gNum_ok hk
  eql := kC_eql h1 hz hm hq
theorem kD_ok {m : Int} (hm : m ≠ 0) (h1 : ρ 1 = .int .u32 m) : kD.Ok ρ where
  fact := fun op i k c b h t w => by
    simp only [kD] at h
    split at h
    · split at h
      · rename_i hc
        obtain ⟨rfl, rfl, rfl⟩ := hc
        obtain rfl := Option.some.inj h
        rw [h1]
        exact cmpK_run (by simp [cmpI, hm]) t w
      · cases h
    · split at h
      · rename_i hc
        obtain ⟨rfl, rfl, rfl⟩ := hc
        obtain rfl := Option.some.inj h
        rw [h1]
        exact cmpK_run (by simp [cmpI, hm]) t w
      · cases h
    · cases h
  der := fun _ _ _ _ _ h => (nomatch h)
  num := fun i k h => by
    simp only [kD] at h
    split at h
    · rename_i hi
      obtain rfl := Option.some.inj h
      exact hk i hi.2
    · cases h
  eql := fun i k c b h => by
    simp only [kD] at h
    split at h
    · rename_i hc
      obtain ⟨rfl, rfl, rfl⟩ := hc
      obtain rfl := Option.some.inj h
      exact ⟨m, h1, by simpa using hm⟩
    · cases h
end
/-- The first of some cells that is not zero, or none. -/
theorem first_nonzero {ρ : Nat → Value} : ∀ (n : Nat), (∀ i, i < n → ∃ x, ρ (i + 2) = .int .u8 x) → (∀ i, i < n → ρ (i + 2) = .int .u8 0) ∨ ∃ q m, q < n ∧ m ≠ 0 ∧ ρ (q + 2) = .int .u8 m ∧ ∀ i, i < q → ρ (i + 2) = .int .u8 0
  | 0, _ => .inl fun i hi => by omega
  | n + 1, h => by
    rcases first_nonzero n (fun i hi => h i (by omega)) with h1 | ⟨q, m, h1, h2, h3, h4⟩
    · obtain ⟨x, hx⟩ := h n (by omega)
      by_cases e : x = 0
      · subst e
        refine .inl fun i hi => ?_
        rcases Nat.lt_or_ge i n with hl | hl
        · exact h1 i hl
        · rw [show i = n by omega]; exact hx
      · exact .inr ⟨n, x, by omega, e, hx, h1⟩
    · exact .inr ⟨q, m, by omega, h2, h3, h4⟩
end Go.Proofs.YtoehfadjpficiaaGreat.Ev
