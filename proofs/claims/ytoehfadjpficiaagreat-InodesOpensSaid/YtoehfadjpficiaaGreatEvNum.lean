/- Comparisons of an open number with constants. -/
import Derived.Test.YtoehfadjpficiaaGreatEvLaw
namespace Go.Proofs.YtoehfadjpficiaaGreat.Ev
open Go Go.RowKit
set_option linter.unusedVariables false
set_option linter.unusedSimpArgs false
def cmpI (x : Int) (op : BinOp) (c : Int) : Option Bool :=
  match op with
  | .eql => some (decide (x = c))
  | .neq => some (decide (x ≠ c))
  | .lss => some (decide (x < c))
  | .leq => some (decide (x ≤ c))
  | .gtr => some (decide (c < x))
  | .geq => some (decide (c ≤ x))
  | _ => none
theorem cmpI_run {P : Program} {x c : Int} {op : BinOp} {b : Bool} (h : cmpI x op c = some b) (t : TypeId) (w : World) : (binOp op t (.int .i64 x) (.int .i64 c)).run P w = .ok (.bool b) w := by
  cases op <;> simp only [cmpI, Option.some.injEq, reduceCtorEq] at h <;> subst h <;> simp [binOp, go_sem]
  · by_cases e : x = c <;> simp [e]
  · by_cases e : x = c <;> simp [e]
theorem cmpI_low {n c : Int} (hn : n < 1) (hc : 1 ≤ c) (op : BinOp) : cmpI 0 op c = cmpI n op c := by
  cases op <;> simp only [cmpI, Option.some.injEq, decide_eq_decide] <;> omega
theorem cmpI_high {n c : Int} (hn : 4096 < n) (hc : c ≤ 4096) (op : BinOp) : cmpI 4097 op c = cmpI n op c := by
  cases op <;> simp only [cmpI, Option.some.injEq, decide_eq_decide] <;> omega
theorem cmpI_eql {x c : Int} {b : Bool} (h : cmpI x .eql c = some b) : (x == c) = b := by
  have := Option.some.inj h
  rw [← this]
  by_cases e : x = c <;> simp [e]
/-- A number below one. -/
def kLow : Known := ⟨fun op i k c => if i = 0 ∧ k = .i64 ∧ 1 ≤ c then cmpI 0 op c else none, fun _ _ _ _ => none, fun _ => none, fun _ => none⟩
theorem kLow_ok {ρ : Nat → Value} {n : Int} (hn : n < 1) (h0 : ρ 0 = .int .i64 n) : kLow.Ok ρ where
  fact := fun op i k c b h t w => by
    simp only [kLow] at h
    split at h
    · rename_i hc
      obtain ⟨rfl, rfl, hc⟩ := hc
      rw [cmpI_low hn hc] at h
      rw [h0]
      exact cmpI_run h t w
    · cases h
  num := fun _ _ h => (nomatch h)
  der := fun _ _ _ _ _ h => (nomatch h)
  eql := fun i k c b h => by
    simp only [kLow] at h
    split at h
    · rename_i hc
      obtain ⟨rfl, rfl, hc⟩ := hc
      rw [cmpI_low hn hc] at h
      exact ⟨n, h0, cmpI_eql h⟩
    · cases h
/-- A number above the highest. -/
def kHigh : Known := ⟨fun op i k c => if i = 0 ∧ k = .i64 ∧ c ≤ 4096 then cmpI 4097 op c else none, fun _ _ _ _ => none, fun _ => none, fun _ => none⟩
theorem kHigh_ok {ρ : Nat → Value} {n : Int} (hn : 4096 < n) (h0 : ρ 0 = .int .i64 n) : kHigh.Ok ρ where
  fact := fun op i k c b h t w => by
    simp only [kHigh] at h
    split at h
    · rename_i hc
      obtain ⟨rfl, rfl, hc⟩ := hc
      rw [cmpI_high hn hc] at h
      rw [h0]
      exact cmpI_run h t w
    · cases h
  num := fun _ _ h => (nomatch h)
  der := fun _ _ _ _ _ h => (nomatch h)
  eql := fun i k c b h => by
    simp only [kHigh] at h
    split at h
    · rename_i hc
      obtain ⟨rfl, rfl, hc⟩ := hc
      rw [cmpI_high hn hc] at h
      exact ⟨n, h0, cmpI_eql h⟩
    · cases h
/-- A number from 3 to 4096: var 0 the number, var 300 one less, var 301 its fourth part; r what is left of it. -/
def kMid (r : Int) : Known := ⟨fun op i k c =>
    if i = 0 ∧ k = .i64 ∧ c ≤ 2 then cmpI 3 op c else
    match op with
    | .gtr => if i = 0 ∧ k = .i64 ∧ c = 4096 then some false else none
    | .geq => if i = 301 ∧ k = .i64 ∧ c = 0 then some true else none
    | _ => none,
  fun op i k c =>
    match op with
    | .sub => if i = 0 ∧ k = .i64 ∧ c = 1 then some (.var 300) else none
    | .quo => if i = 300 ∧ k = .i64 ∧ c = 4 then some (.var 301) else none
    | .rem => if i = 300 ∧ k = .i64 ∧ c = 4 then some (.int .i64 r) else none
    | _ => none,
  fun _ => none, fun _ => none⟩
theorem cmpI_mid {n c : Int} (hn : 3 ≤ n) (hc : c ≤ 2) (op : BinOp) : cmpI 3 op c = cmpI n op c := by
  cases op <;> simp only [cmpI, Option.some.injEq, decide_eq_decide] <;> omega
theorem sub_run {P : Program} {n : Int} (hn : 3 ≤ n ∧ n ≤ 4096) (t : TypeId) (w : World) : (binOp .sub t (.int .i64 n) (.int .i64 1)).run P w = .ok (.int .i64 (n - 1)) w := by
  have : IntKind.i64.wrap (n - 1) = n - 1 := by
    have e : (n - 1) % 2 ^ 64 = n - 1 := Int.emod_eq_of_lt (by omega) (by omega)
    simp only [IntKind.wrap, IntKind.bits, IntKind.signed, e]
    rw [if_neg]
    simp
    omega
  simp [binOp, go_sem, this]
theorem quo_run {P : Program} {m : Int} (hn : 0 ≤ m ∧ m ≤ 4096) (t : TypeId) (w : World) : (binOp .quo t (.int .i64 m) (.int .i64 4)).run P w = .ok (.int .i64 (m / 4)) w := by
  have hq : Int.tdiv m 4 = m / 4 := Int.tdiv_eq_ediv_of_nonneg hn.1
  have : IntKind.i64.wrap (m / 4) = m / 4 := by
    have e : (m / 4) % 2 ^ 64 = m / 4 := Int.emod_eq_of_lt (by omega) (by omega)
    simp only [IntKind.wrap, IntKind.bits, IntKind.signed, e]
    rw [if_neg]
    simp
    omega
  simp [binOp, go_sem, hq, this]
theorem rem_run {P : Program} {m : Int} (hn : 0 ≤ m ∧ m ≤ 4096) (t : TypeId) (w : World) : (binOp .rem t (.int .i64 m) (.int .i64 4)).run P w = .ok (.int .i64 (m % 4)) w := by
  have hq : Int.tmod m 4 = m % 4 := Int.tmod_eq_emod_of_nonneg hn.1
  have : IntKind.i64.wrap (m % 4) = m % 4 := by
    have e : (m % 4) % 2 ^ 64 = m % 4 := Int.emod_eq_of_lt (by omega) (by omega)
    simp only [IntKind.wrap, IntKind.bits, IntKind.signed, e]
    rw [if_neg]
    simp
    omega
  simp [binOp, go_sem, hq, this]
theorem kMid_ok {ρ : Nat → Value} {n : Int} (hn : 3 ≤ n ∧ n ≤ 4096) (h0 : ρ 0 = .int .i64 n) (h1 : ρ 300 = .int .i64 (n - 1)) (h2 : ρ 301 = .int .i64 ((n - 1) / 4)) : (kMid ((n - 1) % 4)).Ok ρ where
  fact := fun op i k c b h t w => by
    simp only [kMid] at h
    split at h
    · rename_i hc
      obtain ⟨rfl, rfl, hc⟩ := hc
      rw [cmpI_mid hn.1 hc] at h
      rw [h0]
      exact cmpI_run h t w
    · split at h
      · split at h
        · rename_i hc
          obtain ⟨rfl, rfl, rfl⟩ := hc
          obtain rfl := Option.some.inj h
          rw [h0]
          exact cmpI_run (by simp only [cmpI, Option.some.injEq, decide_eq_false_iff_not]; omega) t w
        · cases h
      · split at h
        · rename_i hc
          obtain ⟨rfl, rfl, rfl⟩ := hc
          obtain rfl := Option.some.inj h
          rw [h2]
          exact cmpI_run (by simp only [cmpI, Option.some.injEq, decide_eq_true_eq]; omega) t w
        · cases h
      · cases h
  num := fun _ _ h => (nomatch h)
  der := fun op i k c y h t w => by
    simp only [kMid] at h
    split at h
    · split at h
      · rename_i hc
        obtain ⟨rfl, rfl, rfl⟩ := hc
        obtain rfl := Option.some.inj h
        rw [h0]
        exact ⟨_, sub_run hn t w, fun E hE => ⟨by rw [hE, h1], rfl⟩⟩
      · cases h
    · split at h
      · rename_i hc
        obtain ⟨rfl, rfl, rfl⟩ := hc
        obtain rfl := Option.some.inj h
        rw [h1]
        exact ⟨_, quo_run (by omega) t w, fun E hE => ⟨by rw [hE, h2], rfl⟩⟩
      · cases h
    · split at h
      · rename_i hc
        obtain ⟨rfl, rfl, rfl⟩ := hc
        obtain rfl := Option.some.inj h
        rw [h1]
        exact ⟨_, rem_run (by omega) t w, fun E hE => rfl⟩
      · cases h
    · cases h
  eql := fun i k c b h => by
    simp only [kMid] at h
    split at h
    · rename_i hc
      obtain ⟨rfl, rfl, hc⟩ := hc
      rw [cmpI_mid hn.1 hc] at h
      exact ⟨n, h0, cmpI_eql h⟩
    · cases h
end Go.Proofs.YtoehfadjpficiaaGreat.Ev
