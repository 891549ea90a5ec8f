/- What is known of the inputs of InodesOpens: by cases. -/
import Derived.Test.YtoehfadjpficiaaGreatEvTree
import Derived.Test.YtoehfadjpficiaaGreatEvTrue
import Derived.IntWalk
namespace Go.Proofs.YtoehfadjpficiaaGreat.Ev
open Go Go.RowKit Go.WideShapes
set_option linter.unusedVariables false
set_option linter.unusedSimpArgs false
/-- What f tells of a number's comparisons is so. -/
def Good (x : Int) (f : BinOp → Int → Option Bool) : Prop := ∀ op c b, f op c = some b → cmpI x op c = some b
/-- A number from lo to hi. -/
def rng (lo hi : Int) (op : BinOp) (c : Int) : Option Bool :=
  if c < lo then cmpI lo op c else if hi < c then cmpI hi op c else
  match op with
  | .geq => if c = lo then some true else none
  | .lss => if c = lo then some false else none
  | .leq => if c = hi then some true else none
  | .gtr => if c = hi then some false else none
  | _ => none
theorem rng_good {lo hi x : Int} (h : lo ≤ x ∧ x ≤ hi) : Good x (rng lo hi) := by
  intro op c b hb
  unfold rng at hb
  split at hb
  · rw [← hb]
    cases op <;> simp only [cmpI, Option.some.injEq, decide_eq_decide] <;> omega
  · split at hb
    · rw [← hb]
      cases op <;> simp only [cmpI, Option.some.injEq, decide_eq_decide] <;> omega
    · split at hb <;> first
        | (split at hb
           · obtain rfl := Option.some.inj hb
             simp only [cmpI, Option.some.injEq, decide_eq_true_eq, decide_eq_false_iff_not]
             omega
           · cases hb)
        | cases hb
/-- A height: below 0 (0), above 6 (1), from 0 to 6 but not h. -/
def hFact (ht : Nat) (h : Int) (op : BinOp) (c : Int) : Option Bool :=
  match ht with
  | 0 => if 0 ≤ c then cmpI (-1) op c else none
  | 1 => if c ≤ 6 then cmpI 7 op c else none
  | _ =>
    match op with
    | .eql => if c = h then some false else none
    | .neq => if c = h then some true else none
    | op => rng 0 6 op c
def HtIs (ht : Nat) (h x : Int) : Prop :=
  match ht with
  | 0 => x < 0
  | 1 => 6 < x
  | _ => 0 ≤ x ∧ x ≤ 6 ∧ x ≠ h
theorem hFact_good : ∀ {ht : Nat} {h x : Int}, HtIs ht h x → Good x (hFact ht h)
  | 0, h, x, hx => by
    intro op c b hb
    have hx : x < 0 := hx
    simp only [hFact] at hb
    split at hb
    · rw [← hb]
      cases op <;> simp only [cmpI, Option.some.injEq, decide_eq_decide] <;> omega
    · cases hb
  | 1, h, x, hx => by
    intro op c b hb
    have hx : 6 < x := hx
    simp only [hFact] at hb
    split at hb
    · rw [← hb]
      cases op <;> simp only [cmpI, Option.some.injEq, decide_eq_decide] <;> omega
    · cases hb
  | n + 2, h, x, hx => by
    intro op c b hb
    have hx : 0 ≤ x ∧ x ≤ 6 ∧ x ≠ h := hx
    simp only [hFact] at hb
    split at hb
    · split at hb
      · obtain rfl := Option.some.inj hb
        simp only [cmpI, Option.some.injEq, decide_eq_false_iff_not]
        omega
      · cases hb
    · split at hb
      · obtain rfl := Option.some.inj hb
        simp only [cmpI, Option.some.injEq, decide_eq_true_eq]
        omega
      · cases hb
    · exact rng_good ⟨hx.1, hx.2.1⟩ _ c b hb
def aFact (at0 : Bool) (op : BinOp) (c : Int) : Option Bool :=
  if c = 0 then
    match op with
    | .eql => some at0
    | .neq => some (!at0)
    | _ => none
  else none
theorem aFact_good {at0 : Bool} {x : Int} (hx : (x == 0) = at0) : Good x (aFact at0) := by
  intro op c b hb
  unfold aFact at hb
  split at hb
  · rename_i hc
    subst hc
    split at hb
    · obtain rfl := Option.some.inj hb
      rw [← hx]
      by_cases e : x = 0 <;> simp [cmpI, e]
    · obtain rfl := Option.some.inj hb
      rw [← hx]
      by_cases e : x = 0 <;> simp [cmpI, e]
    · cases hb
  · cases hb
def oNum (i : Nat) : Option IntKind := if i < 34 then some (gKind i) else if i = 34 ∨ i = 40 ∨ i = 41 ∨ i = 42 then some .i64 else none
/-- var 0 the height, var 1 the place, var 34 the highest number, var 41 its leaves. -/
def kO (ht : Nat) (h lo hi l1 l2 : Int) (at0 dv : Bool) : Known := ⟨fun op i k c =>
    if i = 0 ∧ k = .i64 then hFact ht h op c else if i = 1 ∧ k = .u32 then aFact at0 op c else if i = 34 ∧ k = .i64 then rng lo hi op c else if i = 41 ∧ k = .i64 ∧ dv = true then rng l1 l2 op c else none,
  fun op i k c =>
    if dv = true then
      match op with
      | .add => if i = 34 ∧ k = .i64 ∧ c = 3 then some (.var 40) else if i = 34 ∧ k = .i64 ∧ c = 4 then some (.var 42) else none
      | .sub => if i = 42 ∧ k = .i64 ∧ c = 1 then some (.var 40) else none
      | .quo => if i = 40 ∧ k = .i64 ∧ c = 4 then some (.var 41) else none
      | _ => none
    else none,
  oNum, fun _ => none⟩
theorem arith_run {P : Program} (t : TypeId) (w : World) (x : Int) (h : 0 ≤ x ∧ x ≤ 10000) :
    (binOp .add t (.int .i64 x) (.int .i64 3)).run P w = .ok (.int .i64 (x + 3)) w ∧ (binOp .add t (.int .i64 x) (.int .i64 4)).run P w = .ok (.int .i64 (x + 4)) w ∧ (binOp .sub t (.int .i64 (x + 4)) (.int .i64 1)).run P w = .ok (.int .i64 (x + 3)) w ∧ (binOp .quo t (.int .i64 (x + 3)) (.int .i64 4)).run P w = .ok (.int .i64 ((x + 3) / 4)) w := by
  have h1 : IntKind.i64.wrap (x + 3) = x + 3 := IntWalk.i64_in _ (by omega)
  have h2 : IntKind.i64.wrap (x + 4) = x + 4 := IntWalk.i64_in _ (by omega)
  have h3 : IntKind.i64.wrap (x + 4 - 1) = x + 3 := (IntWalk.i64_in _ (by omega)).trans (by omega)
  have hq : Int.tdiv (x + 3) 4 = (x + 3) / 4 := Int.tdiv_eq_ediv_of_nonneg (by omega)
  have h4 : IntKind.i64.wrap ((x + 3) / 4) = (x + 3) / 4 := IntWalk.i64_in _ (by omega)
  refine ⟨by simp [binOp, go_sem, h1], by simp [binOp, go_sem, h2], by simp [binOp, go_sem, h3], by simp [binOp, go_sem, hq, h4]⟩
theorem kO_ok {ρ : Nat → Value} {ht : Nat} {h lo hi l1 l2 : Int} {at0 dv : Bool} (hk : ∀ i, i < 34 → ∃ x, ρ i = .int (gKind i) x) {H a m : Int} (h0 : ρ 0 = .int .i64 H) (hH : HtIs ht h H) (h1 : ρ 1 = .int .u32 a) (ha : (a == 0) = at0)
    (h34 : ρ 34 = .int .i64 m) (hm : lo ≤ m ∧ m ≤ hi) (h40 : ρ 40 = .int .i64 (m + 3)) (h42 : ρ 42 = .int .i64 (m + 4)) (h41 : ρ 41 = .int .i64 ((m + 3) / 4)) (hl : dv = true → l1 ≤ (m + 3) / 4 ∧ (m + 3) / 4 ≤ l2) (hdv : dv = true → 0 ≤ m ∧ m ≤ 4096) : (kO ht h lo hi l1 l2 at0 dv).Ok ρ := by
  have key : ∀ op i k c b, (kO ht h lo hi l1 l2 at0 dv).fact op i k c = some b → ∃ x, ρ i = .int k x ∧ cmpI x op c = some b := fun op i k c b hb => by
    simp only [kO] at hb
    split at hb
    · rename_i hi
      obtain ⟨rfl, rfl⟩ := hi
      exact ⟨_, h0, hFact_good hH _ _ _ hb⟩
    · split at hb
      · rename_i hi
        obtain ⟨rfl, rfl⟩ := hi
        exact ⟨_, h1, aFact_good ha _ _ _ hb⟩
      · split at hb
        · rename_i hi
          obtain ⟨rfl, rfl⟩ := hi
          exact ⟨_, h34, rng_good hm _ _ _ hb⟩
        · split at hb
          · rename_i hi
            obtain ⟨rfl, rfl, hd⟩ := hi
            exact ⟨_, h41, rng_good (hl hd) _ _ _ hb⟩
          · cases hb
  exact {
    fact := fun op i k c b hb t w => by
      obtain ⟨x, hx, hc⟩ := key op i k c b hb
      rw [hx]
      exact cmpK_run hc t w
    eql := fun i k c b hb => by
      obtain ⟨x, hx, hc⟩ := key .eql i k c b hb
      exact ⟨x, hx, cmpI_eql hc⟩
    num := fun i k hn => by
      simp only [kO, oNum] at hn
      split at hn
      · rename_i hi
        obtain rfl := Option.some.inj hn
        exact hk i hi
      · split at hn
        · rename_i hi
          obtain rfl := Option.some.inj hn
          rcases hi with rfl | rfl | rfl | rfl
          · exact ⟨_, h34⟩
          · exact ⟨_, h40⟩
          · exact ⟨_, h41⟩
          · exact ⟨_, h42⟩
        · cases hn
    der := fun op i k c y hy t w => by
      simp only [kO] at hy
      split at hy
      · rename_i hd
        obtain ⟨a1, a2, a3, a4⟩ := arith_run (P := Tryz.prog) t w m (by have := hdv hd; omega)
        split at hy
        · split at hy
          · rename_i hi
            obtain ⟨rfl, rfl, rfl⟩ := hi
            obtain rfl := Option.some.inj hy
            rw [h34]
            exact ⟨_, a1, fun E hE => ⟨by rw [hE, h40], rfl⟩⟩
          · split at hy
            · rename_i hi
              obtain ⟨rfl, rfl, rfl⟩ := hi
              obtain rfl := Option.some.inj hy
              rw [h34]
              exact ⟨_, a2, fun E hE => ⟨by rw [hE, h42], rfl⟩⟩
            · cases hy
        · split at hy
          · rename_i hi
            obtain ⟨rfl, rfl, rfl⟩ := hi
            obtain rfl := Option.some.inj hy
            rw [h42]
            exact ⟨_, a3, fun E hE => ⟨by rw [hE, h40], rfl⟩⟩
          · cases hy
        · split at hy
          · rename_i hi
            obtain ⟨rfl, rfl, rfl⟩ := hi
            obtain rfl := Option.some.inj hy
            rw [h40]
            exact ⟨_, a4, fun E hE => ⟨by rw [hE, h41], rfl⟩⟩
          · cases hy
        · cases hy
      · cases hy }
end Go.Proofs.YtoehfadjpficiaaGreat.Ev
