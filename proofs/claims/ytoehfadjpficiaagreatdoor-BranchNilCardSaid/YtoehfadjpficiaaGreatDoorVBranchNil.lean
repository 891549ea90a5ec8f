/- The statement BranchNil evaluated: by the kind of what is done, and whether there are busy inodes. -/
import Derived.Test.YtoehfadjpficiaaGreatDoorVBranch
import Derived.Test.YtoehfadjpficiaaGreatDoorEvNum
import Derived.IntWalk
namespace Go.Proofs.YtoehfadjpficiaaGreatDoor.Ev
open Go Go.RowKit
set_option linter.unusedVariables false
set_option linter.unusedSimpArgs false
set_option maxRecDepth 100000
/-- var 0 the kind, var 6 what is left of it by 8, var 7 that and 8; k what is left of this by 8; var 4 a slice, z its length (var 5, which is not 0, or 0). -/
def kBr (k : Int) (z : SV) : Known := ⟨fun op i q c =>
  match op with
  | .eql => if i = 5 ∧ q = .i64 ∧ c = 0 then some false else none
  | _ => none,
  fun op i q c =>
  match op with
  | .rem => if i = 0 ∧ q = .i64 ∧ c = 8 then some (.var 6) else if i = 7 ∧ q = .i64 ∧ c = 8 then some (.int .i64 k) else none
  | .add => if i = 6 ∧ q = .i64 ∧ c = 8 then some (.var 7) else none
  | _ => none, fun _ => none, fun i => if i = 4 then some z else none⟩
theorem rem8_run {P : Program} {m : Int} (hm : -9223372036854775808 ≤ m ∧ m ≤ 9223372036854775807) (t : TypeId) (w : World) : (binOp .rem t (.int .i64 m) (.int .i64 8)).run P w = .ok (.int .i64 (Int.tmod m 8)) w := by
  have h1 : Int.tmod m 8 < 8 := Int.tmod_lt_of_pos m (by decide)
  have h2 : -8 < Int.tmod m 8 := by
    have h3 := Int.tmod_add_mul_tdiv m 8
    have := Int.lt_tmod_of_pos m (show (0 : Int) < 8 by decide)
    omega
  have : IntKind.i64.wrap (Int.tmod m 8) = Int.tmod m 8 := IntWalk.i64_in _ (by omega)
  simp [binOp, go_sem, this]
theorem add8_run {P : Program} {m : Int} (hm : -8 < m ∧ m < 8) (t : TypeId) (w : World) : (binOp .add t (.int .i64 m) (.int .i64 8)).run P w = .ok (.int .i64 (m + 8)) w := by
  have : IntKind.i64.wrap (m + 8) = m + 8 := IntWalk.i64_in _ (by omega)
  simp [binOp, go_sem, this]
theorem kBr_ok {ρ : Nat → Value} {K : Int} (hK : -9223372036854775808 ≤ K ∧ K ≤ 9223372036854775807) (h0 : ρ 0 = .int .i64 K) (h6 : ρ 6 = .int .i64 (Int.tmod K 8)) (h7 : ρ 7 = .int .i64 (Int.tmod K 8 + 8)) {z : SV} {a : Option Addr} {l c : Nat} (h4 : ρ 4 = .slice a l c)
    (h5 : ρ 5 = .int .i64 (if l = 0 then 1 else l)) (hz : ∀ E : Env, E.ρ = ρ → z.rel E (.int .i64 (l : Nat))) : (kBr (Int.tmod (Int.tmod K 8 + 8) 8) z).Ok ρ := by
  have h1 : Int.tmod K 8 < 8 := Int.tmod_lt_of_pos K (by decide)
  have h2 : -8 < Int.tmod K 8 := by
    have := Int.lt_tmod_of_pos K (show (0 : Int) < 8 by decide)
    omega
  have hl : (if l = 0 then (1 : Int) else (l : Int)) ≠ 0 := by
    split <;> omega
  exact {
    fact := fun op i q c b h t w => by
      simp only [kBr] at h
      split at h
      · split at h
        · rename_i hc
          obtain ⟨rfl, rfl, rfl⟩ := hc
          obtain rfl := Option.some.inj h
          rw [h5]
          exact cmpI_run (by simp only [cmpI, Option.some.injEq, decide_eq_false_iff_not]; exact hl) t w
        · cases h
      · cases h
    eql := fun i q c b h => by
      simp only [kBr] at h
      split at h
      · rename_i hc
        obtain ⟨rfl, rfl, rfl⟩ := hc
        obtain rfl := Option.some.inj h
        exact ⟨_, h5, by simpa using hl⟩
      · cases h
    num := fun _ _ h => (nomatch h)
    len := fun i y h => by
      simp only [kBr] at h
      split at h
      · rename_i hc
        subst hc
        obtain rfl := Option.some.inj h
        exact ⟨a, l, c, h4, hz⟩
      · cases h
    der := fun op i q c y h t w => by
      simp only [kBr] at h
      split at h
      · split at h
        · rename_i hc
          obtain ⟨rfl, rfl, rfl⟩ := hc
          obtain rfl := Option.some.inj h
          rw [h0]
          exact ⟨_, rem8_run hK t w, fun E hE => ⟨by rw [hE, h6], rfl⟩⟩
        · split at h
          · rename_i hc
            obtain ⟨rfl, rfl, rfl⟩ := hc
            obtain rfl := Option.some.inj h
            rw [h7]
            exact ⟨_, rem8_run (by omega) t w, fun E hE => rfl⟩
          · cases h
      · split at h
        · rename_i hc
          obtain ⟨rfl, rfl, rfl⟩ := hc
          obtain rfl := Option.some.inj h
          rw [h6]
          exact ⟨_, add8_run ⟨h2, h1⟩ t w, fun E hE => ⟨by rw [hE, h7], rfl⟩⟩
        · cases h
      · cases h }
def brArgs : List EV := [.a (.agg ((List.range' 0 5).map SV.var))]
theorem evBr0s (ρ : Nat → Value) : ((List.range 8).all fun k => isTrue (evCall (ctx (kBr (k : Nat) (.int .i64 0)) ρ) funT.get sum22 100000 1000 4 brArgs .nil 0)) = true := by kernel_rfl
theorem evBr1s (ρ : Nat → Value) : ((List.range 8).all fun k => isTrue (evCall (ctx (kBr (k : Nat) (.var 5)) ρ) funT.get sum22 100000 1000 4 brArgs .nil 0)) = true := by kernel_rfl
theorem evBr0 (ρ : Nat → Value) (k : Nat) (hk : k < 8) : isTrue (evCall (ctx (kBr (k : Nat) (.int .i64 0)) ρ) funT.get sum22 100000 1000 4 brArgs .nil 0) = true := List.all_eq_true.1 (evBr0s ρ) k (List.mem_range.2 hk)
theorem evBr1 (ρ : Nat → Value) (k : Nat) (hk : k < 8) : isTrue (evCall (ctx (kBr (k : Nat) (.var 5)) ρ) funT.get sum22 100000 1000 4 brArgs .nil 0) = true := List.all_eq_true.1 (evBr1s ρ) k (List.mem_range.2 hk)
end Go.Proofs.YtoehfadjpficiaaGreatDoor.Ev
