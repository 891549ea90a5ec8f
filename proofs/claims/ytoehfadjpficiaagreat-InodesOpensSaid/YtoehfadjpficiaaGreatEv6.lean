/- The evaluator: slices of slices, small builtins. -/
import Derived.Test.YtoehfadjpficiaaGreatEv5
namespace Go.Proofs.YtoehfadjpficiaaGreat.Ev
open Go Go.RowKit
set_option linter.unusedVariables false
set_option linter.unusedSimpArgs false

/-! ### Slices of slices -/
def bound : Option EV → Option (Option Nat)
  | none => some none
  | some (.a (.s (.int _ n))) => if 0 ≤ n then some (some n.toNat) else none
  | _ => none
def relO (E : Env) : Option EV → Option Value → Prop
  | none, none => True
  | some x, some v => x.rel E v
  | _, _ => False
theorem bound_run {P : Program} {E : Env} {x : Option EV} {v : Option Value} {b : Option Nat} (hb : bound x = some b) (hx : relO E x v) : (v = none ∧ b = none) ∨ ∃ k n, v = some (.int k n) ∧ 0 ≤ n ∧ b = some n.toNat := by
  unfold bound at hb
  split at hb
  · obtain rfl := Option.some.inj hb
    cases v with
    | none => exact .inl ⟨rfl, rfl⟩
    | some v => exact hx.elim
  · rename_i k n
    split at hb
    · rename_i h0
      obtain rfl := Option.some.inj hb
      cases v with
      | none => exact hx.elim
      | some v => obtain rfl := hx; exact .inr ⟨k, n, rfl, h0, rfl⟩
    · cases hb
  · cases hb
theorem run_sliceBound {P : Program} {w : World} {k : IntKind} {n : Int} {y : Nat} {code : BoundsCode} (h0 : 0 ≤ n) (h1 : n.toNat ≤ y) : (Instr.sliceBound (.int k n) y code).run P w = .ok n.toNat w := by
  simp only [Instr.sliceBound, asIntOf, Sem.run_bind, Sem.run_pure, Result.andThen_ok]
  rw [if_pos ⟨h0, by omega⟩]
  rfl
theorem run_sliceBounds {P : Program} {E : Env} {w : World} {isS : Bool} {len cap : Nat} {lo hi mx : Option EV} {lv hv mv : Option Value} {bl bh bm : Option Nat} (hl : bound lo = some bl) (hh : bound hi = some bh) (hm : bound mx = some bm)
    (rl : relO E lo lv) (rh : relO E hi hv) (rm : relO E mx mv) (h1 : bm.getD cap ≤ cap) (h2 : bh.getD len ≤ bm.getD cap) (h3 : bl.getD 0 ≤ bh.getD len) (h4 : bm.isSome = true → bh.isSome = true) :
    (Instr.sliceBounds isS len cap lv hv mv).run P w = .ok (bl.getD 0, bh.getD len, bm.getD cap) w := by
  rcases bound_run (P := P) hl rl with ⟨rfl, rfl⟩ | ⟨kl, nl, rfl, l0, rfl⟩ <;> rcases bound_run (P := P) hh rh with ⟨rfl, rfl⟩ | ⟨kh, nh, rfl, g0, rfl⟩ <;> rcases bound_run (P := P) hm rm with ⟨rfl, rfl⟩ | ⟨km, nm, rfl, m0, rfl⟩ <;>
    simp only [Option.getD_some, Option.getD_none, Option.isSome_some, Option.isSome_none] at h1 h2 h3 h4 <;>
    first
      | (exfalso; simp at h4; done)
      | (simp only [Instr.sliceBounds, Sem.run_bind, Sem.run_pure, Result.andThen_ok, run_sliceBound l0 h3, run_sliceBound g0 h2, run_sliceBound m0 h1, Option.getD_some, Option.getD_none]; done)
      | (simp only [Instr.sliceBounds, Sem.run_bind, Sem.run_pure, Result.andThen_ok, run_sliceBound g0 h2, run_sliceBound m0 h1, Option.getD_some, Option.getD_none]; done)
      | (simp only [Instr.sliceBounds, Sem.run_bind, Sem.run_pure, Result.andThen_ok, run_sliceBound l0 h3, run_sliceBound g0 h2, Option.getD_some, Option.getD_none]; done)
      | (simp only [Instr.sliceBounds, Sem.run_bind, Sem.run_pure, Result.andThen_ok, run_sliceBound l0 h3, Option.getD_some, Option.getD_none]; done)
      | (simp only [Instr.sliceBounds, Sem.run_bind, Sem.run_pure, Result.andThen_ok, run_sliceBound g0 h2, Option.getD_some, Option.getD_none]; done)
      | (simp only [Instr.sliceBounds, Sem.run_bind, Sem.run_pure, Result.andThen_ok, Option.getD_some, Option.getD_none]; done)

def evSlice (C : Ctx) (t : TypeId) (x : EV) (lo hi mx : Option EV) : Option EV :=
  (C.tab t).bind fun e => (bound lo).bind fun bl => (bound hi).bind fun bh => (bound mx).bind fun bm =>
    if bm.isSome = true ∧ bh.isSome = false then none else
    match e.und, x with
    | .string, .a (.s (.str s)) => if bm = none ∧ bl.getD 0 ≤ bh.getD s.size ∧ bh.getD s.size ≤ s.size then some (.a (.s (.str (s.extract (bl.getD 0) (bh.getD s.size))))) else none
    | .array n el, .a (.s (.ptr i o)) => (C.tab el).bind fun ee =>
      if bm.getD n ≤ n ∧ bh.getD n ≤ bm.getD n ∧ bl.getD 0 ≤ bh.getD n then
        some (.a (.s (.sl i (if bm.getD n = bl.getD 0 then o else o + bl.getD 0 * ee.size) (bh.getD n - bl.getD 0) (some (bm.getD n - bl.getD 0)) 0)))
      else none
    | .slice el, .a (.s (.sl i o len (some c) _)) => (C.tab el).bind fun ee =>
      if bm.getD c ≤ c ∧ bh.getD len ≤ bm.getD c ∧ bl.getD 0 ≤ bh.getD len then
        some (.a (.s (.sl i (if bm.getD c = bl.getD 0 then o else o + bl.getD 0 * ee.size) (bh.getD len - bl.getD 0) (some (bm.getD c - bl.getD 0)) 0)))
      else none
    | .slice el, .a (.s (.sl i o len none k)) => (C.tab el).bind fun ee =>
      match bm with
      | some m => if m ≤ len ∧ bh.getD len ≤ m ∧ bl.getD 0 ≤ bh.getD len then some (.a (.s (.sl i (if m = bl.getD 0 then o else o + bl.getD 0 * ee.size) (bh.getD len - bl.getD 0) (some (m - bl.getD 0)) 0))) else none
      | none =>
        if bh.getD len ≤ len ∧ bl.getD 0 ≤ bh.getD len then
          if bl.getD 0 < len ∨ bl.getD 0 = 0 then some (.a (.s (.sl i (o + bl.getD 0 * ee.size) (bh.getD len - bl.getD 0) none (k + bl.getD 0)))) else some (.a (.s (.slz none)))
        else none
    | .slice el, .a (.s .nils) => (C.tab el).bind fun _ => if bm.getD 0 = 0 ∧ bh.getD 0 = 0 ∧ bl.getD 0 = 0 then some (.a (.s .nils)) else none
    | .slice el, .a (.s (.slz c)) => (C.tab el).bind fun _ =>
      match bm with
      | some m => if m = 0 ∧ bh.getD 0 = 0 ∧ bl.getD 0 = 0 then some (.a (.s (.slz (some 0)))) else none
      | none => if bh.getD 0 = 0 ∧ bl.getD 0 = 0 then some (.a (.s (.slz c))) else none
    | _, _ => none

theorem evSlice_run {C : Ctx} (hC : C.Ok) {E : Env} {w : World} {t : TypeId} {x r : EV} {lo hi mx : Option EV} {v : Value} {lv hv mv : Option Value} (he : evSlice C t x lo hi mx = some r) (hx : x.rel E v) (rl : relO E lo lv) (rh : relO E hi hv) (rm : relO E mx mv) :
    Reads C E w (Instr.sliceAt t v lv hv mv) r := by
  replace he := Option.bind_eq_some_iff.1 he
  obtain ⟨e, h1, he⟩ := he
  replace he := Option.bind_eq_some_iff.1 he
  obtain ⟨bl, hbl, he⟩ := he
  replace he := Option.bind_eq_some_iff.1 he
  obtain ⟨bh, hbh, he⟩ := he
  replace he := Option.bind_eq_some_iff.1 he
  obtain ⟨bm, hbm, he⟩ := he
  have hru := (hC.tab t e h1).run_und w
  split at he
  · cases he
  rename_i hmh
  have h4 : bm.isSome = true → bh.isSome = true := fun h => by
    cases hb : bh.isSome with
    | true => rfl
    | false => exact absurd ⟨h, hb⟩ hmh
  split at he
  · rename_i s hu
    rw [hu] at hru
    split at he
    · rename_i hn
      obtain ⟨rfl, n1, n2⟩ := hn
      obtain rfl := Option.some.inj he
      obtain rfl := hx
      have hb := run_sliceBounds (P := C.P) (w := w) (isS := false) (len := s.size) (cap := s.size) (mx := none) (mv := none) (bm := none) hbl hbh rfl rl rh trivial (Nat.le_refl _) n2 n1 (fun h => by cases h)
      refine ⟨_, ?_, rfl⟩
      have hmv : mv.isSome = false := by
        rcases bound_run (P := C.P) hbm rm with ⟨rfl, _⟩ | ⟨_, _, _, _, h⟩
        · rfl
        · cases h
      simp only [Instr.sliceAt, Sem.run_bind, hru, Result.andThen_ok, Instr.slice, hmv, Bool.false_eq_true, if_false, Sem.run_pure, hb]
    · cases he
  · rename_i n el i o hu
    rw [hu] at hru
    replace he := Option.bind_eq_some_iff.1 he
    obtain ⟨ee, h2, he⟩ := he
    split at he
    · rename_i hn
      obtain ⟨n1, n2, n3⟩ := hn
      obtain rfl := Option.some.inj he
      obtain ⟨p, hp, rfl⟩ := hx
      have hb := run_sliceBounds (P := C.P) (w := w) (isS := false) (len := n) (cap := n) hbl hbh hbm rl rh rm n1 n2 n3 h4
      refine ⟨.slice (some ⟨p.blk, p.dl + (if bm.getD n = bl.getD 0 then o else o + bl.getD 0 * ee.size), none⟩) (bh.getD n - bl.getD 0) (bm.getD n - bl.getD 0), ?_, p, hp, by omega, rfl⟩
      simp only [Instr.sliceAt, Sem.run_bind, hru, Result.andThen_ok, Instr.sureAddr, Sem.run_pure, hb, (hC.tab _ _ h2).run_size w]
      split
      · rfl
      · rw [add_eq, Nat.add_assoc]
    · cases he
  · rename_i el i o len c q hu
    rw [hu] at hru
    replace he := Option.bind_eq_some_iff.1 he
    obtain ⟨ee, h2, he⟩ := he
    split at he
    · rename_i hn
      obtain ⟨n1, n2, n3⟩ := hn
      obtain rfl := Option.some.inj he
      obtain ⟨p, hp, hlc, rfl⟩ := hx
      have hb := run_sliceBounds (P := C.P) (w := w) (isS := true) (len := len) (cap := c) hbl hbh hbm rl rh rm n1 n2 n3 h4
      refine ⟨.slice (some ⟨p.blk, p.dl + (if bm.getD c = bl.getD 0 then o else o + bl.getD 0 * ee.size), none⟩) (bh.getD len - bl.getD 0) (bm.getD c - bl.getD 0), ?_, p, hp, by omega, rfl⟩
      simp only [Instr.sliceAt, Sem.run_bind, hru, Result.andThen_ok, Instr.slice, Sem.run_pure, hb, (hC.tab _ _ h2).run_size w]
      split
      · rfl
      · simp only [Option.map_some]
        rw [add_eq, Nat.add_assoc]
    · cases he
  · rename_i el i o len k hu
    rw [hu] at hru
    replace he := Option.bind_eq_some_iff.1 he
    obtain ⟨ee, h2, he⟩ := he
    obtain ⟨p, hp, hlc, rfl⟩ := hx
    split at he
    · rename_i m
      split at he
      · rename_i hn
        obtain ⟨n1, n2, n3⟩ := hn
        obtain rfl := Option.some.inj he
        have hb := run_sliceBounds (P := C.P) (w := w) (isS := true) (len := len) (cap := p.cap - k) hbl hbh hbm rl rh rm (by show m ≤ _; omega) n2 n3 h4
        refine ⟨.slice (some ⟨p.blk, p.dl + (if m = bl.getD 0 then o else o + bl.getD 0 * ee.size), none⟩) (bh.getD len - bl.getD 0) (m - bl.getD 0), ?_, p, hp, by omega, rfl⟩
        simp only [Instr.sliceAt, Sem.run_bind, hru, Result.andThen_ok, Instr.slice, Sem.run_pure, hb, (hC.tab _ _ h2).run_size w, Option.getD_some]
        split
        · rfl
        · simp only [Option.map_some]
          rw [add_eq, Nat.add_assoc]
      · cases he
    · split at he
      · rename_i hn
        obtain ⟨n1, n2⟩ := hn
        have hb := run_sliceBounds (P := C.P) (w := w) (isS := true) (len := len) (cap := p.cap - k) hbl hbh hbm rl rh rm (Nat.le_refl _) (by show _ ≤ p.cap - k; omega) n2 h4
        split at he
        · rename_i hq
          obtain rfl := Option.some.inj he
          refine ⟨.slice (some ⟨p.blk, p.dl + (o + bl.getD 0 * ee.size), none⟩) (bh.getD len - bl.getD 0) (p.cap - (k + bl.getD 0)), ?_, p, hp, by omega, rfl⟩
          simp only [Instr.sliceAt, Sem.run_bind, hru, Result.andThen_ok, Instr.slice, Sem.run_pure, hb, (hC.tab _ _ h2).run_size w, Option.getD_none]
          rw [show p.cap - k - bl.getD 0 = p.cap - (k + bl.getD 0) by omega]
          split
          · rename_i hcap
            have hz : bl.getD 0 = 0 := by omega
            rw [hz, Nat.zero_mul, Nat.add_zero]
            rfl
          · simp only [Option.map_some]
            rw [add_eq, Nat.add_assoc]
        · rename_i hq
          obtain rfl := Option.some.inj he
          have hz : bh.getD len - bl.getD 0 = 0 := by omega
          refine ⟨_, ?_, if p.cap - k = bl.getD 0 then ⟨p.blk, p.dl + o, none⟩ else (⟨p.blk, p.dl + o, none⟩ : Addr).add (bl.getD 0 * ee.size), p.cap - k - bl.getD 0, rfl⟩
          simp only [Instr.sliceAt, Sem.run_bind, hru, Result.andThen_ok, Instr.slice, Sem.run_pure, hb, (hC.tab _ _ h2).run_size w, Option.getD_none, hz]
          split <;> rfl
      · cases he
  · rename_i el hu
    rw [hu] at hru
    replace he := Option.bind_eq_some_iff.1 he
    obtain ⟨ee, h2, he⟩ := he
    split at he
    · rename_i hn
      obtain ⟨n1, n2, n3⟩ := hn
      obtain rfl := Option.some.inj he
      obtain rfl := hx
      have hb := run_sliceBounds (P := C.P) (w := w) (isS := true) (len := 0) (cap := 0) hbl hbh hbm rl rh rm (by omega) (by omega) (by omega) h4
      refine ⟨_, ?_, rfl⟩
      simp only [Instr.sliceAt, Sem.run_bind, hru, Result.andThen_ok, Instr.slice, Sem.run_pure, hb, (hC.tab _ _ h2).run_size w, n1, n2, n3, if_true, Nat.sub_self]
    · cases he
  · rename_i el c hu
    rw [hu] at hru
    replace he := Option.bind_eq_some_iff.1 he
    obtain ⟨ee, h2, he⟩ := he
    obtain ⟨a, cp, rfl⟩ := SV.slz_form hx
    split at he
    · rename_i m
      split at he
      · rename_i hn
        obtain ⟨rfl, n2, n3⟩ := hn
        obtain rfl := Option.some.inj he
        have hb := run_sliceBounds (P := C.P) (w := w) (isS := true) (len := 0) (cap := cp) hbl hbh hbm rl rh rm (by show 0 ≤ _; omega) (by show _ ≤ 0; omega) (by omega) h4
        refine ⟨_, ?_, a, rfl⟩
        simp only [Instr.sliceAt, Sem.run_bind, hru, Result.andThen_ok, Instr.slice, Sem.run_pure, hb, (hC.tab _ _ h2).run_size w, n2, n3, Option.getD_some, if_true, Nat.sub_self]
      · cases he
    · split at he
      · rename_i hn
        obtain ⟨n2, n3⟩ := hn
        obtain rfl := Option.some.inj he
        have hb := run_sliceBounds (P := C.P) (w := w) (isS := true) (len := 0) (cap := cp) hbl hbh hbm rl rh rm (Nat.le_refl _) (by show _ ≤ cp; omega) (by omega) h4
        refine ⟨.slice (some a) 0 cp, ?_, hx⟩
        simp only [Instr.sliceAt, Sem.run_bind, hru, Result.andThen_ok, Instr.slice, Sem.run_pure, hb, (hC.tab _ _ h2).run_size w, n2, n3, Option.getD_none, Nat.sub_self, Nat.zero_mul, Nat.sub_zero]
        split
        · rfl
        · rfl
      · cases he
  · cases he

end Go.Proofs.YtoehfadjpficiaaGreat.Ev
