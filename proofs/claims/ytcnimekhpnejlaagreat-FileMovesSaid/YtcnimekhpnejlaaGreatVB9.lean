/- Texts of this seat joined into one: I6, K0, K1, K2, K3, K4, F1, F2, F3T, I7T, I7, I8T, I8, I9, J0, K5. -/
import Derived.Test.YtcnimekhpnejlaaGreatVB7
import Derived.Test.YtcnimekhpnejlaaGreatVB8
import Derived.Test.YtcnimekhpnejlaaGreatVB4
import Derived.Lib.Index
import Derived.Test.YtcnimekhpnejlaaGreatVB5
import Derived.WalkKit
import Derived.Lib.FieldsU

/- Inodes: Resize. -/
namespace Go.Proofs.YtcnimekhpnejlaaGreat.Ev
open Go Go.RowKit
set_option linter.unusedVariables false
set_option linter.unusedSimpArgs false
set_option maxRecDepth 10000

theorem rsP_ev (ρ : Rho) : ways (fun pc => (evCall (ctx rules ρ pc) funT.get (sumH pc) 100000 1000 35 [.a (.s (.ptr 0 0)), .a (.s (.xi .i64 (.va 1))), .a (.s (.xi .i64 (.va 7))), .a (.s (.xi .u64 (.va 8)))] inoM 4).map (view [0, 1, 2, 3])) rsPT [] = some rsPL := by kernel_rfl

/-- An inode of another size. -/
def resN (N : Nd) (s : Nat) (st : Int) : Nd := { N with bytes := resizeB N.bytes s, stamp := st }
theorem res_funA {bs : List UInt8} {s : Nat} (h : bs.length ≤ s ∨ s % 256 = 0) : (fun q => if q < leavesN s then leafOf bs q else zeros 256) = leafOf (resizeB bs s) := by
  funext q
  split
  · rename_i hq
    refine (leafOf_same ?_).symm
    have := leavesN_lt.1 hq
    omega
  · rename_i hq
    refine (leafOf_past ?_).symm
    rw [resizeB_length]
    omega
theorem res_funB {bs : List UInt8} {s : Nat} (h : s % 256 ≠ 0) : (fun q => if q = leavesN s - 1 then cutB (leafOf bs (leavesN s - 1)) (leavesN s - 1) s else if q < leavesN s then leafOf bs q else zeros 256) = leafOf (resizeB bs s) := by
  funext q
  split
  · rename_i hq
    rw [hq, leafOf_resize]
  · rename_i hq
    split
    · rename_i hl
      refine (leafOf_same ?_).symm
      unfold leavesN at hq hl
      omega
    · rename_i hl
      refine (leafOf_past ?_).symm
      rw [resizeB_length]
      omega
theorem sub1_int {ρ : Rho} {e : X} {k : Nat} (he : e.int ρ = k) (hk : k ≤ 4096) : X.int ρ (.bin .sub .i64 e (.li 1)) = (k : Int) - 1 := by
  show IntKind.i64.wrap (e.int ρ - 1) = _
  rw [he, wrap_i (by omega) (by omega)]
theorem rem_nat {ρ : Rho} {e : X} {s m : Nat} (he : e.int ρ = s) : X.int ρ (.bin .rem .i64 e (.li m)) = (s % m : Nat) := by
  show (e.int ρ).tmod (m : Int) = _
  rw [he, Int.tmod_eq_emod_of_nonneg (by omega)]
  exact (Int.natCast_emod s m).symm

theorem ino_resize {w : World} {x : Nat} {S : Int → Nd} (h : isD Tryz.prog (.st (.ino S)) x w) {n : Int} {s : Nat} (hk : (S n).kind ≠ 0) (hs : s ≤ 1048576) (hdir : (S n).kind = 2 → s % 64 = 0) {st : Int} (hst : 0 ≤ st ∧ st ≤ 18446744073709551615) :
    Acts Tryz.prog 35 x [.int .i64 n, .int .i64 s, .int .u64 st] w fun u d => d = .st (.ino (updS S n (resN (S n) s st))) ∧ u = .int .i64 0 := by
  obtain ⟨m, L, h⟩ := h
  cases hL : L n with
  | none => exact absurd (by rw [h.off n hL]; rfl) hk
  | some t =>
    have hnb := h.num n t hL
    have hok := h.ok n
    have hsz := hok.size
    have hl4 : leavesN s ≤ 4096 := by unfold leavesN; omega
    have hl5 : leavesN (S n).bytes.length ≤ 4096 := by unfold leavesN; omega
    obtain ⟨c, hc, hopen⟩ := ino_open h hL
    have hr := hopen [.i s, .i st]
    obtain ⟨y, hy, ht, hcm⟩ := ways_calls (rules_ok (base_ok _ _)) (fun pc hpc => sumH_ok hpc) (rsP_ev _) hr rfl (envL_fresh _ _) (vs := [.pointer (some ⟨x, 0, none⟩), .int .i64 n, .int .i64 s, .int .u64 st]) ⟨⟨⟨x, 0, 0⟩, envL_at rfl, rfl⟩, rfl, rfl, rfl, trivial⟩
    obtain ⟨ρ, hρ⟩ : ∃ ρ, ρ = rhoV (ofL (inoV (fun k => (L k).map (·.1)) n (S n) [.i s, .i st])) fun _ => c := ⟨_, rfl⟩
    have hlenR : (resN (S n) s st).bytes.length = s := resizeB_length _ _
    have hokR : (resN (S n) s st).Ok := ⟨hok.kind, hok.links, by rw [hlenR]; exact hs, fun e => absurd e hk, fun e => by rw [hlenR]; exact hdir e, hst⟩
    have h7' : X.int (rhoV (ofL (inoV (fun k => (L k).map (·.1)) n (S n) [.i s, .i st])) fun _ => c) (.va 7) = s := rfl
    have hlv' := leaves_int h7' hs
    have hlast' := sub1_int hlv' hl4
    have fin : ∀ (e : X), e.val (rhoV (ofL (inoV (fun k => (L k).map (·.1)) n (S n) [.i s, .i st])) fun _ => c) = .st (.grow (leavesN s) (leafOf (resizeB (S n).bytes s))) →
        Came Tryz.prog 35 #[.pointer (some ⟨x, 0, none⟩), .int .i64 n, .int .i64 s, .int .u64 st] (envL [x, m, t.1, t.2.1] (rhoV (ofL (inoV (fun k => (L k).map (·.1)) n (S n) [.i s, .i st])) fun _ => c)) inoM 4 w [0, 1, 2, 3] ((.a (.s (.int .i64 0))), [some (.cells 107 (inoL 1)), some (.opq (.va 0) [(.va 1, 2), (.li 0, 0)]), some (.cells 100 [.xi .i64 (.va 1), .xi .i64 (.va 3), .xi .i64 (.va 4), .xi .i64 (.va 7), .xi .u64 (.va 8), .ptr 3 0]), some (.abs e)]) →
        Acts Tryz.prog 35 x [.int .i64 n, .int .i64 s, .int .u64 st] w fun u d => d = .st (.ino (updS S n (resN (S n) s st))) ∧ u = .int .i64 0 := fun e hev hcm => by
      refine Calls.mono hcm fun en w' ⟨v, E', h', nx', he, hg, hv, hview⟩ => ?_
      have v0 := (List.cons.inj hview).1.symm
      have r1 := (List.cons.inj hview).2
      have v1 := (List.cons.inj r1).1.symm
      have r2 := (List.cons.inj r1).2
      have v2 := (List.cons.inj r2).1.symm
      have v3 := (List.cons.inj (List.cons.inj r2).2).1.symm
      have hρ2 : E'.ρ = _ := hg.ext.ρ
      obtain ⟨g1, g2, g3⟩ := ino_done h hL hc rfl rfl hg v0 v1 v2 v3 rfl (N' := resN (S n) s st) hokR (by
          simp only [List.map_cons, List.map_nil, SV.den, hρ2, hlenR]
          rfl) (by
          rw [hlenR]
          exact hev)
      exact ⟨v, _, he, ⟨rfl, hv⟩, g1, g2, g3⟩
    have valA : X.val (rhoV (ofL (inoV (fun k => (L k).map (·.1)) n (S n) [.i s, .i st])) fun _ => c) (.app 34 (.cons (.va 2) (.bin .quo .i64 (.bin .sub .i64 (.bin .add .i64 (.va 7) (.li 256)) (.li 1)) (.li 256)))) = .st (.grow (leavesN s) fun q => if q < leavesN s then leafOf (S n).bytes q else zeros 256) := by
      show D.st (.grow (X.int (rhoV (ofL (inoV (fun k => (L k).map (·.1)) n (S n) [.i s, .i st])) fun _ => c) (.bin .quo .i64 (.bin .sub .i64 (.bin .add .i64 (.va 7) (.li 256)) (.li 1)) (.li 256))).toNat fun q => if q < (X.int (rhoV (ofL (inoV (fun k => (L k).map (·.1)) n (S n) [.i s, .i st])) fun _ => c) (.bin .quo .i64 (.bin .sub .i64 (.bin .add .i64 (.va 7) (.li 256)) (.li 1)) (.li 256))).toNat then leafOf (S n).bytes q else zeros 256) = _
      rw [hlv', Int.toNat_natCast]
    rw [← hρ] at ht hlv' hlast' h7' valA
    have h1 : X.int ρ (.va 1) = n := by rw [hρ]; rfl
    have h3 : X.int ρ (.va 3) = (S n).kind := by rw [hρ]; rfl
    have h5 : X.int ρ (.va 5) = ((S n).bytes.length : Nat) := by rw [hρ]; rfl
    have hr256 : X.int ρ (.bin .rem .i64 (.va 7) (.li 256)) = (s % 256 : Nat) := rem_nat (m := 256) h7'
    have hr64 : X.int ρ (.bin .rem .i64 (.va 7) (.li 64)) = (s % 64 : Nat) := rem_nat (m := 64) h7'
    have h36 : X.bool ρ (.app 36 (.va 2)) = true := by rw [hρ]; rfl
    have h36b : X.bool ρ (.app 36 (.app 34 (.cons (.va 2) (.bin .quo .i64 (.bin .sub .i64 (.bin .add .i64 (.va 7) (.li 256)) (.li 1)) (.li 256))))) = true := by rw [hρ]; rfl
    have h902 : X.bool ρ (.app 902 (.bin .sub .i64 (.bin .quo .i64 (.bin .sub .i64 (.bin .add .i64 (.va 7) (.li 256)) (.li 1)) (.li 256)) (.li 1))) = true := by
      have : (FN 902 (X.val ρ (.bin .sub .i64 (.bin .quo .i64 (.bin .sub .i64 (.bin .add .i64 (.va 7) (.li 256)) (.li 1)) (.li 256)) (.li 1)))).bool = true := decide_eq_true (by
        show -9223372036854775808 ≤ X.int ρ _ ∧ X.int ρ _ ≤ _
        rw [hlast']
        omega)
      rw [hρ] at this ⊢
      exact this
    have hroom := heightN_room hl5
    have h30 : s < (S n).bytes.length → s % 256 ≠ 0 → X.bool ρ (.app 30 (.cons (.va 2) (.bin .sub .i64 (.bin .quo .i64 (.bin .sub .i64 (.bin .add .i64 (.va 7) (.li 256)) (.li 1)) (.li 256)) (.li 1)))) = true := fun a1 a2 => by
      have : decide (0 ≤ X.int ρ (.bin .sub .i64 (.bin .quo .i64 (.bin .sub .i64 (.bin .add .i64 (.va 7) (.li 256)) (.li 1)) (.li 256)) (.li 1)) ∧ X.int ρ (.bin .sub .i64 (.bin .quo .i64 (.bin .sub .i64 (.bin .add .i64 (.va 7) (.li 256)) (.li 1)) (.li 256)) (.li 1)) < (4 ^ heightN (leavesN (S n).bytes.length) : Nat)) = true := decide_eq_true (by
        rw [hlast']
        have : leavesN s ≤ leavesN (S n).bytes.length := by unfold leavesN; omega
        have : 1 ≤ leavesN s := by unfold leavesN; omega
        omega)
      rw [hρ] at this ⊢
      exact this
    have h32 : s % 256 ≠ 0 → X.bool ρ (.app 32 (.cons (.app 34 (.cons (.va 2) (.bin .quo .i64 (.bin .sub .i64 (.bin .add .i64 (.va 7) (.li 256)) (.li 1)) (.li 256)))) (.bin .sub .i64 (.bin .quo .i64 (.bin .sub .i64 (.bin .add .i64 (.va 7) (.li 256)) (.li 1)) (.li 256)) (.li 1)))) = true := fun a2 => by
      have : (FN 32 (.p (X.val ρ (.app 34 (.cons (.va 2) (.bin .quo .i64 (.bin .sub .i64 (.bin .add .i64 (.va 7) (.li 256)) (.li 1)) (.li 256))))) (X.val ρ (.bin .sub .i64 (.bin .quo .i64 (.bin .sub .i64 (.bin .add .i64 (.va 7) (.li 256)) (.li 1)) (.li 256)) (.li 1))))).bool = true := by
        rw [valA]
        refine decide_eq_true (?_ : 0 ≤ X.int ρ _ ∧ X.int ρ _ < ((leavesN s : Nat) : Int))
        rw [hlast']
        have : 1 ≤ leavesN s := by unfold leavesN; omega
        omega
      rw [hρ] at this ⊢
      exact this
    have gA : (S n).bytes.length ≤ s ∨ s % 256 = 0 → X.val ρ (.app 34 (.cons (.va 2) (.bin .quo .i64 (.bin .sub .i64 (.bin .add .i64 (.va 7) (.li 256)) (.li 1)) (.li 256)))) = .st (.grow (leavesN s) (leafOf (resizeB (S n).bytes s))) := fun hh => by
      rw [valA, res_funA hh]
    have gB : s % 256 ≠ 0 → X.val ρ (.app 33 (.cons (.app 34 (.cons (.va 2) (.bin .quo .i64 (.bin .sub .i64 (.bin .add .i64 (.va 7) (.li 256)) (.li 1)) (.li 256)))) (.cons (.bin .sub .i64 (.bin .quo .i64 (.bin .sub .i64 (.bin .add .i64 (.va 7) (.li 256)) (.li 1)) (.li 256)) (.li 1)) (.app 40 (.cons (.app 31 (.cons (.va 2) (.bin .sub .i64 (.bin .quo .i64 (.bin .sub .i64 (.bin .add .i64 (.va 7) (.li 256)) (.li 1)) (.li 256)) (.li 1)))) (.cons (.bin .sub .i64 (.bin .quo .i64 (.bin .sub .i64 (.bin .add .i64 (.va 7) (.li 256)) (.li 1)) (.li 256)) (.li 1)) (.va 7))))))) = .st (.grow (leavesN s) (leafOf (resizeB (S n).bytes s))) := fun hh => by
      have hl1 : 1 ≤ leavesN s := by unfold leavesN; omega
      have hln : (X.int ρ (.bin .sub .i64 (.bin .quo .i64 (.bin .sub .i64 (.bin .add .i64 (.va 7) (.li 256)) (.li 1)) (.li 256)) (.li 1))).toNat = leavesN s - 1 := by rw [hlast']; omega
      have h2v : X.val ρ (.va 2) = .st (.grow (leavesN (S n).bytes.length) (leafOf (S n).bytes)) := by rw [hρ]; rfl
      have key : FN 33 (.p (X.val ρ (.app 34 (.cons (.va 2) (.bin .quo .i64 (.bin .sub .i64 (.bin .add .i64 (.va 7) (.li 256)) (.li 1)) (.li 256))))) (.p (X.val ρ (.bin .sub .i64 (.bin .quo .i64 (.bin .sub .i64 (.bin .add .i64 (.va 7) (.li 256)) (.li 1)) (.li 256)) (.li 1))) (FN 40 (.p (FN 31 (.p (X.val ρ (.va 2)) (X.val ρ (.bin .sub .i64 (.bin .quo .i64 (.bin .sub .i64 (.bin .add .i64 (.va 7) (.li 256)) (.li 1)) (.li 256)) (.li 1))))) (.p (X.val ρ (.bin .sub .i64 (.bin .quo .i64 (.bin .sub .i64 (.bin .add .i64 (.va 7) (.li 256)) (.li 1)) (.li 256)) (.li 1))) (X.val ρ (.va 7))))))) = .st (.grow (leavesN s) (leafOf (resizeB (S n).bytes s))) := by
        rw [valA, h2v]
        show D.st (.grow (leavesN s) fun q => if q = (X.int ρ (.bin .sub .i64 (.bin .quo .i64 (.bin .sub .i64 (.bin .add .i64 (.va 7) (.li 256)) (.li 1)) (.li 256)) (.li 1))).toNat then pad ⟨(cutB (pad ⟨(leafOf (S n).bytes (X.int ρ (.bin .sub .i64 (.bin .quo .i64 (.bin .sub .i64 (.bin .add .i64 (.va 7) (.li 256)) (.li 1)) (.li 256)) (.li 1))).toNat).toArray⟩) (X.int ρ (.bin .sub .i64 (.bin .quo .i64 (.bin .sub .i64 (.bin .add .i64 (.va 7) (.li 256)) (.li 1)) (.li 256)) (.li 1))).toNat (X.int ρ (.va 7)).toNat).toArray⟩ else if q < leavesN s then leafOf (S n).bytes q else zeros 256) = _
        rw [hln, h7', Int.toNat_natCast, pad_of (leafOf_length _ _), pad_of (cutB_length (leafOf_length _ _) _ _), res_funB hh]
      rw [hρ] at key ⊢
      exact key
    rw [← hρ] at fin
    simp only [rsPL, List.mem_cons, List.not_mem_nil, or_false] at hy
    rw [← hρ] at hcm
    have hlN1 : s % 256 ≠ 0 → 1 ≤ leavesN s := fun a => by unfold leavesN; omega
    rcases hy with rfl | rfl | rfl | rfl | rfl | rfl | rfl | rfl | rfl | rfl | rfl | rfl | rfl | rfl | rfl | rfl | rfl | rfl | rfl | rfl | rfl | rfl | rfl | rfl | rfl | rfl | rfl | rfl | rfl | rfl | rfl | rfl | rfl | rfl | rfl | rfl | rfl | rfl | rfl | rfl | rfl | rfl | rfl | rfl | rfl | rfl | rfl | rfl | rfl | rfl | rfl | rfl | rfl | rfl | rfl | rfl | rfl | rfl | rfl | rfl | rfl | rfl | rfl | rfl | rfl | rfl | rfl | rfl | rfl | rfl | rfl | rfl | rfl | rfl | rfl | rfl | rfl | rfl | rfl | rfl | rfl | rfl | rfl | rfl | rfl | rfl | rfl <;> simp only [told_cons, told_nil, eq_true, eq_false, lt_true, lt_false, h1, h3, h5, h7', hlv', hlast', hr256, hr64, h36, h36b, h902, li_int, and_true, true_and, reduceCtorEq, false_and, and_false] at ht <;> first
      | omega
      | (exact fin _ (gA (by omega)) (hcm _ rfl))
      | (exact fin _ (gB (by omega)) (hcm _ rfl))
      | (have e30 := h30 (by omega) (by omega); rw [e30] at ht; simp only [reduceCtorEq, false_and, and_false] at ht; done)
      | (have e32 := h32 (by omega); rw [e32] at ht; simp only [reduceCtorEq, false_and, and_false] at ht; done)
      | (have e30 := h30 (by omega) (by omega); rw [e30] at ht; have e32 := h32 (by omega); rw [e32] at ht; simp only [reduceCtorEq, false_and, and_false] at ht; done)
      | (have e32 := h32 (by omega); exact Bool.noConfusion (ht.1.symm.trans e32))
      | (have e30 := h30 (by omega) (by omega); exact Bool.noConfusion (ht.1.symm.trans e30))
      | trace_state
end Go.Proofs.YtcnimekhpnejlaaGreat.Ev

/- Inodes behind handles: what the functions of open values are. -/
namespace Go.Proofs.YtcnimekhpnejlaaGreat.Ev
open Go Go.RowKit
set_option linter.unusedVariables false
set_option linter.unusedSimpArgs false
set_option maxRecDepth 10000

/-- An inode into which bytes were laid. -/
def layN (N : Nd) (a : Nat) (s : List UInt8) (st : Int) : Nd := if s = [] then N else { N with bytes := overB N.bytes a s, stamp := st }
/-- An inode into which bytes were written. -/
def wrN (N : Nd) (a : Nat) (s : List UInt8) (st : Int) : Nd := if s = [] then N else { N with bytes := writeB N.bytes a s, stamp := st }
def D.bs (d : D) : List UInt8 := d.str.data.toList
/-- An inode of which bytes were made nothing. -/
def zeroN (N : Nd) (a m : Nat) (st : Int) : Nd := layN N a (zeros (min m (N.bytes.length - a))) st
/-- The least number that is not in use. -/
def freeN (S : Int → Nd) : Int :=
  match (List.range 4096).find? fun k : Nat => (S ((k : Int) + 1)).kind == 0 with
  | some k => (k : Int) + 1
  | none => 4097
/-- What a call makes of a file: the answer, the error, the inode behind it. -/
def doN (k : Int) (N : Nd) (a m : Int) (t : List UInt8) (st : Int) : Int × Int × Nd :=
  if k = 3 then (if (N.bytes.length : Int) + (t.length : Nat) ≤ 1048576 then ((N.bytes.length : Nat), 0, wrN N N.bytes.length t st) else (0, 160, N))
  else if k = 4 then (if a < 0 then (0, 1, N) else if 1048576 < a then (0, 160, N) else (0, 0, resN N a.toNat st))
  else if k = 5 then (if a < 0 ∨ m < 0 then (0, 1, N) else if (N.bytes.length : Int) ≤ a ∨ m = 0 then (0, 0, N) else (0, 0, zeroN N a.toNat m.toNat st))
  else (if 0 ≤ a ∧ a + (t.length : Nat) ≤ 1048576 then (a + (t.length : Nat), 0, wrN N a.toNat t st) else (0, (if a < 0 then 1 else 160), N))
/-- What kind of thing is done. -/
def kindA (k : Int) : Int := ((k.tmod 8) + 8).tmod 8
/-- What putting bytes in or taking bytes out makes of a file. -/
def mvN (k : Int) (N : Nd) (a m : Int) (t : List UInt8) (st : Int) : Int × Int × Nd :=
  if k = 2 then (if a < 0 ∨ m < 0 then (0, 1, N) else if (N.bytes.length : Int) ≤ a ∨ m = 0 then (0, 0, N) else ((min m.toNat (N.bytes.length - a.toNat) : Nat), 0, { N with bytes := N.bytes.take a.toNat ++ N.bytes.drop (a.toNat + min m.toNat (N.bytes.length - a.toNat)), stamp := st }))
  else (if a < 0 ∨ (N.bytes.length : Int) < a then (0, 1, N) else if 1048576 - (N.bytes.length : Int) < (t.length : Nat) then (0, 160, N) else if t = [] then (0, 0, N) else (0, 0, { N with bytes := insB N.bytes a.toNat t, stamp := st }))
/-- What copying of bytes of M makes of a file. -/
def cpN (M N : Nd) (a m pl st : Int) : Int × Int × Nd :=
  if a < 0 ∨ m < 0 ∨ pl < 0 then (0, 1, N)
  else if (doN 0 N pl 0 (readB M.bytes a.toNat m.toNat) st).2.1 = 0 then (((readB M.bytes a.toNat m.toNat).length : Nat), 0, (doN 0 N pl 0 (readB M.bytes a.toNat m.toNat) st).2.2)
  else (0, (doN 0 N pl 0 (readB M.bytes a.toNat m.toNat) st).2.1, N)
def docN (s p : D) : Nd := ⟨1, 1, p.int, s.bs⟩
def FNi (k : Nat) (d : D) : D :=
  match k, d with
  | 902, d => .b (decide (-9223372036854775808 ≤ d.int ∧ d.int ≤ 9223372036854775807))
  | 50, .p (.st (.ino S)) n => .i (S n.int).kind
  | 51, .p (.st (.ino S)) n => .i (S n.int).links
  | 52, .p (.st (.ino S)) n => .i ((S n.int).bytes.length : Nat)
  | 53, .p (.st (.ino S)) n => .i (S n.int).stamp
  | 54, .p (.st (.ino S)) (.p n p) => .s ⟨(leafOf (S n.int).bytes p.int.toNat).toArray⟩
  | 55, .p (.st (.ino S)) (.p n (.p p (.p b t))) => .st (.ino (updS S n.int (setN (S n.int) p.int.toNat (pad b.str) t.int)))
  | 56, .p (.st (.ino S)) (.p n (.p s t)) => .st (.ino (updS S n.int (resN (S n.int) s.int.toNat t.int)))
  | 57, .st (.ino _) => .b true
  | 57, _ => .b false
  | 58, .p (.st (.ino S)) (.p n p) => .b (decide (0 ≤ p.int ∧ p.int < (leavesN (S n.int).bytes.length : Nat)))
  | 59, d => .b (decide (0 ≤ d.int ∧ d.int ≤ 18446744073709551615))
  | 60, .p (.st (.ino S)) (.p n (.p a (.p s t))) => .st (.ino (updS S n.int (layN (S n.int) a.int.toNat s.bs t.int)))
  | 61, .p (.st (.ino S)) (.p n (.p a b)) => .s ⟨(rdB (S n.int).bytes a.int.toNat b.int.toNat).toArray⟩
  | 62, .p (.st (.ino S)) (.p n (.p a s)) => .b (decide (0 ≤ a.int ∧ a.int + (s.str.size : Nat) ≤ ((S n.int).bytes.length : Nat)))
  | 63, .p b (.p a s) => .s ⟨(overB (pad b.str) a.int.toNat s.bs).toArray⟩
  | 64, .p a s => .b (decide (0 ≤ a.int ∧ a.int + (s.str.size : Nat) ≤ 1048576))
  | 65, .p (.st (.ino S)) (.p n (.p a (.p s t))) => .st (.ino (updS S n.int (wrN (S n.int) a.int.toNat s.bs t.int)))
  | 66, .p (.st (.ino S)) (.p n (.p a m)) => .s ⟨(readB (S n.int).bytes a.int.toNat m.int.toNat).toArray⟩
  | 67, .p (.st (.ino S)) (.p n o) => .b (decide ((S n.int).bytes = (S o.int).bytes))
  | 68, .p (.st (.ino S)) n => .b (decide (1 ≤ n.int ∧ n.int ≤ 4096 ∧ (S n.int).kind = 1))
  | 69, n => .s ⟨(zeros n.int.toNat).toArray⟩
  | 70, .p s t => .i (Lib.index s.bs t.bs)
  | 71, .p (.i g) (.i _) => .b (decide (g = 0))
  | 71, _ => .b false
  | 72, .p (.st (.ino S)) (.p n (.p a (.p m t))) => .st (.ino (updS S n.int (zeroN (S n.int) a.int.toNat m.int.toNat t.int)))
  | 73, .st (.ino S) => .i (freeN S)
  | 74, .p (.st (.ino S)) (.p k t) => .st (.ino (updS S (freeN S) ⟨k.int, 1, t.int, []⟩))
  | 80, .p (.st (.ino S)) (.p n (.p k (.p a (.p m (.p t st))))) => .i (doN (kindA k.int) (S n.int) a.int m.int t.bs st.int).1
  | 81, .p (.st (.ino S)) (.p n (.p k (.p a (.p m (.p t st))))) => .i (doN (kindA k.int) (S n.int) a.int m.int t.bs st.int).2.1
  | 82, .p (.st (.ino S)) (.p n (.p k (.p a (.p m (.p t st))))) => .st (.ino (updS S n.int (doN (kindA k.int) (S n.int) a.int m.int t.bs st.int).2.2))
  | 83, .p s (.p p (.p k (.p a (.p m (.p t st))))) => .i (doN (kindA k.int) (docN s p) a.int m.int t.bs st.int).1
  | 84, .p s (.p p (.p k (.p a (.p m (.p t st))))) => .i (doN (kindA k.int) (docN s p) a.int m.int t.bs st.int).2.1
  | 85, .p s (.p p (.p k (.p a (.p m (.p t st))))) => .s ⟨(doN (kindA k.int) (docN s p) a.int m.int t.bs st.int).2.2.bytes.toArray⟩
  | 86, .p s (.p p (.p k (.p a (.p m (.p t st))))) => .i (doN (kindA k.int) (docN s p) a.int m.int t.bs st.int).2.2.stamp
  | 87, .p (.st (.ino S)) (.p n (.p s p)) => .b (decide ((S n.int).bytes = s.bs ∧ (S n.int).stamp = p.int ∧ (S n.int).links = 1 ∧ (S n.int).kind = 1))
  | 88, .p (.st (.ino S)) (.p n (.p k (.p a (.p m (.p t st))))) => .i (mvN k.int (S n.int) a.int m.int t.bs st.int).1
  | 89, .p (.st (.ino S)) (.p n (.p k (.p a (.p m (.p t st))))) => .i (mvN k.int (S n.int) a.int m.int t.bs st.int).2.1
  | 90, .p (.st (.ino S)) (.p n (.p k (.p a (.p m (.p t st))))) => .st (.ino (updS S n.int (mvN k.int (S n.int) a.int m.int t.bs st.int).2.2))
  | 91, .p s (.p p (.p k (.p a (.p m (.p t st))))) => .i (mvN k.int (docN s p) a.int m.int t.bs st.int).1
  | 92, .p s (.p p (.p k (.p a (.p m (.p t st))))) => .i (mvN k.int (docN s p) a.int m.int t.bs st.int).2.1
  | 93, .p s (.p p (.p k (.p a (.p m (.p t st))))) => .s ⟨(mvN k.int (docN s p) a.int m.int t.bs st.int).2.2.bytes.toArray⟩
  | 94, .p s (.p p (.p k (.p a (.p m (.p t st))))) => .i (mvN k.int (docN s p) a.int m.int t.bs st.int).2.2.stamp
  | 95, .p (.st (.ino S)) (.p n (.p o (.p a (.p m (.p pl st))))) => .i (cpN (S n.int) (S o.int) a.int m.int pl.int st.int).1
  | 96, .p (.st (.ino S)) (.p n (.p o (.p a (.p m (.p pl st))))) => .i (cpN (S n.int) (S o.int) a.int m.int pl.int st.int).2.1
  | 97, .p (.st (.ino S)) (.p n (.p o (.p a (.p m (.p pl st))))) => .st (.ino (updS S o.int (cpN (S n.int) (S o.int) a.int m.int pl.int st.int).2.2))
  | 98, .p f (.p s (.p p (.p a (.p m (.p pl st))))) => .i (cpN (docN f (.i 0)) (docN s p) a.int m.int pl.int st.int).1
  | 99, .p f (.p s (.p p (.p a (.p m (.p pl st))))) => .i (cpN (docN f (.i 0)) (docN s p) a.int m.int pl.int st.int).2.1
  | 100, .p f (.p s (.p p (.p a (.p m (.p pl st))))) => .s ⟨(cpN (docN f (.i 0)) (docN s p) a.int m.int pl.int st.int).2.2.bytes.toArray⟩
  | 101, .p f (.p s (.p p (.p a (.p m (.p pl st))))) => .i (cpN (docN f (.i 0)) (docN s p) a.int m.int pl.int st.int).2.2.stamp
  | _, _ => .z
noncomputable def rhoI (v : Nat → D) (o : Nat → Value) : Rho := ⟨v, o, FNi, fun _ _ _ => False, absD Tryz.prog⟩
def rules0 : Rules := ⟨fun _ _ _ _ _ => none, fun _ _ _ _ _ _ => none⟩
theorem rules0_ok (ρ : Rho) : rules0.Ok ρ := fun pc hpc => {
  tab := fun t e h => teOf_ok h
  pc := hpc
  olk := fun t e ls y r h => by cases h
  oup := fun t e ls y x r h => by cases h }
theorem told57 {v : Nat → D} {o : Nat → Value} {pc : List (X × Bool)} (hpc : Told (rhoI v o) pc) {e : X} (h : truL pc (.app 57 e) = some true) : ∃ S, e.val (rhoI v o) = .st (.ino S) := by
  have h1 : (FNi 57 (e.val (rhoI v o))).bool = true := truL_ok hpc h
  generalize e.val (rhoI v o) = d at h1 ⊢
  cases d with
  | st x =>
    cases x with
    | ino S => exact ⟨S, rfl⟩
    | grow => cases h1
    | works => cases h1
    | leaves => cases h1
  | _ => cases h1
theorem acts_aoi {v : Nat → D} {o : Nat → Value} {g a : Nat} {args : List Value} {w : World} {Q : Value → D → Prop} {E : Env} {r : EV} {e' : X} (h : Acts Tryz.prog g a args w Q) (hQ : ∀ u d, Q u d → r.rel E u ∧ d = e'.val (rhoI v o)) :
    Calls Tryz.prog g (.pointer (some ⟨a, 0, none⟩) :: args).toArray w fun en w' => ∃ u, en = .returned u ∧ r.rel E u ∧ (rhoI v o).A.is (e'.val (rhoI v o)) a w' ∧ (∀ k, (rhoI v o).A.own a w' k → (rhoI v o).A.own a w k ∨ w.heap.size ≤ k) ∧
      w'.os = w.os ∧ w'.tape = w.tape ∧ w'.output = w.output ∧ w.heap.size ≤ w'.heap.size ∧ ∀ k, k < w.heap.size → ¬ (rhoI v o).A.own a w k → w'.heap[k]? = w.heap[k]? :=
  Calls.mono h fun en w' ⟨u, d, h1, h2, h3, h4, h5⟩ => by
    obtain ⟨hr, rfl⟩ := hQ u d h2
    exact ⟨u, h1, hr, h3, h4, h5.os, h5.tape, h5.output, h5.size, h5.block⟩
theorem inI64_oki {v : Nat → D} {o : Nat → Value} {pc : List (X × Bool)} (hpc : Told (rhoI v o) pc) {e : X} (h : inI64 pc e = true) : i64 (e.int (rhoI v o)) := by
  unfold inI64 at h
  unfold i64
  split at h
  · exact of_decide_eq_true h
  · exact of_decide_eq_true (truL_ok hpc (of_decide_eq_true h) : decide _ = true)
theorem inU64_oki {v : Nat → D} {o : Nat → Value} {pc : List (X × Bool)} (hpc : Told (rhoI v o) pc) {e : X} (h : inU64 pc e = true) : 0 ≤ e.int (rhoI v o) ∧ e.int (rhoI v o) ≤ 18446744073709551615 := by
  unfold inU64 at h
  split at h
  · exact of_decide_eq_true h
  · exact of_decide_eq_true (truL_ok hpc (of_decide_eq_true h) : decide _ = true)
theorem rNum_ok {v : Nat → D} {o : Nat → Value} {pc : List (X × Bool)} (hpc : Told (rhoI v o) pc) {n : X} {b : Bool} (h : rNum pc n = some b) : b = decide (1 ≤ n.int (rhoI v o) ∧ n.int (rhoI v o) ≤ 4096) := by
  unfold rNum at h
  obtain ⟨a, ha, h⟩ := Option.bind_eq_some_iff.1 h
  have h1 : decide (n.int (rhoI v o) < 1) = a := truL_ok hpc ha
  cases a with
  | true =>
    obtain rfl := Option.some.inj h
    have := of_decide_eq_true h1
    exact (decide_eq_false (by omega)).symm
  | false =>
    obtain ⟨c, hc, rfl⟩ := Option.map_eq_some_iff.1 h
    have h1 := of_decide_eq_false h1
    have h2 : decide (4096 < n.int (rhoI v o)) = c := truL_ok hpc hc
    cases c with
    | true =>
      have := of_decide_eq_true h2
      exact (decide_eq_false (by omega)).symm
    | false =>
      have := of_decide_eq_false h2
      exact (decide_eq_true (by omega)).symm
theorem rUsed_ok {v : Nat → D} {o : Nat → Value} {pc : List (X × Bool)} (hpc : Told (rhoI v o) pc) {e n : X} {S : Int → Nd} (he : e.val (rhoI v o) = .st (.ino S)) {r : Int} (h : rUsed pc e n = some r) : r = if (S (n.int (rhoI v o))).kind = 0 then 151 else 0 := by
  unfold rUsed at h
  obtain ⟨b, hb, rfl⟩ := Option.map_eq_some_iff.1 h
  have h1 : ((FNi 50 (.p (e.val (rhoI v o)) (n.val (rhoI v o)))).int == 0) = b := truL_ok hpc hb
  rw [he] at h1
  have h1 : ((S (n.int (rhoI v o))).kind == 0) = b := h1
  cases b with
  | true => exact (if_pos (beq_iff_eq.1 h1)).symm
  | false => exact (if_neg (beq_eq_false_iff_ne.1 h1)).symm
end Go.Proofs.YtcnimekhpnejlaaGreat.Ev

/- The rules of inodes behind handles hold. -/
namespace Go.Proofs.YtcnimekhpnejlaaGreat.Ev
open Go Go.RowKit
set_option linter.unusedVariables false
set_option linter.unusedSimpArgs false
set_option maxRecDepth 10000

theorem infoX_rel {v : Nat → D} {o : Nat → Value} {E : Env} (hρ : E.ρ = rhoI v o) {e n : X} {S : Int → Nd} (he : e.val (rhoI v o) = .st (.ino S)) : (AV.agg (infoX e n)).rel E (infoV (n.int (rhoI v o)) (S (n.int (rhoI v o)))) := by
  refine ⟨[.int .i64 (n.int (rhoI v o)), .int .i64 (S (n.int (rhoI v o))).kind, .int .i64 (S (n.int (rhoI v o))).links, .int .i64 ((S (n.int (rhoI v o))).bytes.length : Nat), .int .u64 (S (n.int (rhoI v o))).stamp], rfl, ?_⟩
  have h : ∀ k, (FNi k (.p (e.val (rhoI v o)) (n.val (rhoI v o)))) = FNi k (.p (.st (.ino S)) (n.val (rhoI v o))) := fun k => by rw [he]
  refine ⟨?_, ?_, ?_, ?_, ?_, trivial⟩
  · show _ = Value.int .i64 (n.int E.ρ)
    rw [hρ]
  · show _ = Value.int .i64 (X.int E.ρ (.app 50 (.cons e n)))
    rw [hρ]
    exact congrArg (Value.int .i64) (congrArg D.int (h 50)).symm
  · show _ = Value.int .i64 (X.int E.ρ (.app 51 (.cons e n)))
    rw [hρ]
    exact congrArg (Value.int .i64) (congrArg D.int (h 51)).symm
  · show _ = Value.int .i64 (X.int E.ρ (.app 52 (.cons e n)))
    rw [hρ]
    exact congrArg (Value.int .i64) (congrArg D.int (h 52)).symm
  · show _ = Value.int .u64 (X.int E.ρ (.app 53 (.cons e n)))
    rw [hρ]
    exact congrArg (Value.int .u64) (congrArg D.int (h 53)).symm
theorem infoZX_rel {E : Env} : (AV.agg infoZX).rel E infoZ := ⟨[.int .i64 0, .int .i64 0, .int .i64 0, .int .i64 0, .int .u64 0], rfl, rfl, rfl, rfl, rfl, rfl, trivial⟩
theorem rIno_get {v : Nat → D} {o : Nat → Value} {pc : List (X × Bool)} (hpc : Told (rhoI v o) pc) {e : X} {args : List EV} {r : EV × X} (h : rIno pc 46 e args = some r) : AOk Tryz.prog (rhoI v o) 46 e args r.1 r.2 := by
  intro E hρ a w vs his hargs
  unfold rIno at h
  split at h
  · rename_i h57
    obtain ⟨S, he⟩ := told57 hpc h57
    have his2 : isD Tryz.prog (e.val (rhoI v o)) a w := his
    rw [he] at his2
    rw [if_pos rfl] at h
    split at h
    · rename_i y
      obtain ⟨⟨k, n⟩, hn, h⟩ := Option.bind_eq_some_iff.1 h
      split at h
      · rename_i hk
        obtain ⟨hk, hin⟩ := hk
        have hk : k = .i64 := hk
        subst hk
        obtain ⟨b, hb, h⟩ := Option.bind_eq_some_iff.1 h
        have hb : b = decide (1 ≤ n.int (rhoI v o) ∧ n.int (rhoI v o) ≤ 4096) := rNum_ok hpc hb
        match vs, hargs with
        | [u], hargs =>
          have hu : u = .int .i64 (n.int (rhoI v o)) := by rw [← hρ]; exact asI_rel hn hargs.1
          subst hu
          refine acts_aoi (ino_get his2 (inI64_oki hpc hin)) fun u d ⟨hd, hu⟩ => ?_
          subst hd
          subst hu
          unfold getV
          split at h
          · rename_i hbt
            rw [hbt] at hb
            have hb := of_decide_eq_true hb.symm
            obtain ⟨q, hq, rfl⟩ := Option.map_eq_some_iff.1 h
            have hq : q = if (S (n.int (rhoI v o))).kind = 0 then 151 else 0 := rUsed_ok hpc he hq
            refine ⟨?_, he.symm⟩
            show (if q = 0 then EV.tup [.agg (infoX e n), .s (.int .i64 0)] else .tup [.agg infoZX, .s (.int .i64 q)]).rel E (if n.int (rhoI v o) < 1 ∨ 4096 < n.int (rhoI v o) then _ else _)
            rw [if_neg (c := n.int (rhoI v o) < 1 ∨ 4096 < n.int (rhoI v o)) (by omega)]
            by_cases hk : (S (n.int (rhoI v o))).kind = 0
            · rw [if_pos hk] at hq ⊢
              subst hq
              show (EV.tup [.agg infoZX, .s (.int .i64 151)]).rel E _
              exact tup2_mk infoZX_rel rfl
            · rw [if_neg hk] at hq ⊢
              subst hq
              show (EV.tup [.agg (infoX e n), .s (.int .i64 0)]).rel E _
              exact tup2_mk (infoX_rel hρ he) rfl
          · rename_i hbt
            have hbf : b = false := by simpa using hbt
            rw [hbf] at hb
            have hb := of_decide_eq_false hb.symm
            obtain rfl := Option.some.inj h
            refine ⟨?_, he.symm⟩
            show (EV.tup [.agg infoZX, .s (.int .i64 141)]).rel E (if n.int (rhoI v o) < 1 ∨ 4096 < n.int (rhoI v o) then _ else _)
            rw [if_pos (by omega)]
            exact tup2_mk infoZX_rel rfl
      · cases h
    · cases h
  · cases h
end Go.Proofs.YtcnimekhpnejlaaGreat.Ev

/- The rule of Leaf of inodes behind handles holds. -/
namespace Go.Proofs.YtcnimekhpnejlaaGreat.Ev
open Go Go.RowKit
set_option linter.unusedVariables false
set_option linter.unusedSimpArgs false
set_option maxRecDepth 10000
theorem rIno_leaf {v : Nat → D} {o : Nat → Value} {pc : List (X × Bool)} (hpc : Told (rhoI v o) pc) {e : X} {args : List EV} {r : EV × X} (h : rIno pc 52 e args = some r) : AOk Tryz.prog (rhoI v o) 52 e args r.1 r.2 := by
  intro E hρ a w vs his hargs
  unfold rIno at h
  split at h
  · rename_i h57
    obtain ⟨S, he⟩ := told57 hpc h57
    have his2 : isD Tryz.prog (e.val (rhoI v o)) a w := his
    rw [he] at his2
    rw [if_neg (by decide), if_pos rfl] at h
    split at h
    · rename_i y z
      obtain ⟨⟨k, n⟩, hn, h⟩ := Option.bind_eq_some_iff.1 h
      obtain ⟨⟨k2, p⟩, hp, h⟩ := Option.bind_eq_some_iff.1 h
      split at h
      · rename_i hk
        obtain ⟨hk, hk2, hin, hip, c1, c2, c3, c4⟩ := hk
        have hk : k = .i64 := hk
        have hk2 : k2 = .i64 := hk2
        subst hk
        subst hk2
        obtain rfl := Option.some.inj h
        have c1 : decide (p.int (rhoI v o) < 0) = false := truL_ok hpc c1
        have c2 : decide (p.int (rhoI v o) < 4096) = true := truL_ok hpc c2
        have c3 : true = decide (1 ≤ n.int (rhoI v o) ∧ n.int (rhoI v o) ≤ 4096) := rNum_ok hpc c3
        have c4 : (0 : Int) = if (S (n.int (rhoI v o))).kind = 0 then 151 else 0 := rUsed_ok hpc he c4
        have c1 := of_decide_eq_false c1
        have c2 := of_decide_eq_true c2
        have c3 := of_decide_eq_true c3.symm
        have c5 : (S (n.int (rhoI v o))).kind ≠ 0 := fun e2 => by rw [if_pos e2] at c4; cases c4
        match vs, hargs with
        | [u, u2], hargs =>
          have hu : u = .int .i64 (n.int (rhoI v o)) := by rw [← hρ]; exact asI_rel hn hargs.1
          have hu2 : u2 = .int .i64 (p.int (rhoI v o)) := by rw [← hρ]; exact asI_rel hp hargs.2.1
          subst hu
          subst hu2
          refine acts_aoi (ino_leaf his2 (inI64_oki hpc hin) (inI64_oki hpc hip)) fun u d ⟨hd, hu⟩ => ?_
          subst hd
          subst hu
          refine ⟨?_, he.symm⟩
          unfold leafV
          rw [if_neg (by omega), if_neg (by omega), if_neg c5]
          refine tup2_mk ?_ rfl
          have h5 := blkX_rel (E := E) (.app 54 (.cons e (.cons n p)))
          have h6 : X.str E.ρ (.app 54 (.cons e (.cons n p))) = ⟨(leafOf (S (n.int (rhoI v o))).bytes (p.int (rhoI v o)).toNat).toArray⟩ := by
            rw [hρ]
            show (FNi 54 (.p (e.val (rhoI v o)) (.p (n.val (rhoI v o)) (p.val (rhoI v o))))).str = _
            rw [he]
            rfl
          rw [h6, pad_of (leafOf_length _ _)] at h5
          exact h5
      · cases h
    · cases h
  · cases h
end Go.Proofs.YtcnimekhpnejlaaGreat.Ev

/- The rules of Set and Resize of inodes behind handles hold. -/
namespace Go.Proofs.YtcnimekhpnejlaaGreat.Ev
open Go Go.RowKit
set_option linter.unusedVariables false
set_option linter.unusedSimpArgs false
set_option maxRecDepth 10000
theorem rIno_set {v : Nat → D} {o : Nat → Value} {pc : List (X × Bool)} (hpc : Told (rhoI v o) pc) {e : X} {args : List EV} {r : EV × X} (h : rIno pc 63 e args = some r) : AOk Tryz.prog (rhoI v o) 63 e args r.1 r.2 := by
  intro E hρ a w vs his hargs
  unfold rIno at h
  split at h
  · rename_i h57
    obtain ⟨S, he⟩ := told57 hpc h57
    have his2 : isD Tryz.prog (e.val (rhoI v o)) a w := his
    rw [he] at his2
    rw [if_neg (by decide), if_neg (by decide), if_pos rfl] at h
    split at h
    · rename_i y z l t
      obtain ⟨⟨k, n⟩, hn, h⟩ := Option.bind_eq_some_iff.1 h
      obtain ⟨⟨k2, p⟩, hp, h⟩ := Option.bind_eq_some_iff.1 h
      obtain ⟨⟨k3, st⟩, hst, h⟩ := Option.bind_eq_some_iff.1 h
      obtain ⟨b, hb, h⟩ := Option.bind_eq_some_iff.1 h
      split at h
      · rename_i hk
        obtain ⟨hk, hk2, hk3, hu64, c4, c5⟩ := hk
        have hk : k = .i64 := hk
        have hk2 : k2 = .i64 := hk2
        have hk3 : k3 = .u64 := hk3
        subst hk
        subst hk2
        subst hk3
        obtain rfl := Option.some.inj h
        have c4 : (0 : Int) = if (S (n.int (rhoI v o))).kind = 0 then 151 else 0 := rUsed_ok hpc he c4
        have ck : (S (n.int (rhoI v o))).kind ≠ 0 := fun e2 => by rw [if_pos e2] at c4; cases c4
        have c5 : (FNi 58 (.p (e.val (rhoI v o)) (.p (n.val (rhoI v o)) (p.val (rhoI v o))))).bool = true := truL_ok hpc c5
        rw [he] at c5
        have c5 : decide (0 ≤ p.int (rhoI v o) ∧ p.int (rhoI v o) < (leavesN (S (n.int (rhoI v o))).bytes.length : Nat)) = true := c5
        have c5 := of_decide_eq_true c5
        match vs, hargs with
        | [u, u2, u3, u4], hargs =>
          have hu : u = .int .i64 (n.int (rhoI v o)) := by rw [← hρ]; exact asI_rel hn hargs.1
          have hu2 : u2 = .int .i64 (p.int (rhoI v o)) := by rw [← hρ]; exact asI_rel hp hargs.2.1
          have hu3 := asBlk_inv hb hargs.2.2.1
          have hu4 : u4 = .int .u64 (st.int (rhoI v o)) := by rw [← hρ]; exact asI_rel hst hargs.2.2.2.1
          subst hu
          subst hu2
          subst hu3
          subst hu4
          have hset := ino_set his2 (n := n.int (rhoI v o)) (p := (p.int (rhoI v o)).toNat) ck (by omega) (pad_length (b.str E.ρ)) (st := st.int (rhoI v o)) (inU64_oki hpc hu64)
          rw [Int.toNat_of_nonneg c5.1] at hset
          refine acts_aoi hset fun u d ⟨hd, hu⟩ => ?_
          subst hd
          subst hu
          refine ⟨rfl, ?_⟩
          show _ = FNi 55 (.p (e.val (rhoI v o)) (.p (n.val (rhoI v o)) (.p (p.val (rhoI v o)) (.p (b.val (rhoI v o)) (st.val (rhoI v o))))))
          rw [he, hρ]
          rfl
      · cases h
    · cases h
  · cases h
end Go.Proofs.YtcnimekhpnejlaaGreat.Ev

/- The rule of Resize of inodes behind handles holds. -/
namespace Go.Proofs.YtcnimekhpnejlaaGreat.Ev
open Go Go.RowKit
set_option linter.unusedVariables false
set_option linter.unusedSimpArgs false
set_option maxRecDepth 10000
theorem rIno_resize {v : Nat → D} {o : Nat → Value} {pc : List (X × Bool)} (hpc : Told (rhoI v o) pc) {e : X} {args : List EV} {r : EV × X} (h : rIno pc 35 e args = some r) : AOk Tryz.prog (rhoI v o) 35 e args r.1 r.2 := by
  intro E hρ a w vs his hargs
  unfold rIno at h
  split at h
  · rename_i h57
    obtain ⟨S, he⟩ := told57 hpc h57
    have his2 : isD Tryz.prog (e.val (rhoI v o)) a w := his
    rw [he] at his2
    rw [if_neg (by decide), if_neg (by decide), if_neg (by decide), if_pos rfl] at h
    split at h
    · rename_i y z t
      obtain ⟨⟨k, n⟩, hn, h⟩ := Option.bind_eq_some_iff.1 h
      obtain ⟨⟨k2, s⟩, hs, h⟩ := Option.bind_eq_some_iff.1 h
      obtain ⟨⟨k3, st⟩, hst, h⟩ := Option.bind_eq_some_iff.1 h
      split at h
      · rename_i hk
        obtain ⟨hk, hk2, hk3, hu64, c4, c1, c2⟩ := hk
        have hk : k = .i64 := hk
        have hk2 : k2 = .i64 := hk2
        have hk3 : k3 = .u64 := hk3
        subst hk
        subst hk2
        subst hk3
        have c4 : (0 : Int) = if (S (n.int (rhoI v o))).kind = 0 then 151 else 0 := rUsed_ok hpc he c4
        have ck : (S (n.int (rhoI v o))).kind ≠ 0 := fun e2 => by rw [if_pos e2] at c4; cases c4
        have c1 : decide (s.int (rhoI v o) < 0) = false := truL_ok hpc c1
        have c2 : decide (1048576 < s.int (rhoI v o)) = false := truL_ok hpc c2
        have c1 := of_decide_eq_false c1
        have c2 := of_decide_eq_false c2
        have key : ((S (n.int (rhoI v o))).kind = 2 → (s.int (rhoI v o)).toNat % 64 = 0) ∧ r = (.a (.s (.int .i64 0)), .app 56 (.cons e (.cons n (.cons s st)))) := by
          obtain ⟨d, hd, h⟩ := Option.bind_eq_some_iff.1 h
          have hd : ((FNi 50 (.p (e.val (rhoI v o)) (n.val (rhoI v o)))).int == 2) = d := truL_ok hpc hd
          rw [he] at hd
          have hd : ((S (n.int (rhoI v o))).kind == 2) = d := hd
          split at h
          · split at h
            · rename_i hm
              have hm : ((s.int (rhoI v o)).tmod 64 == 0) = true := truL_ok hpc hm
              have hm := beq_iff_eq.1 hm
              rw [Int.tmod_eq_emod_of_nonneg (by omega)] at hm
              exact ⟨fun _ => by omega, (Option.some.inj h).symm⟩
            · cases h
          · rename_i hdt
            refine ⟨fun e2 => absurd ?_ hdt, (Option.some.inj h).symm⟩
            rw [← hd, e2]
            rfl
        obtain ⟨hdir, rfl⟩ := key
        match vs, hargs with
        | [u, u2, u3], hargs =>
          have hu : u = .int .i64 (n.int (rhoI v o)) := by rw [← hρ]; exact asI_rel hn hargs.1
          have hu2 : u2 = .int .i64 (s.int (rhoI v o)) := by rw [← hρ]; exact asI_rel hs hargs.2.1
          have hu4 : u3 = .int .u64 (st.int (rhoI v o)) := by rw [← hρ]; exact asI_rel hst hargs.2.2.1
          subst hu
          subst hu2
          subst hu4
          have hset := ino_resize his2 (n := n.int (rhoI v o)) (s := (s.int (rhoI v o)).toNat) ck (by omega) hdir (st := st.int (rhoI v o)) (inU64_oki hpc hu64)
          rw [Int.toNat_of_nonneg (by omega)] at hset
          refine acts_aoi hset fun u d ⟨hd, hu⟩ => ?_
          subst hd
          subst hu
          refine ⟨rfl, ?_⟩
          show _ = FNi 56 (.p (e.val (rhoI v o)) (.p (n.val (rhoI v o)) (.p (s.val (rhoI v o)) (st.val (rhoI v o)))))
          rw [he]
          rfl
      · cases h
    · cases h
  · cases h
/-- The rules of inodes behind handles hold. -/
theorem rIno_ok {v : Nat → D} {o : Nat → Value} {pc : List (X × Bool)} (hpc : Told (rhoI v o) pc) : ∀ g e args r, rIno pc g e args = some r → AOk Tryz.prog (rhoI v o) g e args r.1 r.2 := by
  intro g e args r h
  by_cases h1 : g = 46
  · subst h1; exact rIno_get hpc h
  by_cases h2 : g = 52
  · subst h2; exact rIno_leaf hpc h
  by_cases h3 : g = 63
  · subst h3; exact rIno_set hpc h
  by_cases h4 : g = 35
  · subst h4; exact rIno_resize hpc h
  exfalso
  unfold rIno at h
  split at h
  · first
      | (cases h; done)
      | (rw [if_neg h1, if_neg h2, if_neg h3, if_neg h4] at h; cases h)
  · cases h
end Go.Proofs.YtcnimekhpnejlaaGreat.Ev

/- block.Lay, where the text fits. -/
namespace Go.Proofs.YtcnimekhpnejlaaGreat.Ev
open Go Go.RowKit Go.Maps Go.Shelf
set_option linter.unusedVariables false
set_option linter.unusedSimpArgs false
set_option maxRecDepth 100000

theorem results_ct {P : Program} {fn : Func} {p q : Tmp} {ty : TypeId} (h : fn.results = #[.cell p ty, .tmp q]) (tmps : Array Value) (w : World) (g : Nat) (t : TypeId) (cs : Array Value) (fr : Nat × Nat) (d : TypeDesc)
    (hp : tmps.getD p undef = .pointer (some ⟨g, 0, none⟩)) (hg : w.heap[g]? = some (.cells cs t fr))
    (hu : P.underlying ty = some d) (hd : (match d with | .struct _ | .array _ _ => true | _ => false) = true) (hi : (P.info? ty).map (·.size) = some cs.size) :
    (results fn tmps).run P w = .ok (.tuple #[.agg cs, tmps.getD q undef]) w := by
  have hp' : tmps[p]?.getD undef = .pointer (some ⟨g, 0, none⟩) := by simpa using hp
  simp [results, h, hp', asAddr, run_loadVar_row w g t ty cs fr d hg hu hd hi]
theorem ibyte : (Tryz.prog.info? 5).map (·.size) = some 1 := by kernel_rfl
theorem slice_blk (a : Nat) (ha : a ≤ 256) (bk : Nat) (W : World) : (Instr.sliceAt 116 (.pointer (some ⟨bk, 0, none⟩)) (some (.int .i64 a)) none none).run Tryz.prog W = .ok (.slice (some ⟨bk, if a = 256 then 0 else a, none⟩) (256 - a) (256 - a)) W := by
  have hal : Tryz.prog.arrayLen 116 = 256 := by kernel_rfl
  have hu : Tryz.prog.underlying 116 = some (.array (Tryz.prog.arrayLen 116) (Tryz.prog.elem 116)) := by kernel_rfl
  have h1 : (Go.sizeOf (Tryz.prog.elem 116)).run Tryz.prog W = .ok 1 W := by kernel_rfl
  rw [run_sliceAt_array_l W 116 ⟨bk, 0, none⟩ hu .i64 a (by omega) (by rw [hal]; omega), h1]
  simp only [Result.andThen_ok, slicedAt, hal, Int.toNat_natCast]
  by_cases h : a = 256
  · subst h
    rfl
  · rw [if_neg (fun e => h e.symm), if_neg h]
    simp [Addr.add]
    omega
theorem over_cells {b : List UInt8} {a : Nat} {s : ByteArray} (h : a + s.size ≤ b.length) : ((cellsB b).toList.take a ++ Lib.byteCells s.data.toList ++ (cellsB b).toList.drop (a + s.size)).toArray = cellsB (overB b a s.data.toList) := by
  have hs : s.data.toList.length = s.size := (Lib.size_eq s).symm
  unfold cellsB overB Lib.byteCells
  rw [List.map_append, List.map_append, List.map_take, List.map_drop, hs]
  rfl

set_option maxRecDepth 100000 in
set_option maxHeartbeats 4000000 in
theorem blay_any (b : List UInt8) (hb : b.length = 256) (a : Nat) (s : ByteArray) (hs : a + s.size ≤ 256) (w : World) :
    Calls Tryz.prog 62 #[elBlk.val b, .int .i64 a, .string s] w fun e w' => e = .returned (.tuple #[elBlk.val (overB b a s.data.toList), .int .i64 0]) ∧ Below w.heap.size w w' := by
  have hz : ∀ w, (zeroValue 116).run Tryz.prog w = .ok (.agg (cellsB (zeros 256))) w := fun w => zero_blk w
  have hZs : (cellsB (zeros 256)).size = 256 := cellsB_size _
  have hcs : (cellsB b).size = 256 := (cellsB_size _).trans hb
  have hlen : s.data.toList.length = s.size := (Lib.size_eq s).symm
  have hD0 : (cellsB (overB b a s.data.toList)).size = 256 := by
    rw [cellsB_size, overB_length (by omega), hb]
  have hD1 := cellsB_one (overB b a s.data.toList)
  have hov : ((cellsB b).toList.take (if a = 256 then 0 else a) ++ Lib.byteCells s.data.toList ++ (cellsB b).toList.drop ((if a = 256 then 0 else a) + s.size)).toArray = cellsB (overB b a s.data.toList) := by
    by_cases h : a = 256
    · have h0 : s.size = 0 := by omega
      have h1 : s.data.toList = [] := List.eq_nil_of_length_eq_zero (by omega)
      rw [if_pos h, h1, h0, overB_nil]
      simp [Lib.byteCells]
    · rw [if_neg h]
      exact over_cells (by omega)
  have hsl := slice_blk a (by omega)
  show Calls _ _ #[.agg (cellsB b), _, _] _ fun e w' => e = .returned (.tuple #[.agg (cellsB (overB b a s.data.toList)), _]) ∧ _
  generalize cellsB (zeros 256) = Z at *
  generalize cellsB (overB b a s.data.toList) = D at *
  generalize cellsB b = C at *
  have hd0 : decide ((a : Int) < 0) = false := decide_eq_false (by omega)
  have hd1 : decide ((256 : Int) < a) = false := decide_eq_false (by omega)
  have hw : wrap64 (256 - (a : Int)) = 256 - a := by unfold wrap64; omega
  have hd2 : decide (256 - (a : Int) < (s.size : Int)) = false := decide_eq_false (by omega)
  have hg1 : ((w.alloc (Obj.cells C 116)).alloc (Obj.cells Z 116)).heap[w.heap.size]? = some (.cells C 116 (0, 0)) := (Below.heap_alloc _ _ _ (by simp)).trans (alloc_new w _)
  have hg2 : ((w.alloc (Obj.cells C 116)).alloc (Obj.cells Z 116)).heap[w.heap.size + 1]? = some (.cells Z 116 (0, 0)) := by
    have := alloc_new (w.alloc (Obj.cells C 116)) (Obj.cells Z 116)
    simpa using this
  have hcopy := Lib.run_copy_row_string (P := Tryz.prog) ((w.alloc (Obj.cells C 116)).alloc (Obj.cells Z 116)) 93 9 3 5 w.heap.size (if a = 256 then 0 else a) (256 - a) (256 - a) s C 116 Tryz.underlying93 ibyte hg1 (by omega) (by split <;> omega)
  rw [hov] at hcopy
  generalize (if a = 256 then 0 else a) = ad at *
  have hb3 : Below w.heap.size w (((w.alloc (Obj.cells C 116)).alloc (Obj.cells Z 116)).setRow w.heap.size D) :=
    below_setRow (((Below.refl _ _).alloc (Nat.le_refl _) _).alloc (by simp) _) (Nat.le_refl _) _
  have hg3 : (((w.alloc (Obj.cells C 116)).alloc (Obj.cells Z 116)).setRow w.heap.size D).heap[w.heap.size]? = some (.cells D 116 (0, 0)) := setRow_heap _ _ C D 116 (0, 0) hg1
  have hg4 : (((w.alloc (Obj.cells C 116)).alloc (Obj.cells Z 116)).setRow w.heap.size D).heap[w.heap.size + 1]? = some (.cells Z 116 (0, 0)) := (setRow_other _ _ _ D (by omega)).trans hg2
  obtain ⟨W3, hW3⟩ : ∃ W3, ((w.alloc (Obj.cells C 116)).alloc (Obj.cells Z 116)).setRow w.heap.size D = W3 := ⟨_, rfl⟩
  rw [hW3] at hb3 hg3 hg4 hcopy
  have hst := store_blk (w.heap.size + 1) Z D W3 hg4 (by omega) hD1
  have hg5 : (W3.setRow (w.heap.size + 1) D).heap[w.heap.size + 1]? = some (.cells D 116 (0, 0)) := setRow_heap _ _ Z D 116 (0, 0) hg4
  have hb5 : Below w.heap.size w (W3.setRow (w.heap.size + 1) D) := below_setRow hb3 (by omega) _
  obtain ⟨W4, hW4⟩ : ∃ W4, W3.setRow (w.heap.size + 1) D = W4 := ⟨_, rfl⟩
  rw [hW4] at hg5 hb5 hst
  go_enter Tryz.func62, Tryz.ntmps62
  go_wp2
  refine wp_load_row 116 _ rfl w.heap.size rfl 116 D (0, 0) _ hg3 Tryz.underlying116 rfl (by rw [hD0]; exact iblk) ?_
  go_wp2
  refine bodyPost_ret (results_ct rfl _ _ (w.heap.size + 1) 116 D (0, 0) _ rfl hg5 Tryz.underlying116 rfl (by rw [hD0]; exact iblk)) rfl ?_
  exact ⟨rfl, hb5⟩
end Go.Proofs.YtcnimekhpnejlaaGreat.Ev

/- The rule of block.Lay holds. -/
namespace Go.Proofs.YtcnimekhpnejlaaGreat.Ev
open Go Go.RowKit
set_option linter.unusedVariables false
set_option linter.unusedSimpArgs false
set_option maxRecDepth 10000
theorem rLayB_ok {v : Nat → D} {o : Nat → Value} {pc : List (X × Bool)} (hpc : Told (rhoI v o) pc) : ∀ g args r, rLayB pc g args = some r → POk Tryz.prog (rhoI v o) g args r := by
  intro g args r h E hρ w vs hargs
  unfold rLayB at h
  split at h
  · rename_i hg
    subst hg
    split at h
    · rename_i l y z
      obtain ⟨b, hb, h⟩ := Option.bind_eq_some_iff.1 h
      obtain ⟨⟨k, p⟩, hp, h⟩ := Option.bind_eq_some_iff.1 h
      obtain ⟨s, hs, h⟩ := Option.bind_eq_some_iff.1 h
      split at h
      · rename_i hc
        obtain ⟨e1, c1, c2, c3⟩ := hc
        have e1 : k = .i64 := e1
        subst e1
        obtain rfl := Option.some.inj h
        match vs, hargs with
        | [u, u2, u3], hargs =>
          have h1 := asBlk_inv hb hargs.1
          have h2 : u2 = .int .i64 (p.int (rhoI v o)) := by rw [← hρ]; exact asI_rel hp hargs.2.1
          have h3 : u3 = .string (s.str (rhoI v o)) := by rw [← hρ]; exact asS_rel hs hargs.2.2.1
          subst h1
          subst h2
          subst h3
          have c1 : decide (p.int (rhoI v o) < 0) = false := truL_ok hpc c1
          have c2 : decide (256 < p.int (rhoI v o)) = false := truL_ok hpc c2
          have c1 := of_decide_eq_false c1
          have c2 := of_decide_eq_false c2
          have c3 : decide (IntKind.i64.wrap (256 - p.int (rhoI v o)) < ((s.str (rhoI v o)).size : Nat)) = false := truL_ok hpc c3
          have c3 := of_decide_eq_false c3
          rw [wrap_i (n := 256 - p.int (rhoI v o)) (by omega) (by omega)] at c3
          have hlay := blay_any (pad (b.str E.ρ)) (pad_length _) (p.int (rhoI v o)).toNat (s.str (rhoI v o)) (by omega) w
          rw [Int.toNat_of_nonneg (by omega)] at hlay
          have hlen : (s.str (rhoI v o)).data.toList.length = (s.str (rhoI v o)).size := (Lib.size_eq _).symm
          refine hlay.mono fun en w' ⟨he, hB⟩ => ⟨_, he, tup2_mk ?_ rfl, hB⟩
          have h5 := blkX_rel (E := E) (.app 63 (.cons b (.cons p s)))
          have h6 : X.str E.ρ (.app 63 (.cons b (.cons p s))) = ⟨(overB (pad (b.str E.ρ)) (p.int (rhoI v o)).toNat (s.str (rhoI v o)).data.toList).toArray⟩ := by
            rw [hρ]
            rfl
          rw [h6, pad_of (by rw [overB_length (by rw [pad_length]; omega), pad_length])] at h5
          exact h5
      · cases h
    · cases h
  · cases h
theorem sumL_ok {v : Nat → D} {o : Nat → Value} {pc : List (X × Bool)} (hpc : Told (rhoI v o) pc) {R : Rules} : CallOk (ctx R (rhoI v o) pc) (sumL pc) := sumOr_ok (sumA_ok (rIno_ok hpc)) (sumP_ok (rLayB_ok hpc))
end Go.Proofs.YtcnimekhpnejlaaGreat.Ev

/- What calls come to, on all their ways (written by wip/tools/tabs.py). -/
namespace Go.Proofs.YtcnimekhpnejlaaGreat.Ev
open Go
def layT : PT := (.node (.lt (.li 0) (.len (.va 3))) (.node (.lt (.mn (.len (.va 3)) (.bin .sub .i64 (.li 256) (.bin .rem .i64 (.va 2) (.li 256)))) (.li 256)) (.node (.app 57 (.va 0)) (.node (.app 902 (.va 1)) (.node (.app 902 (.bin .quo .i64 (.va 2) (.li 256))) (.node (.lt (.bin .quo .i64 (.va 2) (.li 256)) (.li 0)) .dead (.node (.lt (.bin .quo .i64 (.va 2) (.li 256)) (.li 4096)) (.node (.lt (.va 1) (.li 1)) .dead (.node (.lt (.li 4096) (.va 1)) .dead (.node (.eq (.app 50 (.cons (.va 0) (.va 1))) (.li 0)) .dead (.node (.lt (.mn (.len (.va 3)) (.bin .sub .i64 (.li 256) (.bin .rem .i64 (.va 2) (.li 256)))) (.li 0)) .dead (.node (.lt (.len (.va 3)) (.mn (.len (.va 3)) (.bin .sub .i64 (.li 256) (.bin .rem .i64 (.va 2) (.li 256))))) .dead (.node (.lt (.bin .rem .i64 (.va 2) (.li 256)) (.li 0)) .dead (.node (.lt (.li 256) (.bin .rem .i64 (.va 2) (.li 256))) .dead (.node (.lt (.bin .sub .i64 (.li 256) (.bin .rem .i64 (.va 2) (.li 256))) (.len (.sub (.va 3) (.li 0) (.mn (.len (.va 3)) (.bin .sub .i64 (.li 256) (.bin .rem .i64 (.va 2) (.li 256))))))) .dead (.node (.app 59 (.va 4)) (.node (.app 58 (.cons (.va 0) (.cons (.va 1) (.bin .quo .i64 (.va 2) (.li 256))))) .leaf .dead) .dead))))))))) .dead)) .dead) .dead) .dead) (.node (.lt (.mn (.len (.va 3)) (.bin .sub .i64 (.li 256) (.bin .rem .i64 (.va 2) (.li 256)))) (.li 0)) .dead (.node (.lt (.len (.va 3)) (.mn (.len (.va 3)) (.bin .sub .i64 (.li 256) (.bin .rem .i64 (.va 2) (.li 256))))) .dead (.node (.lt (.bin .rem .i64 (.va 2) (.li 256)) (.li 0)) .dead (.node (.lt (.li 256) (.bin .rem .i64 (.va 2) (.li 256))) .dead (.node (.lt (.bin .sub .i64 (.li 256) (.bin .rem .i64 (.va 2) (.li 256))) (.len (.sub (.va 3) (.li 0) (.mn (.len (.va 3)) (.bin .sub .i64 (.li 256) (.bin .rem .i64 (.va 2) (.li 256))))))) .dead (.node (.app 57 (.va 0)) (.node (.app 59 (.va 4)) (.node (.eq (.app 50 (.cons (.va 0) (.va 1))) (.li 0)) .dead (.node (.app 58 (.cons (.va 0) (.cons (.va 1) (.bin .quo .i64 (.va 2) (.li 256))))) .leaf .dead)) .dead) .dead))))))) .leaf)
def layL : List (List (X × Bool) × Option (List CodeV)) := [
  ([((.lt (.bin .quo .i64 (.va 2) (.li 256)) (.li 0)), true), ((.app 902 (.bin .quo .i64 (.va 2) (.li 256))), true), ((.app 902 (.va 1)), true), ((.app 57 (.va 0)), true), ((.lt (.mn (.len (.va 3)) (.bin .sub .i64 (.li 256) (.bin .rem .i64 (.va 2) (.li 256)))) (.li 256)), true), ((.lt (.li 0) (.len (.va 3))), true)], none),
  ([((.lt (.va 1) (.li 1)), true), ((.lt (.bin .quo .i64 (.va 2) (.li 256)) (.li 4096)), true), ((.lt (.bin .quo .i64 (.va 2) (.li 256)) (.li 0)), false), ((.app 902 (.bin .quo .i64 (.va 2) (.li 256))), true), ((.app 902 (.va 1)), true), ((.app 57 (.va 0)), true), ((.lt (.mn (.len (.va 3)) (.bin .sub .i64 (.li 256) (.bin .rem .i64 (.va 2) (.li 256)))) (.li 256)), true), ((.lt (.li 0) (.len (.va 3))), true)], none),
  ([((.lt (.li 4096) (.va 1)), true), ((.lt (.va 1) (.li 1)), false), ((.lt (.bin .quo .i64 (.va 2) (.li 256)) (.li 4096)), true), ((.lt (.bin .quo .i64 (.va 2) (.li 256)) (.li 0)), false), ((.app 902 (.bin .quo .i64 (.va 2) (.li 256))), true), ((.app 902 (.va 1)), true), ((.app 57 (.va 0)), true), ((.lt (.mn (.len (.va 3)) (.bin .sub .i64 (.li 256) (.bin .rem .i64 (.va 2) (.li 256)))) (.li 256)), true), ((.lt (.li 0) (.len (.va 3))), true)], none),
  ([((.eq (.app 50 (.cons (.va 0) (.va 1))) (.li 0)), true), ((.lt (.li 4096) (.va 1)), false), ((.lt (.va 1) (.li 1)), false), ((.lt (.bin .quo .i64 (.va 2) (.li 256)) (.li 4096)), true), ((.lt (.bin .quo .i64 (.va 2) (.li 256)) (.li 0)), false), ((.app 902 (.bin .quo .i64 (.va 2) (.li 256))), true), ((.app 902 (.va 1)), true), ((.app 57 (.va 0)), true), ((.lt (.mn (.len (.va 3)) (.bin .sub .i64 (.li 256) (.bin .rem .i64 (.va 2) (.li 256)))) (.li 256)), true), ((.lt (.li 0) (.len (.va 3))), true)], none),
  ([((.lt (.mn (.len (.va 3)) (.bin .sub .i64 (.li 256) (.bin .rem .i64 (.va 2) (.li 256)))) (.li 0)), true), ((.eq (.app 50 (.cons (.va 0) (.va 1))) (.li 0)), false), ((.lt (.li 4096) (.va 1)), false), ((.lt (.va 1) (.li 1)), false), ((.lt (.bin .quo .i64 (.va 2) (.li 256)) (.li 4096)), true), ((.lt (.bin .quo .i64 (.va 2) (.li 256)) (.li 0)), false), ((.app 902 (.bin .quo .i64 (.va 2) (.li 256))), true), ((.app 902 (.va 1)), true), ((.app 57 (.va 0)), true), ((.lt (.mn (.len (.va 3)) (.bin .sub .i64 (.li 256) (.bin .rem .i64 (.va 2) (.li 256)))) (.li 256)), true), ((.lt (.li 0) (.len (.va 3))), true)], none),
  ([((.lt (.len (.va 3)) (.mn (.len (.va 3)) (.bin .sub .i64 (.li 256) (.bin .rem .i64 (.va 2) (.li 256))))), true), ((.lt (.mn (.len (.va 3)) (.bin .sub .i64 (.li 256) (.bin .rem .i64 (.va 2) (.li 256)))) (.li 0)), false), ((.eq (.app 50 (.cons (.va 0) (.va 1))) (.li 0)), false), ((.lt (.li 4096) (.va 1)), false), ((.lt (.va 1) (.li 1)), false), ((.lt (.bin .quo .i64 (.va 2) (.li 256)) (.li 4096)), true), ((.lt (.bin .quo .i64 (.va 2) (.li 256)) (.li 0)), false), ((.app 902 (.bin .quo .i64 (.va 2) (.li 256))), true), ((.app 902 (.va 1)), true), ((.app 57 (.va 0)), true), ((.lt (.mn (.len (.va 3)) (.bin .sub .i64 (.li 256) (.bin .rem .i64 (.va 2) (.li 256)))) (.li 256)), true), ((.lt (.li 0) (.len (.va 3))), true)], none),
  ([((.lt (.bin .rem .i64 (.va 2) (.li 256)) (.li 0)), true), ((.lt (.len (.va 3)) (.mn (.len (.va 3)) (.bin .sub .i64 (.li 256) (.bin .rem .i64 (.va 2) (.li 256))))), false), ((.lt (.mn (.len (.va 3)) (.bin .sub .i64 (.li 256) (.bin .rem .i64 (.va 2) (.li 256)))) (.li 0)), false), ((.eq (.app 50 (.cons (.va 0) (.va 1))) (.li 0)), false), ((.lt (.li 4096) (.va 1)), false), ((.lt (.va 1) (.li 1)), false), ((.lt (.bin .quo .i64 (.va 2) (.li 256)) (.li 4096)), true), ((.lt (.bin .quo .i64 (.va 2) (.li 256)) (.li 0)), false), ((.app 902 (.bin .quo .i64 (.va 2) (.li 256))), true), ((.app 902 (.va 1)), true), ((.app 57 (.va 0)), true), ((.lt (.mn (.len (.va 3)) (.bin .sub .i64 (.li 256) (.bin .rem .i64 (.va 2) (.li 256)))) (.li 256)), true), ((.lt (.li 0) (.len (.va 3))), true)], none),
  ([((.lt (.li 256) (.bin .rem .i64 (.va 2) (.li 256))), true), ((.lt (.bin .rem .i64 (.va 2) (.li 256)) (.li 0)), false), ((.lt (.len (.va 3)) (.mn (.len (.va 3)) (.bin .sub .i64 (.li 256) (.bin .rem .i64 (.va 2) (.li 256))))), false), ((.lt (.mn (.len (.va 3)) (.bin .sub .i64 (.li 256) (.bin .rem .i64 (.va 2) (.li 256)))) (.li 0)), false), ((.eq (.app 50 (.cons (.va 0) (.va 1))) (.li 0)), false), ((.lt (.li 4096) (.va 1)), false), ((.lt (.va 1) (.li 1)), false), ((.lt (.bin .quo .i64 (.va 2) (.li 256)) (.li 4096)), true), ((.lt (.bin .quo .i64 (.va 2) (.li 256)) (.li 0)), false), ((.app 902 (.bin .quo .i64 (.va 2) (.li 256))), true), ((.app 902 (.va 1)), true), ((.app 57 (.va 0)), true), ((.lt (.mn (.len (.va 3)) (.bin .sub .i64 (.li 256) (.bin .rem .i64 (.va 2) (.li 256)))) (.li 256)), true), ((.lt (.li 0) (.len (.va 3))), true)], none),
  ([((.lt (.bin .sub .i64 (.li 256) (.bin .rem .i64 (.va 2) (.li 256))) (.len (.sub (.va 3) (.li 0) (.mn (.len (.va 3)) (.bin .sub .i64 (.li 256) (.bin .rem .i64 (.va 2) (.li 256))))))), true), ((.lt (.li 256) (.bin .rem .i64 (.va 2) (.li 256))), false), ((.lt (.bin .rem .i64 (.va 2) (.li 256)) (.li 0)), false), ((.lt (.len (.va 3)) (.mn (.len (.va 3)) (.bin .sub .i64 (.li 256) (.bin .rem .i64 (.va 2) (.li 256))))), false), ((.lt (.mn (.len (.va 3)) (.bin .sub .i64 (.li 256) (.bin .rem .i64 (.va 2) (.li 256)))) (.li 0)), false), ((.eq (.app 50 (.cons (.va 0) (.va 1))) (.li 0)), false), ((.lt (.li 4096) (.va 1)), false), ((.lt (.va 1) (.li 1)), false), ((.lt (.bin .quo .i64 (.va 2) (.li 256)) (.li 4096)), true), ((.lt (.bin .quo .i64 (.va 2) (.li 256)) (.li 0)), false), ((.app 902 (.bin .quo .i64 (.va 2) (.li 256))), true), ((.app 902 (.va 1)), true), ((.app 57 (.va 0)), true), ((.lt (.mn (.len (.va 3)) (.bin .sub .i64 (.li 256) (.bin .rem .i64 (.va 2) (.li 256)))) (.li 256)), true), ((.lt (.li 0) (.len (.va 3))), true)], none),
  ([((.app 58 (.cons (.va 0) (.cons (.va 1) (.bin .quo .i64 (.va 2) (.li 256))))), true), ((.app 59 (.va 4)), true), ((.lt (.bin .sub .i64 (.li 256) (.bin .rem .i64 (.va 2) (.li 256))) (.len (.sub (.va 3) (.li 0) (.mn (.len (.va 3)) (.bin .sub .i64 (.li 256) (.bin .rem .i64 (.va 2) (.li 256))))))), false), ((.lt (.li 256) (.bin .rem .i64 (.va 2) (.li 256))), false), ((.lt (.bin .rem .i64 (.va 2) (.li 256)) (.li 0)), false), ((.lt (.len (.va 3)) (.mn (.len (.va 3)) (.bin .sub .i64 (.li 256) (.bin .rem .i64 (.va 2) (.li 256))))), false), ((.lt (.mn (.len (.va 3)) (.bin .sub .i64 (.li 256) (.bin .rem .i64 (.va 2) (.li 256)))) (.li 0)), false), ((.eq (.app 50 (.cons (.va 0) (.va 1))) (.li 0)), false), ((.lt (.li 4096) (.va 1)), false), ((.lt (.va 1) (.li 1)), false), ((.lt (.bin .quo .i64 (.va 2) (.li 256)) (.li 4096)), true), ((.lt (.bin .quo .i64 (.va 2) (.li 256)) (.li 0)), false), ((.app 902 (.bin .quo .i64 (.va 2) (.li 256))), true), ((.app 902 (.va 1)), true), ((.app 57 (.va 0)), true), ((.lt (.mn (.len (.va 3)) (.bin .sub .i64 (.li 256) (.bin .rem .i64 (.va 2) (.li 256)))) (.li 256)), true), ((.lt (.li 0) (.len (.va 3))), true)], some [(.normal, [some (.a (.s (.ptr 0 0))), some (.a (.s (.xi .i64 (.va 1)))), some (.a (.s (.xi .i64 (.bin .add .i64 (.va 2) (.mn (.len (.va 3)) (.bin .sub .i64 (.li 256) (.bin .rem .i64 (.va 2) (.li 256)))))))), some (.a (.s (.xs (.sub (.va 3) (.mn (.len (.va 3)) (.bin .sub .i64 (.li 256) (.bin .rem .i64 (.va 2) (.li 256)))) (.len (.va 3)))))), some (.a (.s (.xi .u64 (.va 4))))], [some (.abs (.app 55 (.cons (.va 0) (.cons (.va 1) (.cons (.bin .quo .i64 (.va 2) (.li 256)) (.cons (.app 63 (.cons (.app 54 (.cons (.va 0) (.cons (.va 1) (.bin .quo .i64 (.va 2) (.li 256))))) (.cons (.bin .rem .i64 (.va 2) (.li 256)) (.sub (.va 3) (.li 0) (.mn (.len (.va 3)) (.bin .sub .i64 (.li 256) (.bin .rem .i64 (.va 2) (.li 256)))))))) (.va 4)))))))])]),
  ([((.app 58 (.cons (.va 0) (.cons (.va 1) (.bin .quo .i64 (.va 2) (.li 256))))), false), ((.app 59 (.va 4)), true), ((.lt (.bin .sub .i64 (.li 256) (.bin .rem .i64 (.va 2) (.li 256))) (.len (.sub (.va 3) (.li 0) (.mn (.len (.va 3)) (.bin .sub .i64 (.li 256) (.bin .rem .i64 (.va 2) (.li 256))))))), false), ((.lt (.li 256) (.bin .rem .i64 (.va 2) (.li 256))), false), ((.lt (.bin .rem .i64 (.va 2) (.li 256)) (.li 0)), false), ((.lt (.len (.va 3)) (.mn (.len (.va 3)) (.bin .sub .i64 (.li 256) (.bin .rem .i64 (.va 2) (.li 256))))), false), ((.lt (.mn (.len (.va 3)) (.bin .sub .i64 (.li 256) (.bin .rem .i64 (.va 2) (.li 256)))) (.li 0)), false), ((.eq (.app 50 (.cons (.va 0) (.va 1))) (.li 0)), false), ((.lt (.li 4096) (.va 1)), false), ((.lt (.va 1) (.li 1)), false), ((.lt (.bin .quo .i64 (.va 2) (.li 256)) (.li 4096)), true), ((.lt (.bin .quo .i64 (.va 2) (.li 256)) (.li 0)), false), ((.app 902 (.bin .quo .i64 (.va 2) (.li 256))), true), ((.app 902 (.va 1)), true), ((.app 57 (.va 0)), true), ((.lt (.mn (.len (.va 3)) (.bin .sub .i64 (.li 256) (.bin .rem .i64 (.va 2) (.li 256)))) (.li 256)), true), ((.lt (.li 0) (.len (.va 3))), true)], none),
  ([((.app 59 (.va 4)), false), ((.lt (.bin .sub .i64 (.li 256) (.bin .rem .i64 (.va 2) (.li 256))) (.len (.sub (.va 3) (.li 0) (.mn (.len (.va 3)) (.bin .sub .i64 (.li 256) (.bin .rem .i64 (.va 2) (.li 256))))))), false), ((.lt (.li 256) (.bin .rem .i64 (.va 2) (.li 256))), false), ((.lt (.bin .rem .i64 (.va 2) (.li 256)) (.li 0)), false), ((.lt (.len (.va 3)) (.mn (.len (.va 3)) (.bin .sub .i64 (.li 256) (.bin .rem .i64 (.va 2) (.li 256))))), false), ((.lt (.mn (.len (.va 3)) (.bin .sub .i64 (.li 256) (.bin .rem .i64 (.va 2) (.li 256)))) (.li 0)), false), ((.eq (.app 50 (.cons (.va 0) (.va 1))) (.li 0)), false), ((.lt (.li 4096) (.va 1)), false), ((.lt (.va 1) (.li 1)), false), ((.lt (.bin .quo .i64 (.va 2) (.li 256)) (.li 4096)), true), ((.lt (.bin .quo .i64 (.va 2) (.li 256)) (.li 0)), false), ((.app 902 (.bin .quo .i64 (.va 2) (.li 256))), true), ((.app 902 (.va 1)), true), ((.app 57 (.va 0)), true), ((.lt (.mn (.len (.va 3)) (.bin .sub .i64 (.li 256) (.bin .rem .i64 (.va 2) (.li 256)))) (.li 256)), true), ((.lt (.li 0) (.len (.va 3))), true)], none),
  ([((.lt (.bin .quo .i64 (.va 2) (.li 256)) (.li 4096)), false), ((.lt (.bin .quo .i64 (.va 2) (.li 256)) (.li 0)), false), ((.app 902 (.bin .quo .i64 (.va 2) (.li 256))), true), ((.app 902 (.va 1)), true), ((.app 57 (.va 0)), true), ((.lt (.mn (.len (.va 3)) (.bin .sub .i64 (.li 256) (.bin .rem .i64 (.va 2) (.li 256)))) (.li 256)), true), ((.lt (.li 0) (.len (.va 3))), true)], none),
  ([((.app 902 (.bin .quo .i64 (.va 2) (.li 256))), false), ((.app 902 (.va 1)), true), ((.app 57 (.va 0)), true), ((.lt (.mn (.len (.va 3)) (.bin .sub .i64 (.li 256) (.bin .rem .i64 (.va 2) (.li 256)))) (.li 256)), true), ((.lt (.li 0) (.len (.va 3))), true)], none),
  ([((.app 902 (.va 1)), false), ((.app 57 (.va 0)), true), ((.lt (.mn (.len (.va 3)) (.bin .sub .i64 (.li 256) (.bin .rem .i64 (.va 2) (.li 256)))) (.li 256)), true), ((.lt (.li 0) (.len (.va 3))), true)], none),
  ([((.app 57 (.va 0)), false), ((.lt (.mn (.len (.va 3)) (.bin .sub .i64 (.li 256) (.bin .rem .i64 (.va 2) (.li 256)))) (.li 256)), true), ((.lt (.li 0) (.len (.va 3))), true)], none),
  ([((.lt (.mn (.len (.va 3)) (.bin .sub .i64 (.li 256) (.bin .rem .i64 (.va 2) (.li 256)))) (.li 0)), true), ((.lt (.mn (.len (.va 3)) (.bin .sub .i64 (.li 256) (.bin .rem .i64 (.va 2) (.li 256)))) (.li 256)), false), ((.lt (.li 0) (.len (.va 3))), true)], none),
  ([((.lt (.len (.va 3)) (.mn (.len (.va 3)) (.bin .sub .i64 (.li 256) (.bin .rem .i64 (.va 2) (.li 256))))), true), ((.lt (.mn (.len (.va 3)) (.bin .sub .i64 (.li 256) (.bin .rem .i64 (.va 2) (.li 256)))) (.li 0)), false), ((.lt (.mn (.len (.va 3)) (.bin .sub .i64 (.li 256) (.bin .rem .i64 (.va 2) (.li 256)))) (.li 256)), false), ((.lt (.li 0) (.len (.va 3))), true)], none),
  ([((.lt (.bin .rem .i64 (.va 2) (.li 256)) (.li 0)), true), ((.lt (.len (.va 3)) (.mn (.len (.va 3)) (.bin .sub .i64 (.li 256) (.bin .rem .i64 (.va 2) (.li 256))))), false), ((.lt (.mn (.len (.va 3)) (.bin .sub .i64 (.li 256) (.bin .rem .i64 (.va 2) (.li 256)))) (.li 0)), false), ((.lt (.mn (.len (.va 3)) (.bin .sub .i64 (.li 256) (.bin .rem .i64 (.va 2) (.li 256)))) (.li 256)), false), ((.lt (.li 0) (.len (.va 3))), true)], none),
  ([((.lt (.li 256) (.bin .rem .i64 (.va 2) (.li 256))), true), ((.lt (.bin .rem .i64 (.va 2) (.li 256)) (.li 0)), false), ((.lt (.len (.va 3)) (.mn (.len (.va 3)) (.bin .sub .i64 (.li 256) (.bin .rem .i64 (.va 2) (.li 256))))), false), ((.lt (.mn (.len (.va 3)) (.bin .sub .i64 (.li 256) (.bin .rem .i64 (.va 2) (.li 256)))) (.li 0)), false), ((.lt (.mn (.len (.va 3)) (.bin .sub .i64 (.li 256) (.bin .rem .i64 (.va 2) (.li 256)))) (.li 256)), false), ((.lt (.li 0) (.len (.va 3))), true)], none),
  ([((.lt (.bin .sub .i64 (.li 256) (.bin .rem .i64 (.va 2) (.li 256))) (.len (.sub (.va 3) (.li 0) (.mn (.len (.va 3)) (.bin .sub .i64 (.li 256) (.bin .rem .i64 (.va 2) (.li 256))))))), true), ((.lt (.li 256) (.bin .rem .i64 (.va 2) (.li 256))), false), ((.lt (.bin .rem .i64 (.va 2) (.li 256)) (.li 0)), false), ((.lt (.len (.va 3)) (.mn (.len (.va 3)) (.bin .sub .i64 (.li 256) (.bin .rem .i64 (.va 2) (.li 256))))), false), ((.lt (.mn (.len (.va 3)) (.bin .sub .i64 (.li 256) (.bin .rem .i64 (.va 2) (.li 256)))) (.li 0)), false), ((.lt (.mn (.len (.va 3)) (.bin .sub .i64 (.li 256) (.bin .rem .i64 (.va 2) (.li 256)))) (.li 256)), false), ((.lt (.li 0) (.len (.va 3))), true)], none),
  ([((.eq (.app 50 (.cons (.va 0) (.va 1))) (.li 0)), true), ((.app 59 (.va 4)), true), ((.app 57 (.va 0)), true), ((.lt (.bin .sub .i64 (.li 256) (.bin .rem .i64 (.va 2) (.li 256))) (.len (.sub (.va 3) (.li 0) (.mn (.len (.va 3)) (.bin .sub .i64 (.li 256) (.bin .rem .i64 (.va 2) (.li 256))))))), false), ((.lt (.li 256) (.bin .rem .i64 (.va 2) (.li 256))), false), ((.lt (.bin .rem .i64 (.va 2) (.li 256)) (.li 0)), false), ((.lt (.len (.va 3)) (.mn (.len (.va 3)) (.bin .sub .i64 (.li 256) (.bin .rem .i64 (.va 2) (.li 256))))), false), ((.lt (.mn (.len (.va 3)) (.bin .sub .i64 (.li 256) (.bin .rem .i64 (.va 2) (.li 256)))) (.li 0)), false), ((.lt (.mn (.len (.va 3)) (.bin .sub .i64 (.li 256) (.bin .rem .i64 (.va 2) (.li 256)))) (.li 256)), false), ((.lt (.li 0) (.len (.va 3))), true)], none),
  ([((.app 58 (.cons (.va 0) (.cons (.va 1) (.bin .quo .i64 (.va 2) (.li 256))))), true), ((.eq (.app 50 (.cons (.va 0) (.va 1))) (.li 0)), false), ((.app 59 (.va 4)), true), ((.app 57 (.va 0)), true), ((.lt (.bin .sub .i64 (.li 256) (.bin .rem .i64 (.va 2) (.li 256))) (.len (.sub (.va 3) (.li 0) (.mn (.len (.va 3)) (.bin .sub .i64 (.li 256) (.bin .rem .i64 (.va 2) (.li 256))))))), false), ((.lt (.li 256) (.bin .rem .i64 (.va 2) (.li 256))), false), ((.lt (.bin .rem .i64 (.va 2) (.li 256)) (.li 0)), false), ((.lt (.len (.va 3)) (.mn (.len (.va 3)) (.bin .sub .i64 (.li 256) (.bin .rem .i64 (.va 2) (.li 256))))), false), ((.lt (.mn (.len (.va 3)) (.bin .sub .i64 (.li 256) (.bin .rem .i64 (.va 2) (.li 256)))) (.li 0)), false), ((.lt (.mn (.len (.va 3)) (.bin .sub .i64 (.li 256) (.bin .rem .i64 (.va 2) (.li 256)))) (.li 256)), false), ((.lt (.li 0) (.len (.va 3))), true)], some [(.normal, [some (.a (.s (.ptr 0 0))), some (.a (.s (.xi .i64 (.va 1)))), some (.a (.s (.xi .i64 (.bin .add .i64 (.va 2) (.mn (.len (.va 3)) (.bin .sub .i64 (.li 256) (.bin .rem .i64 (.va 2) (.li 256)))))))), some (.a (.s (.xs (.sub (.va 3) (.mn (.len (.va 3)) (.bin .sub .i64 (.li 256) (.bin .rem .i64 (.va 2) (.li 256)))) (.len (.va 3)))))), some (.a (.s (.xi .u64 (.va 4))))], [some (.abs (.app 55 (.cons (.va 0) (.cons (.va 1) (.cons (.bin .quo .i64 (.va 2) (.li 256)) (.cons (.app 63 (.cons (.ls zeroB) (.cons (.bin .rem .i64 (.va 2) (.li 256)) (.sub (.va 3) (.li 0) (.mn (.len (.va 3)) (.bin .sub .i64 (.li 256) (.bin .rem .i64 (.va 2) (.li 256)))))))) (.va 4)))))))])]),
  ([((.app 58 (.cons (.va 0) (.cons (.va 1) (.bin .quo .i64 (.va 2) (.li 256))))), false), ((.eq (.app 50 (.cons (.va 0) (.va 1))) (.li 0)), false), ((.app 59 (.va 4)), true), ((.app 57 (.va 0)), true), ((.lt (.bin .sub .i64 (.li 256) (.bin .rem .i64 (.va 2) (.li 256))) (.len (.sub (.va 3) (.li 0) (.mn (.len (.va 3)) (.bin .sub .i64 (.li 256) (.bin .rem .i64 (.va 2) (.li 256))))))), false), ((.lt (.li 256) (.bin .rem .i64 (.va 2) (.li 256))), false), ((.lt (.bin .rem .i64 (.va 2) (.li 256)) (.li 0)), false), ((.lt (.len (.va 3)) (.mn (.len (.va 3)) (.bin .sub .i64 (.li 256) (.bin .rem .i64 (.va 2) (.li 256))))), false), ((.lt (.mn (.len (.va 3)) (.bin .sub .i64 (.li 256) (.bin .rem .i64 (.va 2) (.li 256)))) (.li 0)), false), ((.lt (.mn (.len (.va 3)) (.bin .sub .i64 (.li 256) (.bin .rem .i64 (.va 2) (.li 256)))) (.li 256)), false), ((.lt (.li 0) (.len (.va 3))), true)], none),
  ([((.app 59 (.va 4)), false), ((.app 57 (.va 0)), true), ((.lt (.bin .sub .i64 (.li 256) (.bin .rem .i64 (.va 2) (.li 256))) (.len (.sub (.va 3) (.li 0) (.mn (.len (.va 3)) (.bin .sub .i64 (.li 256) (.bin .rem .i64 (.va 2) (.li 256))))))), false), ((.lt (.li 256) (.bin .rem .i64 (.va 2) (.li 256))), false), ((.lt (.bin .rem .i64 (.va 2) (.li 256)) (.li 0)), false), ((.lt (.len (.va 3)) (.mn (.len (.va 3)) (.bin .sub .i64 (.li 256) (.bin .rem .i64 (.va 2) (.li 256))))), false), ((.lt (.mn (.len (.va 3)) (.bin .sub .i64 (.li 256) (.bin .rem .i64 (.va 2) (.li 256)))) (.li 0)), false), ((.lt (.mn (.len (.va 3)) (.bin .sub .i64 (.li 256) (.bin .rem .i64 (.va 2) (.li 256)))) (.li 256)), false), ((.lt (.li 0) (.len (.va 3))), true)], none),
  ([((.app 57 (.va 0)), false), ((.lt (.bin .sub .i64 (.li 256) (.bin .rem .i64 (.va 2) (.li 256))) (.len (.sub (.va 3) (.li 0) (.mn (.len (.va 3)) (.bin .sub .i64 (.li 256) (.bin .rem .i64 (.va 2) (.li 256))))))), false), ((.lt (.li 256) (.bin .rem .i64 (.va 2) (.li 256))), false), ((.lt (.bin .rem .i64 (.va 2) (.li 256)) (.li 0)), false), ((.lt (.len (.va 3)) (.mn (.len (.va 3)) (.bin .sub .i64 (.li 256) (.bin .rem .i64 (.va 2) (.li 256))))), false), ((.lt (.mn (.len (.va 3)) (.bin .sub .i64 (.li 256) (.bin .rem .i64 (.va 2) (.li 256)))) (.li 0)), false), ((.lt (.mn (.len (.va 3)) (.bin .sub .i64 (.li 256) (.bin .rem .i64 (.va 2) (.li 256)))) (.li 256)), false), ((.lt (.li 0) (.len (.va 3))), true)], none),
  ([((.lt (.li 0) (.len (.va 3))), false)], some [((.exit 0), [some (.a (.s (.ptr 0 0))), some (.a (.s (.xi .i64 (.va 1)))), some (.a (.s (.xi .i64 (.va 2)))), some (.a (.s (.xs (.va 3)))), some (.a (.s (.xi .u64 (.va 4))))], [some (.abs (.va 0))])])]
end Go.Proofs.YtcnimekhpnejlaaGreat.Ev

/- What calls come to, on all their ways (written by wip/tools/tabs.py). -/
namespace Go.Proofs.YtcnimekhpnejlaaGreat.Ev
open Go
def cloT : PT := (.node (.app 36 (.va 2)) (.node (.lt (.va 1) (.li 1)) .dead (.node (.lt (.li 4096) (.va 1)) .dead .leaf)) .dead)
def cloL : List (List (X × Bool) × Option (List CodeV)) := [
  ([((.lt (.va 1) (.li 1)), true), ((.app 36 (.va 2)), true)], none),
  ([((.lt (.li 4096) (.va 1)), true), ((.lt (.va 1) (.li 1)), false), ((.app 36 (.va 2)), true)], none),
  ([((.lt (.li 4096) (.va 1)), false), ((.lt (.va 1) (.li 1)), false), ((.app 36 (.va 2)), true)], some [(.normal, [some (.a (.s (.ptr 1 0))), some (.a (.s (.op 1)))], [some (.opq (.va 0) [((.va 1), 5), ((.li 0), 1)]), some (.cells 107 (inoL 0)), some (.cells 100 [(.xi .i64 (.va 1)), (.xi .i64 (.va 3)), (.xi .i64 (.va 4)), (.xi .i64 (.va 5)), (.xi .u64 (.va 6)), (.ptr 3 0)]), some (.abs (.va 2)), some (.abs (.va 2)), some (.cells 100 [(.xi .i64 (.va 1)), (.xi .i64 (.va 3)), (.xi .i64 (.va 4)), (.xi .i64 (.va 5)), (.xi .u64 (.va 6)), (.ptr 4 0)]), none])]),
  ([((.app 36 (.va 2)), false)], none)]
end Go.Proofs.YtcnimekhpnejlaaGreat.Ev

/- Inodes: Clone's round. -/
namespace Go.Proofs.YtcnimekhpnejlaaGreat.Ev
open Go Go.RowKit
set_option linter.unusedVariables false
set_option linter.unusedSimpArgs false
set_option maxRecDepth 10000

/-- The memory of Clone's round: the new map, the new inodes, the inode that has come, its tree. -/
def cloBs : List Blk := [.opq (.va 0) [(.li 0, 1)], .cells 107 none (Cells.ofList (inoL 0)) false, .cells 100 none (Cells.ofList (workL (.xi .i64 (.va 1)) (.xi .i64 (.va 3)) (.xi .i64 (.va 4)) (.xi .i64 (.va 5)) (.xi .u64 (.va 6)) 3)) false, .abs (.va 2)]
def cloS : S := ⟨(((T.set .nil 3 (EV.a (.s (.ptr 1 0)))).set 4 (.a (.s (.xi .i64 (.va 1))))).set 5 (.a (.s (.ptr 2 0)))).set 17 (.a (.s (.op 1))), memL cloBs, 4⟩
noncomputable def cloC : Code := codeAt (Tryz.f19.body.getD .skip) [1, 1, 1, 1, 0, 1, 0, 0, 1, 1, 0, 1]
theorem clo_ev (ρ : Rho) : ways (fun pc => (evCode (ctx rules ρ pc) funT.get (evCall (ctx rules ρ pc) funT.get (sumH pc) 100000 1000) Tryz.f19.ntmps 100000 cloC cloS).map (viewC [3, 17] [0, 1, 2, 3, 4, 5, 6])) cloT [] = some cloL := by kernel_rfl
end Go.Proofs.YtcnimekhpnejlaaGreat.Ev

/- What calls come to, on all their ways (written by wip/tools/tabs.py). -/
namespace Go.Proofs.YtcnimekhpnejlaaGreat.Ev
open Go
def claT : PT := .leaf
def claL : List (List (X × Bool) × Option (List CodeV)) := [
  ([], some [(.normal, [none, none], [some (.cells 107 (inoL 1)), some (.opq (.va 0) [((.li 0), 0)]), none, none, none])])]
def clbT : PT := .leaf
def clbL : List (List (X × Bool) × Option (List CodeV)) := [
  ([], some [(.normal, [some (.a (.s (.ptr 0 0))), some (.a (.s (.ptr 2 0)))], [some (.cells 107 (inoL 1)), some (.opq (.va 0) [((.li 0), 0)]), some (.cells 107 (inoL 3)), some .empty, none])])]
end Go.Proofs.YtcnimekhpnejlaaGreat.Ev

/- Inodes: Clone ahead of its loop. -/
namespace Go.Proofs.YtcnimekhpnejlaaGreat.Ev
open Go Go.RowKit
set_option linter.unusedVariables false
set_option linter.unusedSimpArgs false
set_option maxRecDepth 10000
noncomputable def cloP : List Code := [codeAt (Tryz.f19.body.getD .skip) [0], codeAt (Tryz.f19.body.getD .skip) [1, 0], codeAt (Tryz.f19.body.getD .skip) [1, 1, 0], codeAt (Tryz.f19.body.getD .skip) [1, 1, 1, 0]]
def clbS : S := ⟨T.set .nil 0 (EV.a (.s (.ptr 0 0))), inoA, 2⟩
theorem clb_ev (ρ : Rho) : ways (fun pc => (evCode (ctx rules ρ pc) funT.get (evCall (ctx rules ρ pc) funT.get (sumH pc) 100000 1000) Tryz.f19.ntmps 100000 (seqs cloP .skip) clbS).map (viewC [0, 3] [0, 1, 2, 3, 4])) clbT [] = some clbL := by kernel_rfl
end Go.Proofs.YtcnimekhpnejlaaGreat.Ev

/- Inodes: how far Clone has come. -/
namespace Go.Proofs.YtcnimekhpnejlaaGreat.Ev
open Go Go.RowKit
set_option linter.unusedVariables false
set_option linter.unusedSimpArgs false
set_option maxRecDepth 10000

def cloO (c r : Value) (i : Nat) : Value := if i = 1 then r else c
abbrev LL := Int → Option (Nat × Nat × Nat)
def seenS (S : Int → Nd) (Ly : LL) : Int → Nd := fun k => if (Ly k).isSome = true then S k else Nd.none
/-- How far Clone has come: x as it was; y, of what is not left. -/
structure Clos (w : World) (x m : Nat) (S : Int → Nd) (L : LL) (y my : Nat) (wr : World) (Lx Ly : LL) (left : Int → Bool) : Prop where
  xs : Inos Tryz.prog wr x S m Lx
  same : ∀ k, (Lx k).map (·.1) = (L k).map (·.1)
  xown : ∀ j, ownBlk x m Lx j → ownBlk x m L j ∨ w.heap.size ≤ j
  ys : Inos Tryz.prog wr y (seenS S Ly) my Ly
  yown : ∀ j, ownBlk y my Ly j → (ownBlk x m L j ∨ w.heap.size ≤ j) ∧ ¬ ownBlk x m Lx j
  seen : ∀ k, (Ly k).isSome = ((L k).isSome && !left k)
  but : But (ownBlk x m L) w wr

section
variable {w wr w' : World} {x m y my : Nat} {S : Int → Nd} {L Lx Ly : LL} {left : Int → Bool}
theorem Clos.kept (h : Clos w x m S L y my wr Lx Ly left) (hx : ∀ k, ownBlk x m Lx k → w'.heap[k]? = wr.heap[k]?) (hy : ∀ k, ownBlk y my Ly k → w'.heap[k]? = wr.heap[k]?) (hb : But (ownBlk x m L) w w') : Clos w x m S L y my w' Lx Ly left :=
  ⟨h.xs.kept hx, h.same, h.xown, h.ys.kept hy, h.yown, h.seen, hb⟩

theorem clo_open (h : Clos w x m S L y my wr Lx Ly left) {n : Int} {t : Nat × Nat × Nat} (ht : Lx n = some t) (r : Value) :
    ∃ c : Value, c.oneCell' = true ∧ HRel (envL [my, y, t.1, t.2.1] (rhoV (ofL (inoV (fun k => (Ly k).map (·.1)) n (S n) [])) (cloO c r))) (memL cloBs) wr := by
  obtain ⟨c, hc, hrow⟩ := h.ys.cell
  have hn := h.xs.num n t ht
  have hw := h.xs.work n t ht
  obtain ⟨tg1, tg2, tg3⟩ := h.xs.tag_t ht
  have ty := h.ys.tag_x
  have tmy := h.ys.tag_m
  have ny : ∀ j, ownBlk x m Lx j → j ≠ y ∧ j ≠ my := fun j hj => ⟨fun e => (h.yown y (.inl rfl)).2 (e ▸ hj), fun e => (h.yown my (.inr (.inl rfl))).2 (e ▸ hj)⟩
  have n1 := ny t.1 (.inr (.inr ⟨n, t, ht, .inl rfl⟩))
  have n2 := ny t.2.1 (.inr (.inr ⟨n, t, ht, .inr (.inl rfl)⟩))
  have n3 := ny t.2.2 (.inr (.inr ⟨n, t, ht, .inr (.inr rfl)⟩))
  refine ⟨c, hc, hrel_mk rfl (fun i b B hi hB => ?_) (fun i j b c' B C hi hj hB hC hij k h1 h2 => ?_)⟩
  · match i, hi, hB with
    | 0, hi, hB =>
      obtain rfl := Option.some.inj hi
      obtain rfl := Option.some.inj hB
      obtain ⟨es, clock, ho⟩ := h.ys.map.is_map
      refine ⟨_, ho, fun q hq => ?_, ?_, fun w2 b2 ho2 => ⟨?_, fun i a hi0 ha => ?_⟩⟩
      · obtain rfl := List.mem_singleton.1 hq
        exact ⟨_, envL_at (b := y) rfl, rfl⟩
      · rw [linksOf_mark 1 (envL_at (b := y) rfl)]
        rfl
      · have e : (fun k => if k = 0 then none else (linksOf (envL [my, y, t.1, t.2.1] (rhoV (ofL (inoV (fun k => (Ly k).map (·.1)) n (S n) [])) (cloO c r))) [(.li 0, 1)] k).or ((Ly k).map (·.1))) = fun k => (Ly k).map (·.1) := by
          funext k
          split
          · rename_i e0
            cases hL : Ly k with
            | none => rfl
            | some t2 =>
              have := h.ys.num k t2 hL
              omega
          · rename_i e0
            rw [linksOf_skip (k := .li 0) (show (0 : Int) ≠ k from fun e => e0 e.symm)]
            rfl
        show MapI elPtr _ _ w2 b2 4096 (fun k => if k = 0 then none else _)
        rw [e]
        exact MapI.any h.ys.map ho w2 b2 ho2
      · rw [linksOf_skip (k := .li 0) (show (0 : Int) ≠ i from fun e => hi0 e.symm)] at ha
        have ha : (Ly i).map (·.1) = some a := ha
        cases hL : Ly i with
        | none => rw [hL] at ha; cases ha
        | some t2 => exact h.ys.num i t2 hL
    | 1, hi, hB =>
      obtain rfl := Option.some.inj hi
      obtain rfl := Option.some.inj hB
      exact ⟨_, hrow, _, rfl, inoL_rel rfl hc (envL_at rfl)⟩
    | 2, hi, hB =>
      obtain rfl := Option.some.inj hi
      obtain rfl := Option.some.inj hB
      exact ⟨_, hw.cell, _, rfl, rfl, rfl, rfl, rfl, rfl, ⟨_, envL_at (b := t.2.1) rfl, rfl⟩, trivial⟩
    | 3, hi, hB =>
      obtain rfl := Option.some.inj hi
      obtain rfl := Option.some.inj hB
      exact ⟨_, hw.grow⟩
    | i + 4, hi, _ => simp at hi
  · have role : ∀ i b B k, [my, y, t.1, t.2.1][i]? = some b → cloBs[i]? = some B → ownL (envL [my, y, t.1, t.2.1] (rhoV (ofL (inoV (fun k => (Ly k).map (·.1)) n (S n) [])) (cloO c r))) wr b B k → (i = 0 ∧ k = my) ∨ (i = 1 ∧ k = y) ∨ (i = 2 ∧ k = t.1) ∨ (i = 3 ∧ (k = t.2.1 ∨ k = t.2.2)) := fun i b B k hi hB ho => by
      match i, hi, hB with
      | 0, hi, hB => obtain rfl := Option.some.inj hi; obtain rfl := Option.some.inj hB; exact .inl ⟨rfl, ho⟩
      | 1, hi, hB => obtain rfl := Option.some.inj hi; obtain rfl := Option.some.inj hB; exact .inr (.inl ⟨rfl, ho⟩)
      | 2, hi, hB => obtain rfl := Option.some.inj hi; obtain rfl := Option.some.inj hB; exact .inr (.inr (.inl ⟨rfl, ho⟩))
      | 3, hi, hB =>
        obtain rfl := Option.some.inj hi
        obtain rfl := Option.some.inj hB
        exact .inr (.inr (.inr ⟨rfl, (ownD_grow hw.grow k).1 ho⟩))
      | i + 4, hi, _ => simp at hi
    have r1 := role i b B k hi hB h1
    have r2 := role j c' C k hj hC h2
    have a1 := ne_tag ty tmy (by decide)
    have a2 := ne_tag tg1 tg2 (by decide)
    have a3 := ne_tag tg1 tg3 (by decide)
    have a4 := ne_tag tg2 tg3 (by decide)
    omega

theorem clo_owned {t : Nat × Nat × Nat} {n : Nat} {lf : Nat → List UInt8} (h : IsGrow Tryz.prog wr t.2.1 t.2.2 n lf) {ρ : Rho} (hA : ρ.A = absD Tryz.prog) {k : Nat} (ho : Owned (envL [my, y, t.1, t.2.1] ρ) (memL cloBs) wr k) : k = my ∨ k = y ∨ k = t.1 ∨ k = t.2.1 ∨ k = t.2.2 := by
  have hb : ∀ j B, (memL cloBs).get j = some B → j = 0 ∨ j = 1 ∨ j = 2 ∨ j = 3 := fun j B hB => by
    have := memL_get hB
    match j, this with
    | 0, _ => exact .inl rfl
    | 1, _ => exact .inr (.inl rfl)
    | 2, _ => exact .inr (.inr (.inl rfl))
    | 3, _ => exact .inr (.inr (.inr rfl))
    | j + 4, h => simp [cloBs] at h
  rcases ho with ⟨j, B, q, hB, hq, rfl⟩ | ⟨j, e, q, hB, hq, ho⟩
  · have e1 := (envL_inv hq).1
    rcases hb j B hB with rfl | rfl | rfl | rfl
    · exact .inl (Option.some.inj e1).symm
    · exact .inr (.inl (Option.some.inj e1).symm)
    · exact .inr (.inr (.inl (Option.some.inj e1).symm))
    · exact .inr (.inr (.inr (.inl (Option.some.inj e1).symm)))
  · have e1 := (envL_inv hq).1
    have ho : ρ.A.own q.blk wr k := ho
    rw [hA] at ho
    rcases hb j _ hB with rfl | rfl | rfl | rfl
    · cases memL_get hB
    · cases memL_get hB
    · cases memL_get hB
    · obtain e2 := Option.some.inj e1
      rw [← e2] at ho
      rcases (ownD_grow h k).1 ho with rfl | rfl
      · exact .inr (.inr (.inr (.inl rfl)))
      · exact .inr (.inr (.inr (.inr rfl)))

theorem get_abs {h : T Blk} {i : Nat} {e : X} (v : (h.get i).map Blk.view = some (.abs e)) : h.get i = some (.abs e) := by
  obtain ⟨B, hB, hv⟩ := Option.map_eq_some_iff.1 v
  unfold Blk.view at hv
  split at hv
  · cases hv
  · cases hv
  · simp only [BV.abs.injEq] at hv
    rw [hB, hv]
  · cases hv
  · cases hv

set_option maxHeartbeats 2000000 in
theorem clo_step (h : Clos w x m S L y my wr Lx Ly left) {n : Int} {t : Nat × Nat × Nat} (ht : Lx n = some t) (hl : left n = true) {c r : Value} (hc : c.oneCell' = true) {nx' : Nat} {E' : Env} {h' : T Blk}
    (hg : Goes (envL [my, y, t.1, t.2.1] (rhoV (ofL (inoV (fun k => (Ly k).map (·.1)) n (S n) [])) (cloO c r))) (memL cloBs) 4 wr E' h' nx' w')
    (v0 : (h'.get 0).map Blk.view = some (.opq (.va 0) [(.va 1, 5), (.li 0, 1)])) (v1 : (h'.get 1).map Blk.view = some (.cells 107 (inoL 0)))
    (v2 : (h'.get 2).map Blk.view = some (.cells 100 (workL (.xi .i64 (.va 1)) (.xi .i64 (.va 3)) (.xi .i64 (.va 4)) (.xi .i64 (.va 5)) (.xi .u64 (.va 6)) 3))) (v3 : (h'.get 3).map Blk.view = some (.abs (.va 2))) (v4 : (h'.get 4).map Blk.view = some (.abs (.va 2)))
    (v5 : (h'.get 5).map Blk.view = some (.cells 100 (workL (.xi .i64 (.va 1)) (.xi .i64 (.va 3)) (.xi .i64 (.va 4)) (.xi .i64 (.va 5)) (.xi .u64 (.va 6)) 4))) :
    (∃ Lx' Ly', Clos w x m S L y my w' Lx' Ly' (fun k => left k && decide (k ≠ n)) ∧ ∀ k, k < wr.heap.size → ¬ ownBlk x m Lx k → ¬ ownBlk y my Ly k → ¬ ownBlk x m Lx' k ∧ ¬ ownBlk y my Ly' k) ∧
      (∀ k, k < wr.heap.size → k = m ∨ (¬ ownBlk x m Lx k ∧ ¬ ownBlk y my Ly k) → w'.heap[k]? = wr.heap[k]?) ∧ wr.heap.size ≤ w'.heap.size := by
  have hρ : E'.ρ = rhoV (ofL (inoV (fun k => (Ly k).map (·.1)) n (S n) [])) (cloO c r) := hg.ext.ρ
  have m0 : E'.m 0 = some ⟨my, 0, 0⟩ := hg.ext.m _ _ (envL_at rfl)
  have m1 : E'.m 1 = some ⟨y, 0, 0⟩ := hg.ext.m _ _ (envL_at rfl)
  have m2 : E'.m 2 = some ⟨t.1, 0, 0⟩ := hg.ext.m _ _ (envL_at rfl)
  have m3 : E'.m 3 = some ⟨t.2.1, 0, 0⟩ := hg.ext.m _ _ (envL_at rfl)
  have hn := h.xs.num n t ht
  have hw := h.xs.work n t ht
  obtain ⟨tg1, tg2, tg3⟩ := h.xs.tag_t ht
  have txx := h.xs.tag_x
  have txm := h.xs.tag_m
  have ty := h.ys.tag_x
  have tmy := h.ys.tag_m
  have o1 : ownBlk x m Lx t.1 := .inr (.inr ⟨n, t, ht, .inl rfl⟩)
  have o2 : ownBlk x m Lx t.2.1 := .inr (.inr ⟨n, t, ht, .inr (.inl rfl)⟩)
  have o3 : ownBlk x m Lx t.2.2 := .inr (.inr ⟨n, t, ht, .inr (.inr rfl)⟩)
  have hLyn : Ly n = none := by
    have := h.seen n
    rw [hl] at this
    simpa using this
  have hown : ∀ k, Owned (envL [my, y, t.1, t.2.1] (rhoV (ofL (inoV (fun k => (Ly k).map (·.1)) n (S n) [])) (cloO c r))) (memL cloBs) wr k → k = my ∨ k = y ∨ k = t.1 ∨ k = t.2.1 ∨ k = t.2.2 := fun k ho => clo_owned hw.grow rfl ho
  have hsame : ∀ k, k < wr.heap.size → k ≠ my → k ≠ y → k ≠ t.1 → k ≠ t.2.1 → k ≠ t.2.2 → w'.heap[k]? = wr.heap[k]? := fun k hk a1 a2 a3 a4 a5 => hg.frame.block k hk fun ho => by
    have := hown k ho
    omega
  obtain ⟨B0, hB0⟩ := live_of v0
  obtain ⟨B1, hB1⟩ := live_of v1
  obtain ⟨B2, hB2⟩ := live_of v2
  obtain ⟨B5, hB5⟩ := live_of v5
  have hB3 := get_abs v3
  have hB4 := get_abs v4
  obtain ⟨p5, q5, hp5, _, _⟩ := hg.rel.at_ 5 B5 hB5
  obtain ⟨p4, q4, hp4, _, hd4⟩ := hg.rel.at_ 4 _ hB4
  have hd4 : p4.dl = 0 := hd4
  have hd5 : p5.dl = 0 := cells_dl hg.rel v5 hp5
  have live : ∀ j, j < [my, y, t.1, t.2.1].length → ∃ C, h'.get j = some C := fun j hj => by
    match j, hj with
    | 0, _ => exact ⟨_, hB0⟩
    | 1, _ => exact ⟨_, hB1⟩
    | 2, _ => exact ⟨_, hB2⟩
    | 3, _ => exact ⟨_, hB3⟩
  have new5 : wr.heap.size ≤ p5.blk := newB hg rfl live (i := 5) (by simp) hB5 hp5
  have new4 : wr.heap.size ≤ p4.blk := newB hg rfl live (i := 4) (by simp) hB4 hp4
  -- the trees
  have g3 := abs_of_view hg.rel v3 m3
  have g4 := abs_of_view hg.rel v4 hp4
  rw [hρ] at g3 g4
  obtain ⟨s3, g3⟩ := g3
  obtain ⟨s4, g4⟩ := g4
  have w3 : E'.ρ.A.own t.2.1 w' s3 := by rw [hρ]; exact (ownD_grow g3 s3).2 (.inr rfl)
  have w4 : E'.ρ.A.own p4.blk w' s4 := by rw [hρ]; exact (ownD_grow g4 s4).2 (.inr rfl)
  have tg4 := g4.tags
  have tgs3 := g3.tags
  have f30 : s3 ≠ my := fun e => hg.rel.abs.far 3 _ _ 0 B0 _ hB3 m3 hB0 m0 (by decide) (show E'.ρ.A.own t.2.1 w' my from e ▸ w3)
  have f31 : s3 ≠ y := fun e => hg.rel.abs.far 3 _ _ 1 B1 _ hB3 m3 hB1 m1 (by decide) (show E'.ρ.A.own t.2.1 w' y from e ▸ w3)
  have f32 : s3 ≠ t.1 := fun e => hg.rel.abs.far 3 _ _ 2 B2 _ hB3 m3 hB2 m2 (by decide) (show E'.ρ.A.own t.2.1 w' t.1 from e ▸ w3)
  have f40 : s4 ≠ my := fun e => hg.rel.abs.far 4 _ _ 0 B0 _ hB4 hp4 hB0 m0 (by decide) (show E'.ρ.A.own p4.blk w' my from e ▸ w4)
  have f41 : s4 ≠ y := fun e => hg.rel.abs.far 4 _ _ 1 B1 _ hB4 hp4 hB1 m1 (by decide) (show E'.ρ.A.own p4.blk w' y from e ▸ w4)
  have f42 : s4 ≠ t.1 := fun e => hg.rel.abs.far 4 _ _ 2 B2 _ hB4 hp4 hB2 m2 (by decide) (show E'.ρ.A.own p4.blk w' t.1 from e ▸ w4)
  have f43 : s4 ≠ t.2.1 := fun e => hg.rel.abs.far 4 _ _ 3 _ _ hB4 hp4 hB3 m3 (by decide) (show E'.ρ.A.own p4.blk w' t.2.1 from e ▸ w4)
  have f33 : t.2.1 ≠ s3 := ne_tag tgs3.1 tgs3.2 (by decide)
  have f34 : s4 ≠ s3 := fun e => hg.rel.abs.apart 4 _ _ 3 _ _ hB4 hp4 hB3 m3 (by decide) s4 w4 (show E'.ρ.A.own t.2.1 w' s4 from e ▸ w3)
  have f35 : s3 ≠ p5.blk := fun e => hg.rel.abs.far 3 _ _ 5 B5 _ hB3 m3 hB5 hp5 (by decide) (show E'.ρ.A.own t.2.1 w' p5.blk from e ▸ w3)
  have f36 : s3 ≠ p4.blk := fun e => hg.rel.abs.far 3 _ _ 4 _ _ hB3 m3 hB4 hp4 (by decide) (show E'.ρ.A.own t.2.1 w' p4.blk from e ▸ w3)
  have c3 : s3 = t.2.2 ∨ wr.heap.size ≤ s3 := by
    rcases hg.uown 3 _ _ hB3 m3 s3 w3 with ho | ho
    · have := hown s3 ho
      omega
    · exact .inr ho
  have c4 : s4 = t.2.2 ∨ wr.heap.size ≤ s4 := by
    rcases hg.uown 4 _ _ hB4 hp4 s4 w4 with ho | ho
    · have := hown s4 ho
      omega
    · exact .inr ho
  -- the rows
  have wl : ∀ g, (workL (.xi .i64 (.va 1)) (.xi .i64 (.va 3)) (.xi .i64 (.va 4)) (.xi .i64 (.va 5)) (.xi .u64 (.va 6)) g).all SV.one = true := fun g => rfl
  have den : ∀ g b, E'.m g = some ⟨b, 0, 0⟩ → (workL (.xi .i64 (.va 1)) (.xi .i64 (.va 3)) (.xi .i64 (.va 4)) (.xi .i64 (.va 5)) (.xi .u64 (.va 6)) g).map (SV.den E') = workCells n (S n) b := fun g b hb => by
    unfold workL
    simp only [List.map_cons, List.map_nil, SV.den, hb, hρ]
    rfl
  have e4 : E'.m 4 = some ⟨p4.blk, 0, 0⟩ ∨ True := .inr trivial
  have r2 := row_of_view hg.rel v2 (wl 3) m2
  rw [den 3 _ m3] at r2
  have r5 := row_of_view hg.rel v5 (wl 4) hp5
  have den4 : (workL (.xi .i64 (.va 1)) (.xi .i64 (.va 3)) (.xi .i64 (.va 4)) (.xi .i64 (.va 5)) (.xi .u64 (.va 6)) 4).map (SV.den E') = workCells n (S n) p4.blk := by
    unfold workL
    simp only [List.map_cons, List.map_nil, SV.den, hp4, hρ, hd4]
    rfl
  rw [den4] at r5
  have r1 := row_of_view hg.rel v1 inoL_one m1
  rw [inoL_den (c := c) (by rw [hρ]; rfl) m0] at r1
  -- the new map
  obtain ⟨ob, hob, _, hoq⟩ := opq_of_view hg.rel v0 m0
  rw [hρ] at hoq
  obtain ⟨hmap, _⟩ := hoq.2 _ _ hob
  have x1 : X.int E'.ρ (.va 1) = n := by rw [hρ]; rfl
  have hmap2 : MapI elPtr Tryz.prog 3 w' my 4096 (fun k => (upd Ly n (p5.blk, p4.blk, s4) k).map (·.1)) := by
    have e1 : (fun k => (upd Ly n (p5.blk, p4.blk, s4) k).map (·.1)) = fun k => if k = 0 then none else (linksOf E' [(.va 1, 5), (.li 0, 1)] k).or ((Ly k).map (·.1)) := by
      funext k
      by_cases hk : k = n
      · subst hk
        rw [upd_at, if_neg (by omega), linksOf_hit hp5 x1]
        rfl
      · rw [upd_ne Ly _ hk, linksOf_skip (k := .va 1) (by rw [x1]; exact fun e => hk e.symm)]
        split
        · rename_i e0
          subst e0
          cases hL : Ly 0 with
          | none => rfl
          | some t2 =>
            have := h.ys.num 0 t2 hL
            omega
        · rename_i e0
          rw [linksOf_skip (k := .li 0) (show (0 : Int) ≠ k from fun e => e0 e.symm)]
          rfl
    rw [e1]
    exact hmap
  -- what is apart
  have xlt : ∀ k, ownBlk x m Lx k → k < wr.heap.size := fun k hk => h.xs.lt hk
  have ylt : ∀ k, ownBlk y my Ly k → k < wr.heap.size := fun k hk => h.ys.lt hk
  have nyx : ∀ k, ownBlk x m Lx k → ¬ ownBlk y my Ly k := fun k h1 h2 => (h.yown k h2).2 h1
  have oy : ownBlk y my Ly y := .inl rfl
  have omy : ownBlk y my Ly my := .inr (.inl rfl)
  have ox : ownBlk x m Lx x := .inl rfl
  have om : ownBlk x m Lx m := .inr (.inl rfl)
  have xne : ∀ k, ownBlk x m Lx k → k ≠ y ∧ k ≠ my := fun k hk => ⟨fun e => nyx k hk (e ▸ oy), fun e => nyx k hk (e ▸ omy)⟩
  have yne : ∀ k, ownBlk y my Ly k → k ≠ t.1 ∧ k ≠ t.2.1 ∧ k ≠ t.2.2 := fun k hk => ⟨fun e => nyx _ o1 (e ▸ hk), fun e => nyx _ o2 (e ▸ hk), fun e => nyx _ o3 (e ▸ hk)⟩
  have other : ∀ k t2, k ≠ n → Lx k = some t2 → ∀ j, (j = t2.1 ∨ j = t2.2.1 ∨ j = t2.2.2) → j ≠ t.1 ∧ j ≠ t.2.1 ∧ j ≠ t.2.2 := fun k t2 hk ht2 j hj => by
    obtain ⟨k1, k2, k3⟩ := h.xs.tag_t ht2
    obtain ⟨i1, i2, i3⟩ := h.xs.inj k n t2 t ht2 ht hk
    rcases hj with rfl | rfl | rfl
    · exact ⟨i1, ne_tag k1 tg2 (by decide), ne_tag k1 tg3 (by decide)⟩
    · exact ⟨ne_tag k2 tg1 (by decide), i2, ne_tag k2 tg3 (by decide)⟩
    · exact ⟨ne_tag k3 tg1 (by decide), ne_tag k3 tg2 (by decide), i3⟩
  have xkeep : ∀ k, ownBlk x m Lx k → k ≠ t.1 → k ≠ t.2.1 → k ≠ t.2.2 → w'.heap[k]? = wr.heap[k]? := fun k hk a1 a2 a3 => hsame k (xlt k hk) (xne k hk).2 (xne k hk).1 a1 a2 a3
  have ykeep : ∀ k, ownBlk y my Ly k → k ≠ my → k ≠ y → w'.heap[k]? = wr.heap[k]? := fun k hk a1 a2 => hsame k (ylt k hk) a1 a2 (yne k hk).1 (yne k hk).2.1 (yne k hk).2.2
  have xo : ∀ k t2, Lx k = some t2 → ∀ j, (j = t2.1 ∨ j = t2.2.1 ∨ j = t2.2.2) → ownBlk x m Lx j := fun k t2 ht2 j hj => .inr (.inr ⟨k, t2, ht2, hj⟩)
  have yo : ∀ k t2, Ly k = some t2 → ∀ j, (j = t2.1 ∨ j = t2.2.1 ∨ j = t2.2.2) → ownBlk y my Ly j := fun k t2 ht2 j hj => .inr (.inr ⟨k, t2, ht2, hj⟩)
  have mne := h.xs.map_ne n t ht
  have x1' := ne_tag txx tg1 (by decide)
  have x2' := ne_tag txx tg2 (by decide)
  have x3' := ne_tag txx tg3 (by decide)
  have m1' := ne_tag txm tg1 (by decide)
  have m2' := ne_tag txm tg2 (by decide)
  obtain ⟨cx, hcx, hrx⟩ := h.xs.cell
  -- x is as it was
  have hX0 : Inos Tryz.prog w' x (updS S n (S n)) m (upd Lx n (t.1, t.2.1, s3)) := by
    refine h.xs.close (h.xs.ok n) hn hcx (hrx.kept (xkeep x ox x1' x2' x3')) ?_ ⟨r2, g3⟩ (fun k t2 hk ht2 => ?_) (fun k t2 hk ht2 => ?_) ?_
    · have e1 : (fun k => (upd Lx n (t.1, t.2.1, s3) k).map (·.1)) = fun k => (Lx k).map (·.1) := by
        funext k
        by_cases hk : k = n
        · subst hk
          rw [upd_at, ht]
          rfl
        · rw [upd_ne Lx _ hk]
      rw [e1]
      exact h.xs.map.kept (xkeep m om m1' m2' (Ne.symm mne))
    · have q := fun j hj => other k t2 hk ht2 j hj
      have a := fun j hj => xkeep j (xo k t2 ht2 j hj) (q j hj).1 (q j hj).2.1 (q j hj).2.2
      exact ⟨a _ (.inl rfl), a _ (.inr (.inl rfl)), a _ (.inr (.inr rfl))⟩
    · have q := other k t2 hk ht2
      refine ⟨fun e => (q t2.1 (.inl rfl)).1 e.symm, fun e => (q t2.2.1 (.inr (.inl rfl))).2.1 e.symm, fun e => ?_⟩
      have e : s3 = t2.2.2 := e
      have := (q t2.2.2 (.inr (.inr rfl))).2.2
      have := xlt _ (xo k t2 ht2 t2.2.2 (.inr (.inr rfl)))
      omega
    · show s3 ≠ m
      have := xlt m om
      omega
  have hX : Inos Tryz.prog w' x S m (upd Lx n (t.1, t.2.1, s3)) := by
    have e1 : updS S n (S n) = S := by
      funext k
      unfold updS
      split
      · rename_i e; rw [e]
      · rfl
    rw [e1] at hX0
    exact hX0
  -- y has one more
  have hY0 : Inos Tryz.prog w' y (updS (seenS S Ly) n (S n)) my (upd Ly n (p5.blk, p4.blk, s4)) := by
    refine h.ys.close (h.xs.ok n) hn hc r1 hmap2 ⟨r5, g4⟩ (fun k t2 hk ht2 => ?_) (fun k t2 hk ht2 => ?_) f40
    · have b1 := h.ys.tag_t ht2
      have b2 := h.ys.map_ne k t2 ht2
      have a := fun j hj h1 h2 => ykeep j (yo k t2 ht2 j hj) h1 h2
      exact ⟨a _ (.inl rfl) (ne_tag b1.1 tmy (by decide)) (ne_tag b1.1 ty (by decide)), a _ (.inr (.inl rfl)) (ne_tag b1.2.1 tmy (by decide)) (ne_tag b1.2.1 ty (by decide)), a _ (.inr (.inr rfl)) b2 (ne_tag b1.2.2 ty (by decide))⟩
    · have l1 := ylt _ (yo k t2 ht2 t2.1 (.inl rfl))
      have l2 := ylt _ (yo k t2 ht2 t2.2.1 (.inr (.inl rfl)))
      have l3 := ylt _ (yo k t2 ht2 t2.2.2 (.inr (.inr rfl)))
      have l4 := (yne _ (yo k t2 ht2 t2.2.2 (.inr (.inr rfl)))).2.2
      refine ⟨?_, ?_, ?_⟩
      · show p5.blk ≠ _
        omega
      · show p4.blk ≠ _
        omega
      · show s4 ≠ _
        omega
  have hY : Inos Tryz.prog w' y (seenS S (upd Ly n (p5.blk, p4.blk, s4))) my (upd Ly n (p5.blk, p4.blk, s4)) := by
    have e1 : updS (seenS S Ly) n (S n) = seenS S (upd Ly n (p5.blk, p4.blk, s4)) := by
      funext k
      unfold updS seenS
      by_cases hk : k = n
      · subst hk
        rw [if_pos rfl, upd_at]
        rfl
      · rw [if_neg hk, upd_ne Ly _ hk]
    rw [e1] at hY0
    exact hY0
  have hxo : ∀ j, ownBlk x m (upd Lx n (t.1, t.2.1, s3)) j → ownBlk x m Lx j ∨ wr.heap.size ≤ j := fun j hj => own_upd (fun i hi => by
    rcases hi with e2 | e2 | e2
    · exact .inl (e2 ▸ o1)
    · exact .inl (e2 ▸ o2)
    · have e2 : i = s3 := e2
      rcases c3 with e | e
      · left
        rw [e2, e]
        exact o3
      · right
        rw [e2]
        exact e) hj
  have hyo : ∀ j, ownBlk y my (upd Ly n (p5.blk, p4.blk, s4)) j → ownBlk y my Ly j ∨ j = p5.blk ∨ j = p4.blk ∨ j = s4 := fun j hj => by
    rcases hj with rfl | rfl | ⟨a, t2, ha, hk⟩
    · exact .inl (.inl rfl)
    · exact .inl (.inr (.inl rfl))
    · by_cases e : a = n
      · subst e
        rw [upd_at] at ha
        obtain rfl := Option.some.inj ha
        exact .inr hk
      · rw [upd_ne Ly _ e] at ha
        exact .inl (.inr (.inr ⟨a, t2, ha, hk⟩))
  have hbase := h.but.size
  have hyx : ∀ j, ownBlk y my (upd Ly n (p5.blk, p4.blk, s4)) j → ¬ ownBlk x m (upd Lx n (t.1, t.2.1, s3)) j := fun j hj hj2 => by
    have hx3 : j = x ∨ j = m ∨ (j = t.1 ∨ j = t.2.1 ∨ j = s3) ∨ ∃ k t2, k ≠ n ∧ Lx k = some t2 ∧ (j = t2.1 ∨ j = t2.2.1 ∨ j = t2.2.2) := by
      rcases hj2 with rfl | rfl | ⟨a, t2, ha, hk⟩
      · exact .inl rfl
      · exact .inr (.inl rfl)
      · by_cases e : a = n
        · subst e
          rw [upd_at] at ha
          obtain rfl := Option.some.inj ha
          exact .inr (.inr (.inl hk))
        · rw [upd_ne Lx _ e] at ha
          exact .inr (.inr (.inr ⟨a, t2, e, ha, hk⟩))
    have lo1 := xlt _ o1
    have lo2 := xlt _ o2
    have lo3 := xlt _ o3
    rcases hyo j hj with hy1 | hy1
    · have q := yne j hy1
      have ql := ylt j hy1
      rcases hx3 with rfl | rfl | hx3 | ⟨k, t2, hk, ht2, hj3⟩
      · exact nyx _ ox hy1
      · exact nyx _ om hy1
      · omega
      · exact nyx _ (xo k t2 ht2 j hj3) hy1
    · have lx := xlt x ox
      have lm := xlt m om
      rcases hx3 with rfl | rfl | hx3 | ⟨k, t2, hk, ht2, hj3⟩
      · omega
      · omega
      · have : s4 ≠ t.1 ∧ s4 ≠ t.2.1 ∧ s4 ≠ s3 := ⟨f42, f43, f34⟩
        omega
      · have q := other k t2 hk ht2 j hj3
        have ql := xlt j (xo k t2 ht2 j hj3)
        omega
  refine ⟨⟨_, _, ⟨hX, fun k => ?_, fun j hj => ?_, hY, fun j hj => ⟨?_, hyx j hj⟩, fun k => ?_, ?_⟩, fun k hk hk1 hk2 => ⟨fun h1 => ?_, fun h1 => ?_⟩⟩, fun k hk hk2 => ?_, hg.frame.size⟩
  · rw [← h.same k]
    by_cases hk : k = n
    · subst hk
      rw [upd_at, ht]
      rfl
    · rw [upd_ne Lx _ hk]
  · rcases hxo j hj with h1 | h1
    · exact h.xown j h1
    · exact .inr (by omega)
  · rcases hyo j hj with h1 | h1
    · exact (h.yown j h1).1
    · have := h.xown _ o3
      by_cases e : j = t.2.2
      · rw [e]; exact this
      · right; omega
  · by_cases hk : k = n
    · subst hk
      have := h.same k
      rw [ht] at this
      rw [upd_at]
      cases hL : L k with
      | none => rw [hL] at this; cases this
      | some t2 => simp
    · rw [upd_ne Ly _ hk, h.seen k]
      simp [hk]
  · refine ⟨hg.frame.os.trans h.but.os, hg.frame.tape.trans h.but.tape, hg.frame.output.trans h.but.output, Nat.le_trans h.but.size hg.frame.size, fun k hk hn2 => ?_⟩
    rw [← h.but.block k hk hn2]
    refine hg.frame.block k (by omega) fun ho => ?_
    rcases hown k ho with rfl | rfl | rfl | rfl | rfl
    · rcases (h.yown _ omy).1 with h1 | h1
      · exact hn2 h1
      · omega
    · rcases (h.yown _ oy).1 with h1 | h1
      · exact hn2 h1
      · omega
    · rcases h.xown _ o1 with h1 | h1
      · exact hn2 h1
      · omega
    · rcases h.xown _ o2 with h1 | h1
      · exact hn2 h1
      · omega
    · rcases h.xown _ o3 with h1 | h1
      · exact hn2 h1
      · omega
  · rcases hxo k h1 with h2 | h2
    · exact hk1 h2
    · omega
  · rcases hyo k h1 with h2 | h2
    · exact hk2 h2
    · have : k ≠ t.2.2 := fun e => hk1 (e ▸ o3)
      omega
  · rcases hk2 with rfl | ⟨h1, h2⟩
    · exact xkeep _ om m1' m2' (Ne.symm mne)
    · exact hsame k hk (fun e => h2 (e ▸ omy)) (fun e => h2 (e ▸ oy)) (fun e => h1 (e ▸ o1)) (fun e => h1 (e ▸ o2)) (fun e => h1 (e ▸ o3))
end
end Go.Proofs.YtcnimekhpnejlaaGreat.Ev

/- Inodes: Clone; file.whole, walked. -/
namespace Go.Proofs.YtcnimekhpnejlaaGreat.Ev
open Go Go.RowKit
set_option linter.unusedVariables false
set_option linter.unusedSimpArgs false
set_option maxRecDepth 100000

theorem arr37 {t : Array Value} (h : t.size = 37) : ∃ g : Nat → Value, (∀ i, t.getD i undef = g i) ∧ t = (g 0 :: g 1 :: g 2 :: g 3 :: g 4 :: g 5 :: g 6 :: g 7 :: g 8 :: g 9 :: g 10 :: g 11 :: g 12 :: g 13 :: g 14 :: g 15 :: g 16 :: g 17 :: g 18 :: g 19 :: g 20 :: g 21 :: g 22 :: g 23 :: g 24 :: g 25 :: g 26 :: g 27 :: g 28 :: g 29 :: g 30 :: g 31 :: g 32 :: g 33 :: g 34 :: g 35 :: g 36 :: []).toArray := ⟨fun i => t.getD i undef, fun _ => rfl, (tmps_eq h).trans rfl⟩
theorem none_ok : Nd.none.Ok := ⟨.inl rfl, ⟨Int.le_refl 0, by show (0 : Int) ≤ 1000; omega⟩, Nat.zero_le _, fun _ => rfl, (fun h => by cases h), ⟨Int.le_refl 0, by show (0 : Int) ≤ 18446744073709551615; omega⟩⟩
theorem row_cell {w : World} {b : Nat} {t : TypeId} {vs : List Value} (h : Row w b t vs) {j : Nat} {v : Value} (hv : vs[j]? = some v) : w.cell? ⟨b, j, none⟩ = some v := by
  obtain ⟨cs, h1, h2⟩ := h
  simp only [World.cell?, h1]
  exact h2 j v hv
theorem row_map {w : World} {b : Nat} {t : TypeId} {c : Value} {m : Nat} (h : Row w b t (inoCells c m)) : w.cell? ⟨b, 36, none⟩ = some (.map (some m)) := row_cell h rfl

theorem inoA_owned {w : World} {x m : Nat} {ρ : Rho} {k : Nat} (ho : Owned (envL [x, m] ρ) inoA w k) : k = x ∨ k = m := by
  have hb : ∀ j B, inoA.get j = some B → j = 0 ∨ j = 1 := fun j B hB => by
    have := memL_get hB
    match j, this with
    | 0, _ => exact .inl rfl
    | 1, _ => exact .inr rfl
    | j + 2, h => simp [inoAs] at h
  rcases ho with ⟨j, B, q, hB, hq, rfl⟩ | ⟨j, e, q, hB, hq, ho⟩
  · have e1 := (envL_inv hq).1
    rcases hb j B hB with rfl | rfl
    · exact .inl (Option.some.inj e1).symm
    · exact .inr (Option.some.inj e1).symm
  · rcases hb j _ hB with rfl | rfl
    · cases memL_get hB
    · cases memL_get hB

/-- Clone, as it begins. -/
theorem clo_begin {w : World} {x m : Nat} {S : Int → Nd} {L : LL} (h : Inos Tryz.prog w x S m L) {c : Value} (hc : c.oneCell' = true) {nx' : Nat} {E' : Env} {h' : T Blk} {w' : World}
    (hg : Goes (envL [x, m] (rhoV (ofL [.st (.works fun k => (L k).map (·.1))]) fun _ => c)) inoA 2 w E' h' nx' w')
    (v0 : (h'.get 0).map Blk.view = some (.cells 107 (inoL 1))) (v1 : (h'.get 1).map Blk.view = some (.opq (.va 0) [(.li 0, 0)])) (v2 : (h'.get 2).map Blk.view = some (.cells 107 (inoL 3))) (v3 : (h'.get 3).map Blk.view = some .empty) :
    ∃ y my p, E'.m 0 = some ⟨x, 0, 0⟩ ∧ E'.m 2 = some p ∧ p.dl = 0 ∧ p.blk = y ∧ w.heap.size ≤ y ∧ w.heap.size ≤ my ∧ Clos w x m S L y my w' L (fun _ => none) (fun k => (L k).isSome) := by
  have hρ : E'.ρ = rhoV (ofL [.st (.works fun k => (L k).map (·.1))]) fun _ => c := hg.ext.ρ
  have m0 : E'.m 0 = some ⟨x, 0, 0⟩ := hg.ext.m _ _ (envL_at rfl)
  have m1 : E'.m 1 = some ⟨m, 0, 0⟩ := hg.ext.m _ _ (envL_at rfl)
  obtain ⟨B0, hB0⟩ := live_of v0
  obtain ⟨B1, hB1⟩ := live_of v1
  obtain ⟨B2, hB2⟩ := live_of v2
  obtain ⟨B3, hB3⟩ := live_of v3
  obtain ⟨p2, q2, hp2, _, _⟩ := hg.rel.at_ 2 B2 hB2
  obtain ⟨p3, q3, hp3, _, _⟩ := hg.rel.at_ 3 B3 hB3
  have hd2 : p2.dl = 0 := cells_dl hg.rel v2 hp2
  have live : ∀ j, j < [x, m].length → ∃ C, h'.get j = some C := fun j hj => by
    match j, hj with
    | 0, _ => exact ⟨_, hB0⟩
    | 1, _ => exact ⟨_, hB1⟩
  have new2 : w.heap.size ≤ p2.blk := newB (bs := inoAs) hg rfl live (i := 2) (by simp) hB2 hp2
  have new3 : w.heap.size ≤ p3.blk := newB (bs := inoAs) hg rfl live (i := 3) (by simp) hB3 hp3
  have r0 := row_of_view hg.rel v0 inoL_one m0
  rw [inoL_den (c := c) (by rw [hρ]; rfl) m1] at r0
  have r2 := row_of_view hg.rel v2 inoL_one hp2
  rw [inoL_den (c := c) (by rw [hρ]; rfl) hp3] at r2
  obtain ⟨ob, hob, _, hoq⟩ := opq_of_view hg.rel v1 m1
  rw [hρ] at hoq
  obtain ⟨hmap, _⟩ := hoq.2 _ _ hob
  have hmap2 : MapI elPtr Tryz.prog 3 w' m 4096 (fun k => (L k).map (·.1)) := by
    have e1 : (fun k => (L k).map (·.1)) = fun k => if k = 0 then none else (linksOf E' [(.li 0, 0)] k).or ((L k).map (·.1)) := by
      funext k
      split
      · rename_i e0
        subst e0
        cases hL : L 0 with
        | none => rfl
        | some t2 =>
          have := h.num 0 t2 hL
          omega
      · rename_i e0
        rw [linksOf_skip (k := .li 0) (show (0 : Int) ≠ k from fun e => e0 e.symm)]
        rfl
    rw [e1]
    exact hmap
  have hm3 := (MapI.of_empty elPtr Tryz.prog 3 (empty_of_view hg.rel v3 hp3)).mono (Nat.zero_le 4096)
  have tx := h.tag_x
  have tm := h.tag_m
  have keep : ∀ n t, L n = some t → ∀ j, (j = t.1 ∨ j = t.2.1 ∨ j = t.2.2) → w'.heap[j]? = w.heap[j]? := fun n t ht j hj => by
    obtain ⟨g1, g2, g3⟩ := h.tag_t ht
    have hm := h.map_ne n t ht
    have hj2 : j ≠ x ∧ j ≠ m := by
      rcases hj with rfl | rfl | rfl
      · exact ⟨ne_tag g1 tx (by decide), ne_tag g1 tm (by decide)⟩
      · exact ⟨ne_tag g2 tx (by decide), ne_tag g2 tm (by decide)⟩
      · exact ⟨ne_tag g3 tx (by decide), hm⟩
    refine hg.frame.block j (h.lt (.inr (.inr ⟨n, t, ht, hj⟩))) fun ho => ?_
    have := inoA_owned ho
    omega
  have xlt : ∀ k, ownBlk x m L k → k < w.heap.size := fun k hk => h.lt hk
  refine ⟨p2.blk, p3.blk, p2, m0, hp2, hd2, rfl, new2, new3,
    ⟨⟨⟨c, hc, r0⟩, hmap2, fun n t ht => (h.work n t ht).kept (keep n t ht _ (.inl rfl)) (keep n t ht _ (.inr (.inl rfl))) (keep n t ht _ (.inr (.inr rfl))), h.off, h.inj, h.map_ne, h.ok, h.num⟩, fun _ => rfl, fun j hj => .inl hj,
      ⟨⟨c, hc, r2⟩, hm3, (fun n t ht => by cases ht), fun n _ => rfl, (fun n n' t t' ht => by cases ht), (fun n t ht => by cases ht), fun n => none_ok, fun n t ht => by cases ht⟩, fun j hj => ?_, fun k => by simp, ?_⟩⟩
  · have hj2 : j = p2.blk ∨ j = p3.blk := by
      rcases hj with rfl | rfl | ⟨n, t, ht, _⟩
      · exact .inl rfl
      · exact .inr rfl
      · cases ht
    exact ⟨.inr (by omega), fun ho => by have := xlt j ho; omega⟩
  · exact ⟨hg.frame.os, hg.frame.tape, hg.frame.output, hg.frame.size, fun k hk hn => hg.frame.block k hk fun ho => by
      rcases inoA_owned ho with rfl | rfl
      · exact hn (.inl rfl)
      · exact hn (.inr (.inl rfl))⟩
end Go.Proofs.YtcnimekhpnejlaaGreat.Ev

/- One handle of inodes, opened for the evaluator and closed again; texts cut. -/
namespace Go.Proofs.YtcnimekhpnejlaaGreat.Ev
open Go Go.RowKit
set_option linter.unusedVariables false
set_option linter.unusedSimpArgs false
set_option maxRecDepth 10000

def oneM : T Blk := memL [.abs (.va 0)]
theorem one_open {w : World} {x : Nat} {d : D} (h : isD Tryz.prog d x w) (l : List D) (o : Nat → Value) : HRel (envL [x] (rhoI (ofL (d :: l)) o)) oneM w :=
  hrel_mk rfl (fun i b B hi hB => by
    match i, hi, hB with
    | 0, hi, hB =>
      obtain rfl := Option.some.inj hi
      obtain rfl := Option.some.inj hB
      exact h
    | i + 1, hi, _ => simp at hi) (fun i j b c B C hi hj hB hC hij k h1 h2 => by
    match i, j, hi, hj with
    | 0, 0, _, _ => exact hij rfl
    | i + 1, _, hi, _ => simp at hi
    | 0, j + 1, _, hj => simp at hj)
theorem one_done {w w' : World} {x : Nat} {d : D} (h : isD Tryz.prog d x w) {v : Nat → D} {o : Nat → Value} {nx nx' : Nat} {E' : Env} {h' : T Blk} (hg : Goes (envL [x] (rhoI v o)) oneM nx w E' h' nx' w') {e : X} (v0 : (h'.get 0).map Blk.view = some (.abs e)) :
    isD Tryz.prog (e.val (rhoI v o)) x w' ∧ (∀ k, ownD Tryz.prog x w' k → ownD Tryz.prog x w k ∨ w.heap.size ≤ k) ∧ But (ownD Tryz.prog x w) w w' := by
  have hρ : E'.ρ = rhoI v o := hg.ext.ρ
  have m0 : E'.m 0 = some ⟨x, 0, 0⟩ := hg.ext.m _ _ (envL_at rfl)
  have his := abs_of_view hg.rel v0 m0
  rw [hρ] at his
  have own : ∀ k, Owned (envL [x] (rhoI v o)) oneM w k → ownD Tryz.prog x w k := fun k ho => by
    have hb : ∀ j B, oneM.get j = some B → j = 0 ∧ B = .abs (.va 0) := fun j B hB => by
      have := memL_get hB
      match j, this with
      | 0, h => exact ⟨rfl, (Option.some.inj h).symm⟩
      | j + 1, h => simp at h
    rcases ho with ⟨j, B, q, hB, hq, rfl⟩ | ⟨j, e, q, hB, hq, ho⟩
    · obtain ⟨rfl, rfl⟩ := hb j B hB
      have e1 := Option.some.inj (envL_inv hq).1
      rw [← e1]
      exact isD_self h
    · obtain ⟨rfl, _⟩ := hb j _ hB
      have e1 := Option.some.inj (envL_inv hq).1
      rw [← e1] at ho
      exact ho
  refine ⟨his, fun k hk => ?_, ⟨hg.frame.os, hg.frame.tape, hg.frame.output, hg.frame.size, fun k hk hn => hg.frame.block k hk fun ho => hn (own k ho)⟩⟩
  have hk2 : E'.ρ.A.own x w' k := by rw [hρ]; exact hk
  exact (hg.uown 0 e _ (get_abs v0) m0 k hk2).imp (own k) id
theorem ba_sub (s : ByteArray) (a b : Nat) : (s.extract a b).data.toList = (s.data.toList.drop a).take (b - a) := by
  rw [ByteArray.data_extract, Array.toList_extract, List.extract_eq_take_drop]
theorem ba_size (s : ByteArray) : s.data.toList.length = s.size := (Lib.size_eq s).symm
end Go.Proofs.YtcnimekhpnejlaaGreat.Ev
