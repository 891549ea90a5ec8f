/- Texts of this seat joined into one: I6, K0, K1, K2, K3, K4, F1, F2, F3T, I7T, I7, I8T, I8. -/
import Derived.Test.YtcnimekhpnejlaaGreatVFileBack10
import Derived.Test.YtcnimekhpnejlaaGreatVFileBack11
import Derived.Test.YtcnimekhpnejlaaGreatVFileBack6
import Derived.Test.YtcnimekhpnejlaaGreatVFileBack8

/- Inodes: Resize. -/
namespace Go.Proofs.YtcnimekhpnejlaaGreat.Ev
open Go Go.RowKit
set_option linter.unusedVariables false
set_option linter.unusedSimpArgs false
set_option maxRecDepth 10000

theorem rsP_ev (ρ : Rho) : ways (fun pc => (evCall (ctx rules ρ pc) funT.get (sumH pc) 100000 1000 35 [.a (.s (.ptr 0 0)), .a (.s (.xi .i64 (.va 1))), .a (.s (.xi .i64 (.va 7))), .a (.s (.xi .u64 (.va 8)))] inoM 4).map (view [0, 1, 2, 3])) rsPT [] = some rsPL := by kernel_rfl

/-- An inode of another size. -/
def resN (N : Nd) (s : Nat) (st : Int) : Nd := { N with bytes := resizeB N.bytes s, stamp := st }
theorem res_funA {bs : List UInt8} {s : Nat} (h : bs.length ≤ s ∨ s % 256 = 0) : (fun q => if q < leavesN s then leafOf bs q else zeros 256) = leafOf (resizeB bs s) := by
  funext q
  split
  · rename_i hq
    refine (leafOf_same ?_).symm
    have := leavesN_lt.1 hq
    omega
  · rename_i hq
    refine (leafOf_past ?_).symm
    rw [resizeB_length]
    omega
theorem res_funB {bs : List UInt8} {s : Nat} (h : s % 256 ≠ 0) : (fun q => if q = leavesN s - 1 then cutB (leafOf bs (leavesN s - 1)) (leavesN s - 1) s else if q < leavesN s then leafOf bs q else zeros 256) = leafOf (resizeB bs s) := by
  funext q
  split
  · rename_i hq
    rw [hq, leafOf_resize]
  · rename_i hq
    split
    · rename_i hl
      refine (leafOf_same ?_).symm
      unfold leavesN at hq hl
      omega
    · rename_i hl
      refine (leafOf_past ?_).symm
      rw [resizeB_length]
      omega
theorem sub1_int {ρ : Rho} {e : X} {k : Nat} (he : e.int ρ = k) (hk : k ≤ 4096) : X.int ρ (.bin .sub .i64 e (.li 1)) = (k : Int) - 1 := by
  show IntKind.i64.wrap (e.int ρ - 1) = _
  rw [he, wrap_i (by omega) (by omega)]
theorem rem_nat {ρ : Rho} {e : X} {s m : Nat} (he : e.int ρ = s) : X.int ρ (.bin .rem .i64 e (.li m)) = (s % m : Nat) := by
  show (e.int ρ).tmod (m : Int) = _
  rw [he, Int.tmod_eq_emod_of_nonneg (by omega)]
  exact (Int.natCast_emod s m).symm

theorem ino_resize {w : World} {x : Nat} {S : Int → Nd} (h : isD Tryz.prog (.st (.ino S)) x w) {n : Int} {s : Nat} (hk : (S n).kind ≠ 0) (hs : s ≤ 1048576) (hdir : (S n).kind = 2 → s % 64 = 0) {st : Int} (hst : 0 ≤ st ∧ st ≤ 18446744073709551615) :
    Acts Tryz.prog 35 x [.int .i64 n, .int .i64 s, .int .u64 st] w fun u d => d = .st (.ino (updS S n (resN (S n) s st))) ∧ u = .int .i64 0 := by
  obtain ⟨m, L, h⟩ := h
  cases hL : L n with
  | none => exact absurd (by rw [h.off n hL]; rfl) hk
  | some t =>
    have hnb := h.num n t hL
    have hok := h.ok n
    have hsz := hok.size
    have hl4 : leavesN s ≤ 4096 := by unfold leavesN; omega
    have hl5 : leavesN (S n).bytes.length ≤ 4096 := by unfold leavesN; omega
    obtain ⟨c, hc, hopen⟩ := ino_open h hL
    have hr := hopen [.i s, .i st]
    obtain ⟨y, hy, ht, hcm⟩ := ways_calls (rules_ok (base_ok _ _)) (fun pc hpc => sumH_ok hpc) (rsP_ev _) hr rfl (envL_fresh _ _) (vs := [.pointer (some ⟨x, 0, none⟩), .int .i64 n, .int .i64 s, .int .u64 st]) ⟨⟨⟨x, 0, 0⟩, envL_at rfl, rfl⟩, rfl, rfl, rfl, trivial⟩
    obtain ⟨ρ, hρ⟩ : ∃ ρ, ρ = rhoV (ofL (inoV (fun k => (L k).map (·.1)) n (S n) [.i s, .i st])) fun _ => c := ⟨_, rfl⟩
    have hlenR : (resN (S n) s st).bytes.length = s := resizeB_length _ _
    have hokR : (resN (S n) s st).Ok := ⟨hok.kind, hok.links, by rw [hlenR]; exact hs, fun e => absurd e hk, fun e => by rw [hlenR]; exact hdir e, hst⟩
    have h7' : X.int (rhoV (ofL (inoV (fun k => (L k).map (·.1)) n (S n) [.i s, .i st])) fun _ => c) (.va 7) = s := rfl
    have hlv' := leaves_int h7' hs
    have hlast' := sub1_int hlv' hl4
    have fin : ∀ (e : X), e.val (rhoV (ofL (inoV (fun k => (L k).map (·.1)) n (S n) [.i s, .i st])) fun _ => c) = .st (.grow (leavesN s) (leafOf (resizeB (S n).bytes s))) →
        Came Tryz.prog 35 #[.pointer (some ⟨x, 0, none⟩), .int .i64 n, .int .i64 s, .int .u64 st] (envL [x, m, t.1, t.2.1] (rhoV (ofL (inoV (fun k => (L k).map (·.1)) n (S n) [.i s, .i st])) fun _ => c)) inoM 4 w [0, 1, 2, 3] ((.a (.s (.int .i64 0))), [some (.cells 107 (inoL 1)), some (.opq (.va 0) [(.va 1, 2), (.li 0, 0)]), some (.cells 100 [.xi .i64 (.va 1), .xi .i64 (.va 3), .xi .i64 (.va 4), .xi .i64 (.va 7), .xi .u64 (.va 8), .ptr 3 0]), some (.abs e)]) →
        Acts Tryz.prog 35 x [.int .i64 n, .int .i64 s, .int .u64 st] w fun u d => d = .st (.ino (updS S n (resN (S n) s st))) ∧ u = .int .i64 0 := fun e hev hcm => by
      refine Calls.mono hcm fun en w' ⟨v, E', h', nx', he, hg, hv, hview⟩ => ?_
      have v0 := (List.cons.inj hview).1.symm
      have r1 := (List.cons.inj hview).2
      have v1 := (List.cons.inj r1).1.symm
      have r2 := (List.cons.inj r1).2
      have v2 := (List.cons.inj r2).1.symm
      have v3 := (List.cons.inj (List.cons.inj r2).2).1.symm
      have hρ2 : E'.ρ = _ := hg.ext.ρ
      obtain ⟨g1, g2, g3⟩ := ino_done h hL hc rfl rfl hg v0 v1 v2 v3 rfl (N' := resN (S n) s st) hokR (by
          simp only [List.map_cons, List.map_nil, SV.den, hρ2, hlenR]
          rfl) (by
          rw [hlenR]
          exact hev)
      exact ⟨v, _, he, ⟨rfl, hv⟩, g1, g2, g3⟩
    have valA : X.val (rhoV (ofL (inoV (fun k => (L k).map (·.1)) n (S n) [.i s, .i st])) fun _ => c) (.app 34 (.cons (.va 2) (.bin .quo .i64 (.bin .sub .i64 (.bin .add .i64 (.va 7) (.li 256)) (.li 1)) (.li 256)))) = .st (.grow (leavesN s) fun q => if q < leavesN s then leafOf (S n).bytes q else zeros 256) := by
      show D.st (.grow (X.int (rhoV (ofL (inoV (fun k => (L k).map (·.1)) n (S n) [.i s, .i st])) fun _ => c) (.bin .quo .i64 (.bin .sub .i64 (.bin .add .i64 (.va 7) (.li 256)) (.li 1)) (.li 256))).toNat fun q => if q < (X.int (rhoV (ofL (inoV (fun k => (L k).map (·.1)) n (S n) [.i s, .i st])) fun _ => c) (.bin .quo .i64 (.bin .sub .i64 (.bin .add .i64 (.va 7) (.li 256)) (.li 1)) (.li 256))).toNat then leafOf (S n).bytes q else zeros 256) = _
      rw [hlv', Int.toNat_natCast]
    rw [← hρ] at ht hlv' hlast' h7' valA
    have h1 : X.int ρ (.va 1) = n := by rw [hρ]; rfl
    have h3 : X.int ρ (.va 3) = (S n).kind := by rw [hρ]; rfl
    have h5 : X.int ρ (.va 5) = ((S n).bytes.length : Nat) := by rw [hρ]; rfl
    have hr256 : X.int ρ (.bin .rem .i64 (.va 7) (.li 256)) = (s % 256 : Nat) := rem_nat (m := 256) h7'
    have hr64 : X.int ρ (.bin .rem .i64 (.va 7) (.li 64)) = (s % 64 : Nat) := rem_nat (m := 64) h7'
    have h36 : X.bool ρ (.app 36 (.va 2)) = true := by rw [hρ]; rfl
    have h36b : X.bool ρ (.app 36 (.app 34 (.cons (.va 2) (.bin .quo .i64 (.bin .sub .i64 (.bin .add .i64 (.va 7) (.li 256)) (.li 1)) (.li 256))))) = true := by rw [hρ]; rfl
    have h902 : X.bool ρ (.app 902 (.bin .sub .i64 (.bin .quo .i64 (.bin .sub .i64 (.bin .add .i64 (.va 7) (.li 256)) (.li 1)) (.li 256)) (.li 1))) = true := by
      have : (FN 902 (X.val ρ (.bin .sub .i64 (.bin .quo .i64 (.bin .sub .i64 (.bin .add .i64 (.va 7) (.li 256)) (.li 1)) (.li 256)) (.li 1)))).bool = true := decide_eq_true (by
        show -9223372036854775808 ≤ X.int ρ _ ∧ X.int ρ _ ≤ _
        rw [hlast']
        omega)
      rw [hρ] at this ⊢
      exact this
    have hroom := heightN_room hl5
    have h30 : s < (S n).bytes.length → s % 256 ≠ 0 → X.bool ρ (.app 30 (.cons (.va 2) (.bin .sub .i64 (.bin .quo .i64 (.bin .sub .i64 (.bin .add .i64 (.va 7) (.li 256)) (.li 1)) (.li 256)) (.li 1)))) = true := fun a1 a2 => by
      have : decide (0 ≤ X.int ρ (.bin .sub .i64 (.bin .quo .i64 (.bin .sub .i64 (.bin .add .i64 (.va 7) (.li 256)) (.li 1)) (.li 256)) (.li 1)) ∧ X.int ρ (.bin .sub .i64 (.bin .quo .i64 (.bin .sub .i64 (.bin .add .i64 (.va 7) (.li 256)) (.li 1)) (.li 256)) (.li 1)) < (4 ^ heightN (leavesN (S n).bytes.length) : Nat)) = true := decide_eq_true (by
        rw [hlast']
        have : leavesN s ≤ leavesN (S n).bytes.length := by unfold leavesN; omega
        have : 1 ≤ leavesN s := by unfold leavesN; omega
        omega)
      rw [hρ] at this ⊢
      exact this
    have h32 : s % 256 ≠ 0 → X.bool ρ (.app 32 (.cons (.app 34 (.cons (.va 2) (.bin .quo .i64 (.bin .sub .i64 (.bin .add .i64 (.va 7) (.li 256)) (.li 1)) (.li 256)))) (.bin .sub .i64 (.bin .quo .i64 (.bin .sub .i64 (.bin .add .i64 (.va 7) (.li 256)) (.li 1)) (.li 256)) (.li 1)))) = true := fun a2 => by
      have : (FN 32 (.p (X.val ρ (.app 34 (.cons (.va 2) (.bin .quo .i64 (.bin .sub .i64 (.bin .add .i64 (.va 7) (.li 256)) (.li 1)) (.li 256))))) (X.val ρ (.bin .sub .i64 (.bin .quo .i64 (.bin .sub .i64 (.bin .add .i64 (.va 7) (.li 256)) (.li 1)) (.li 256)) (.li 1))))).bool = true := by
        rw [valA]
        refine decide_eq_true (?_ : 0 ≤ X.int ρ _ ∧ X.int ρ _ < ((leavesN s : Nat) : Int))
        rw [hlast']
        have : 1 ≤ leavesN s := by unfold leavesN; omega
        omega
      rw [hρ] at this ⊢
      exact this
    have gA : (S n).bytes.length ≤ s ∨ s % 256 = 0 → X.val ρ (.app 34 (.cons (.va 2) (.bin .quo .i64 (.bin .sub .i64 (.bin .add .i64 (.va 7) (.li 256)) (.li 1)) (.li 256)))) = .st (.grow (leavesN s) (leafOf (resizeB (S n).bytes s))) := fun hh => by
      rw [valA, res_funA hh]
    have gB : s % 256 ≠ 0 → X.val ρ (.app 33 (.cons (.app 34 (.cons (.va 2) (.bin .quo .i64 (.bin .sub .i64 (.bin .add .i64 (.va 7) (.li 256)) (.li 1)) (.li 256)))) (.cons (.bin .sub .i64 (.bin .quo .i64 (.bin .sub .i64 (.bin .add .i64 (.va 7) (.li 256)) (.li 1)) (.li 256)) (.li 1)) (.app 40 (.cons (.app 31 (.cons (.va 2) (.bin .sub .i64 (.bin .quo .i64 (.bin .sub .i64 (.bin .add .i64 (.va 7) (.li 256)) (.li 1)) (.li 256)) (.li 1)))) (.cons (.bin .sub .i64 (.bin .quo .i64 (.bin .sub .i64 (.bin .add .i64 (.va 7) (.li 256)) (.li 1)) (.li 256)) (.li 1)) (.va 7))))))) = .st (.grow (leavesN s) (leafOf (resizeB (S n).bytes s))) := fun hh => by
      have hl1 : 1 ≤ leavesN s := by unfold leavesN; omega
      have hln : (X.int ρ (.bin .sub .i64 (.bin .quo .i64 (.bin .sub .i64 (.bin .add .i64 (.va 7) (.li 256)) (.li 1)) (.li 256)) (.li 1))).toNat = leavesN s - 1 := by rw [hlast']; omega
      have h2v : X.val ρ (.va 2) = .st (.grow (leavesN (S n).bytes.length) (leafOf (S n).bytes)) := by rw [hρ]; rfl
      have key : FN 33 (.p (X.val ρ (.app 34 (.cons (.va 2) (.bin .quo .i64 (.bin .sub .i64 (.bin .add .i64 (.va 7) (.li 256)) (.li 1)) (.li 256))))) (.p (X.val ρ (.bin .sub .i64 (.bin .quo .i64 (.bin .sub .i64 (.bin .add .i64 (.va 7) (.li 256)) (.li 1)) (.li 256)) (.li 1))) (FN 40 (.p (FN 31 (.p (X.val ρ (.va 2)) (X.val ρ (.bin .sub .i64 (.bin .quo .i64 (.bin .sub .i64 (.bin .add .i64 (.va 7) (.li 256)) (.li 1)) (.li 256)) (.li 1))))) (.p (X.val ρ (.bin .sub .i64 (.bin .quo .i64 (.bin .sub .i64 (.bin .add .i64 (.va 7) (.li 256)) (.li 1)) (.li 256)) (.li 1))) (X.val ρ (.va 7))))))) = .st (.grow (leavesN s) (leafOf (resizeB (S n).bytes s))) := by
        rw [valA, h2v]
        show D.st (.grow (leavesN s) fun q => if q = (X.int ρ (.bin .sub .i64 (.bin .quo .i64 (.bin .sub .i64 (.bin .add .i64 (.va 7) (.li 256)) (.li 1)) (.li 256)) (.li 1))).toNat then pad ⟨(cutB (pad ⟨(leafOf (S n).bytes (X.int ρ (.bin .sub .i64 (.bin .quo .i64 (.bin .sub .i64 (.bin .add .i64 (.va 7) (.li 256)) (.li 1)) (.li 256)) (.li 1))).toNat).toArray⟩) (X.int ρ (.bin .sub .i64 (.bin .quo .i64 (.bin .sub .i64 (.bin .add .i64 (.va 7) (.li 256)) (.li 1)) (.li 256)) (.li 1))).toNat (X.int ρ (.va 7)).toNat).toArray⟩ else if q < leavesN s then leafOf (S n).bytes q else zeros 256) = _
        rw [hln, h7', Int.toNat_natCast, pad_of (leafOf_length _ _), pad_of (cutB_length (leafOf_length _ _) _ _), res_funB hh]
      rw [hρ] at key ⊢
      exact key
    rw [← hρ] at fin
    simp only [rsPL, List.mem_cons, List.not_mem_nil, or_false] at hy
    rw [← hρ] at hcm
    have hlN1 : s % 256 ≠ 0 → 1 ≤ leavesN s := fun a => by unfold leavesN; omega
    rcases hy with rfl | rfl | rfl | rfl | rfl | rfl | rfl | rfl | rfl | rfl | rfl | rfl | rfl | rfl | rfl | rfl | rfl | rfl | rfl | rfl | rfl | rfl | rfl | rfl | rfl | rfl | rfl | rfl | rfl | rfl | rfl | rfl | rfl | rfl | rfl | rfl | rfl | rfl | rfl | rfl | rfl | rfl | rfl | rfl | rfl | rfl | rfl | rfl | rfl | rfl | rfl | rfl | rfl | rfl | rfl | rfl | rfl | rfl | rfl | rfl | rfl | rfl | rfl | rfl | rfl | rfl | rfl | rfl | rfl | rfl | rfl | rfl | rfl | rfl | rfl | rfl | rfl | rfl | rfl | rfl | rfl | rfl | rfl | rfl | rfl | rfl | rfl <;> simp only [told_cons, told_nil, eq_true, eq_false, lt_true, lt_false, h1, h3, h5, h7', hlv', hlast', hr256, hr64, h36, h36b, h902, li_int, and_true, true_and, reduceCtorEq, false_and, and_false] at ht <;> first
      | omega
      | (exact fin _ (gA (by omega)) (hcm _ rfl))
      | (exact fin _ (gB (by omega)) (hcm _ rfl))
      | (have e30 := h30 (by omega) (by omega); rw [e30] at ht; simp only [reduceCtorEq, false_and, and_false] at ht; done)
      | (have e32 := h32 (by omega); rw [e32] at ht; simp only [reduceCtorEq, false_and, and_false] at ht; done)
      | (have e30 := h30 (by omega) (by omega); rw [e30] at ht; have e32 := h32 (by omega); rw [e32] at ht; simp only [reduceCtorEq, false_and, and_false] at ht; done)
      | (have e32 := h32 (by omega); exact Bool.noConfusion (ht.1.symm.trans e32))
      | (have e30 := h30 (by omega) (by omega); exact Bool.noConfusion (ht.1.symm.trans e30))
      | trace_state
end Go.Proofs.YtcnimekhpnejlaaGreat.Ev

/- Inodes behind handles: what the functions of open values are. -/
namespace Go.Proofs.YtcnimekhpnejlaaGreat.Ev
open Go Go.RowKit
set_option linter.unusedVariables false
set_option linter.unusedSimpArgs false
set_option maxRecDepth 10000

/-- An inode into which bytes were laid. -/
def layN (N : Nd) (a : Nat) (s : List UInt8) (st : Int) : Nd := if s = [] then N else { N with bytes := overB N.bytes a s, stamp := st }
/-- An inode into which bytes were written. -/
def wrN (N : Nd) (a : Nat) (s : List UInt8) (st : Int) : Nd := if s = [] then N else { N with bytes := writeB N.bytes a s, stamp := st }
def D.bs (d : D) : List UInt8 := d.str.data.toList
def FNi (k : Nat) (d : D) : D :=
  match k, d with
  | 902, d => .b (decide (-9223372036854775808 ≤ d.int ∧ d.int ≤ 9223372036854775807))
  | 50, .p (.st (.ino S)) n => .i (S n.int).kind
  | 51, .p (.st (.ino S)) n => .i (S n.int).links
  | 52, .p (.st (.ino S)) n => .i ((S n.int).bytes.length : Nat)
  | 53, .p (.st (.ino S)) n => .i (S n.int).stamp
  | 54, .p (.st (.ino S)) (.p n p) => .s ⟨(leafOf (S n.int).bytes p.int.toNat).toArray⟩
  | 55, .p (.st (.ino S)) (.p n (.p p (.p b t))) => .st (.ino (updS S n.int (setN (S n.int) p.int.toNat (pad b.str) t.int)))
  | 56, .p (.st (.ino S)) (.p n (.p s t)) => .st (.ino (updS S n.int (resN (S n.int) s.int.toNat t.int)))
  | 57, .st (.ino _) => .b true
  | 57, _ => .b false
  | 58, .p (.st (.ino S)) (.p n p) => .b (decide (0 ≤ p.int ∧ p.int < (leavesN (S n.int).bytes.length : Nat)))
  | 59, d => .b (decide (0 ≤ d.int ∧ d.int ≤ 18446744073709551615))
  | 60, .p (.st (.ino S)) (.p n (.p a (.p s t))) => .st (.ino (updS S n.int (layN (S n.int) a.int.toNat s.bs t.int)))
  | 61, .p (.st (.ino S)) (.p n (.p a b)) => .s ⟨(rdB (S n.int).bytes a.int.toNat b.int.toNat).toArray⟩
  | 62, .p (.st (.ino S)) (.p n (.p a s)) => .b (decide (0 ≤ a.int ∧ a.int + (s.str.size : Nat) ≤ ((S n.int).bytes.length : Nat)))
  | 63, .p b (.p a s) => .s ⟨(overB (pad b.str) a.int.toNat s.bs).toArray⟩
  | 64, .p a s => .b (decide (0 ≤ a.int ∧ a.int + (s.str.size : Nat) ≤ 1048576))
  | 65, .p (.st (.ino S)) (.p n (.p a (.p s t))) => .st (.ino (updS S n.int (wrN (S n.int) a.int.toNat s.bs t.int)))
  | 66, .p (.st (.ino S)) (.p n (.p a m)) => .s ⟨(readB (S n.int).bytes a.int.toNat m.int.toNat).toArray⟩
  | 67, .p (.st (.ino S)) (.p n o) => .b (decide ((S n.int).bytes = (S o.int).bytes))
  | 68, .p (.st (.ino S)) n => .b (decide (1 ≤ n.int ∧ n.int ≤ 4096 ∧ (S n.int).kind = 1))
  | 69, n => .s ⟨(zeros n.int.toNat).toArray⟩
  | _, _ => .z
noncomputable def rhoI (v : Nat → D) (o : Nat → Value) : Rho := ⟨v, o, FNi, fun _ _ _ => False, absD Tryz.prog⟩
def rules0 : Rules := ⟨fun _ _ _ _ _ => none, fun _ _ _ _ _ _ => none⟩
theorem rules0_ok (ρ : Rho) : rules0.Ok ρ := fun pc hpc => {
  tab := fun t e h => teOf_ok h
  pc := hpc
  olk := fun t e ls y r h => by cases h
  oup := fun t e ls y x r h => by cases h }
theorem told57 {v : Nat → D} {o : Nat → Value} {pc : List (X × Bool)} (hpc : Told (rhoI v o) pc) {e : X} (h : truL pc (.app 57 e) = some true) : ∃ S, e.val (rhoI v o) = .st (.ino S) := by
  have h1 : (FNi 57 (e.val (rhoI v o))).bool = true := truL_ok hpc h
  generalize e.val (rhoI v o) = d at h1 ⊢
  cases d with
  | st x =>
    cases x with
    | ino S => exact ⟨S, rfl⟩
    | grow => cases h1
    | works => cases h1
    | leaves => cases h1
  | _ => cases h1
theorem acts_aoi {v : Nat → D} {o : Nat → Value} {g a : Nat} {args : List Value} {w : World} {Q : Value → D → Prop} {E : Env} {r : EV} {e' : X} (h : Acts Tryz.prog g a args w Q) (hQ : ∀ u d, Q u d → r.rel E u ∧ d = e'.val (rhoI v o)) :
    Calls Tryz.prog g (.pointer (some ⟨a, 0, none⟩) :: args).toArray w fun en w' => ∃ u, en = .returned u ∧ r.rel E u ∧ (rhoI v o).A.is (e'.val (rhoI v o)) a w' ∧ (∀ k, (rhoI v o).A.own a w' k → (rhoI v o).A.own a w k ∨ w.heap.size ≤ k) ∧
      w'.os = w.os ∧ w'.tape = w.tape ∧ w'.output = w.output ∧ w.heap.size ≤ w'.heap.size ∧ ∀ k, k < w.heap.size → ¬ (rhoI v o).A.own a w k → w'.heap[k]? = w.heap[k]? :=
  Calls.mono h fun en w' ⟨u, d, h1, h2, h3, h4, h5⟩ => by
    obtain ⟨hr, rfl⟩ := hQ u d h2
    exact ⟨u, h1, hr, h3, h4, h5.os, h5.tape, h5.output, h5.size, h5.block⟩
theorem inI64_oki {v : Nat → D} {o : Nat → Value} {pc : List (X × Bool)} (hpc : Told (rhoI v o) pc) {e : X} (h : inI64 pc e = true) : i64 (e.int (rhoI v o)) := by
  unfold inI64 at h
  unfold i64
  split at h
  · exact of_decide_eq_true h
  · exact of_decide_eq_true (truL_ok hpc (of_decide_eq_true h) : decide _ = true)
theorem inU64_oki {v : Nat → D} {o : Nat → Value} {pc : List (X × Bool)} (hpc : Told (rhoI v o) pc) {e : X} (h : inU64 pc e = true) : 0 ≤ e.int (rhoI v o) ∧ e.int (rhoI v o) ≤ 18446744073709551615 := by
  unfold inU64 at h
  split at h
  · exact of_decide_eq_true h
  · exact of_decide_eq_true (truL_ok hpc (of_decide_eq_true h) : decide _ = true)
theorem rNum_ok {v : Nat → D} {o : Nat → Value} {pc : List (X × Bool)} (hpc : Told (rhoI v o) pc) {n : X} {b : Bool} (h : rNum pc n = some b) : b = decide (1 ≤ n.int (rhoI v o) ∧ n.int (rhoI v o) ≤ 4096) := by
  unfold rNum at h
  obtain ⟨a, ha, h⟩ := Option.bind_eq_some_iff.1 h
  have h1 : decide (n.int (rhoI v o) < 1) = a := truL_ok hpc ha
  cases a with
  | true =>
    obtain rfl := Option.some.inj h
    have := of_decide_eq_true h1
    exact (decide_eq_false (by omega)).symm
  | false =>
    obtain ⟨c, hc, rfl⟩ := Option.map_eq_some_iff.1 h
    have h1 := of_decide_eq_false h1
    have h2 : decide (4096 < n.int (rhoI v o)) = c := truL_ok hpc hc
    cases c with
    | true =>
      have := of_decide_eq_true h2
      exact (decide_eq_false (by omega)).symm
    | false =>
      have := of_decide_eq_false h2
      exact (decide_eq_true (by omega)).symm
theorem rUsed_ok {v : Nat → D} {o : Nat → Value} {pc : List (X × Bool)} (hpc : Told (rhoI v o) pc) {e n : X} {S : Int → Nd} (he : e.val (rhoI v o) = .st (.ino S)) {r : Int} (h : rUsed pc e n = some r) : r = if (S (n.int (rhoI v o))).kind = 0 then 151 else 0 := by
  unfold rUsed at h
  obtain ⟨b, hb, rfl⟩ := Option.map_eq_some_iff.1 h
  have h1 : ((FNi 50 (.p (e.val (rhoI v o)) (n.val (rhoI v o)))).int == 0) = b := truL_ok hpc hb
  rw [he] at h1
  have h1 : ((S (n.int (rhoI v o))).kind == 0) = b := h1
  cases b with
  | true => exact (if_pos (beq_iff_eq.1 h1)).symm
  | false => exact (if_neg (beq_eq_false_iff_ne.1 h1)).symm
end Go.Proofs.YtcnimekhpnejlaaGreat.Ev

/- The rules of inodes behind handles hold. -/
namespace Go.Proofs.YtcnimekhpnejlaaGreat.Ev
open Go Go.RowKit
set_option linter.unusedVariables false
set_option linter.unusedSimpArgs false
set_option maxRecDepth 10000

theorem infoX_rel {v : Nat → D} {o : Nat → Value} {E : Env} (hρ : E.ρ = rhoI v o) {e n : X} {S : Int → Nd} (he : e.val (rhoI v o) = .st (.ino S)) : (AV.agg (infoX e n)).rel E (infoV (n.int (rhoI v o)) (S (n.int (rhoI v o)))) := by
  refine ⟨[.int .i64 (n.int (rhoI v o)), .int .i64 (S (n.int (rhoI v o))).kind, .int .i64 (S (n.int (rhoI v o))).links, .int .i64 ((S (n.int (rhoI v o))).bytes.length : Nat), .int .u64 (S (n.int (rhoI v o))).stamp], rfl, ?_⟩
  have h : ∀ k, (FNi k (.p (e.val (rhoI v o)) (n.val (rhoI v o)))) = FNi k (.p (.st (.ino S)) (n.val (rhoI v o))) := fun k => by rw [he]
  refine ⟨?_, ?_, ?_, ?_, ?_, trivial⟩
  · show _ = Value.int .i64 (n.int E.ρ)
    rw [hρ]
  · show _ = Value.int .i64 (X.int E.ρ (.app 50 (.cons e n)))
    rw [hρ]
    exact congrArg (Value.int .i64) (congrArg D.int (h 50)).symm
  · show _ = Value.int .i64 (X.int E.ρ (.app 51 (.cons e n)))
    rw [hρ]
    exact congrArg (Value.int .i64) (congrArg D.int (h 51)).symm
  · show _ = Value.int .i64 (X.int E.ρ (.app 52 (.cons e n)))
    rw [hρ]
    exact congrArg (Value.int .i64) (congrArg D.int (h 52)).symm
  · show _ = Value.int .u64 (X.int E.ρ (.app 53 (.cons e n)))
    rw [hρ]
    exact congrArg (Value.int .u64) (congrArg D.int (h 53)).symm
theorem infoZX_rel {E : Env} : (AV.agg infoZX).rel E infoZ := ⟨[.int .i64 0, .int .i64 0, .int .i64 0, .int .i64 0, .int .u64 0], rfl, rfl, rfl, rfl, rfl, rfl, trivial⟩
theorem rIno_get {v : Nat → D} {o : Nat → Value} {pc : List (X × Bool)} (hpc : Told (rhoI v o) pc) {e : X} {args : List EV} {r : EV × X} (h : rIno pc 46 e args = some r) : AOk Tryz.prog (rhoI v o) 46 e args r.1 r.2 := by
  intro E hρ a w vs his hargs
  unfold rIno at h
  split at h
  · rename_i h57
    obtain ⟨S, he⟩ := told57 hpc h57
    have his2 : isD Tryz.prog (e.val (rhoI v o)) a w := his
    rw [he] at his2
    rw [if_pos rfl] at h
    split at h
    · rename_i y
      obtain ⟨⟨k, n⟩, hn, h⟩ := Option.bind_eq_some_iff.1 h
      split at h
      · rename_i hk
        obtain ⟨hk, hin⟩ := hk
        have hk : k = .i64 := hk
        subst hk
        obtain ⟨b, hb, h⟩ := Option.bind_eq_some_iff.1 h
        have hb : b = decide (1 ≤ n.int (rhoI v o) ∧ n.int (rhoI v o) ≤ 4096) := rNum_ok hpc hb
        match vs, hargs with
        | [u], hargs =>
          have hu : u = .int .i64 (n.int (rhoI v o)) := by rw [← hρ]; exact asI_rel hn hargs.1
          subst hu
          refine acts_aoi (ino_get his2 (inI64_oki hpc hin)) fun u d ⟨hd, hu⟩ => ?_
          subst hd
          subst hu
          unfold getV
          split at h
          · rename_i hbt
            rw [hbt] at hb
            have hb := of_decide_eq_true hb.symm
            obtain ⟨q, hq, rfl⟩ := Option.map_eq_some_iff.1 h
            have hq : q = if (S (n.int (rhoI v o))).kind = 0 then 151 else 0 := rUsed_ok hpc he hq
            refine ⟨?_, he.symm⟩
            show (if q = 0 then EV.tup [.agg (infoX e n), .s (.int .i64 0)] else .tup [.agg infoZX, .s (.int .i64 q)]).rel E (if n.int (rhoI v o) < 1 ∨ 4096 < n.int (rhoI v o) then _ else _)
            rw [if_neg (c := n.int (rhoI v o) < 1 ∨ 4096 < n.int (rhoI v o)) (by omega)]
            by_cases hk : (S (n.int (rhoI v o))).kind = 0
            · rw [if_pos hk] at hq ⊢
              subst hq
              show (EV.tup [.agg infoZX, .s (.int .i64 151)]).rel E _
              exact tup2_mk infoZX_rel rfl
            · rw [if_neg hk] at hq ⊢
              subst hq
              show (EV.tup [.agg (infoX e n), .s (.int .i64 0)]).rel E _
              exact tup2_mk (infoX_rel hρ he) rfl
          · rename_i hbt
            have hbf : b = false := by simpa using hbt
            rw [hbf] at hb
            have hb := of_decide_eq_false hb.symm
            obtain rfl := Option.some.inj h
            refine ⟨?_, he.symm⟩
            show (EV.tup [.agg infoZX, .s (.int .i64 141)]).rel E (if n.int (rhoI v o) < 1 ∨ 4096 < n.int (rhoI v o) then _ else _)
            rw [if_pos (by omega)]
            exact tup2_mk infoZX_rel rfl
      · cases h
    · cases h
  · cases h
end Go.Proofs.YtcnimekhpnejlaaGreat.Ev

/- The rule of Leaf of inodes behind handles holds. -/
namespace Go.Proofs.YtcnimekhpnejlaaGreat.Ev
open Go Go.RowKit
set_option linter.unusedVariables false
set_option linter.unusedSimpArgs false
set_option maxRecDepth 10000
theorem rIno_leaf {v : Nat → D} {o : Nat → Value} {pc : List (X × Bool)} (hpc : Told (rhoI v o) pc) {e : X} {args : List EV} {r : EV × X} (h : rIno pc 52 e args = some r) : AOk Tryz.prog (rhoI v o) 52 e args r.1 r.2 := by
  intro E hρ a w vs his hargs
  unfold rIno at h
  split at h
  · rename_i h57
    obtain ⟨S, he⟩ := told57 hpc h57
    have his2 : isD Tryz.prog (e.val (rhoI v o)) a w := his
    rw [he] at his2
    rw [if_neg (by decide), if_pos rfl] at h
    split at h
    · rename_i y z
      obtain ⟨⟨k, n⟩, hn, h⟩ := Option.bind_eq_some_iff.1 h
      obtain ⟨⟨k2, p⟩, hp, h⟩ := Option.bind_eq_some_iff.1 h
      split at h
      · rename_i hk
        obtain ⟨hk, hk2, hin, hip, c1, c2, c3, c4⟩ := hk
        have hk : k = .i64 := hk
        have hk2 : k2 = .i64 := hk2
        subst hk
        subst hk2
        obtain rfl := Option.some.inj h
        have c1 : decide (p.int (rhoI v o) < 0) = false := truL_ok hpc c1
        have c2 : decide (p.int (rhoI v o) < 4096) = true := truL_ok hpc c2
        have c3 : true = decide (1 ≤ n.int (rhoI v o) ∧ n.int (rhoI v o) ≤ 4096) := rNum_ok hpc c3
        have c4 : (0 : Int) = if (S (n.int (rhoI v o))).kind = 0 then 151 else 0 := rUsed_ok hpc he c4
        have c1 := of_decide_eq_false c1
        have c2 := of_decide_eq_true c2
        have c3 := of_decide_eq_true c3.symm
        have c5 : (S (n.int (rhoI v o))).kind ≠ 0 := fun e2 => by rw [if_pos e2] at c4; cases c4
        match vs, hargs with
        | [u, u2], hargs =>
          have hu : u = .int .i64 (n.int (rhoI v o)) := by rw [← hρ]; exact asI_rel hn hargs.1
          have hu2 : u2 = .int .i64 (p.int (rhoI v o)) := by rw [← hρ]; exact asI_rel hp hargs.2.1
          subst hu
          subst hu2
          refine acts_aoi (ino_leaf his2 (inI64_oki hpc hin) (inI64_oki hpc hip)) fun u d ⟨hd, hu⟩ => ?_
          subst hd
          subst hu
          refine ⟨?_, he.symm⟩
          unfold leafV
          rw [if_neg (by omega), if_neg (by omega), if_neg c5]
          refine tup2_mk ?_ rfl
          have h5 := blkX_rel (E := E) (.app 54 (.cons e (.cons n p)))
          have h6 : X.str E.ρ (.app 54 (.cons e (.cons n p))) = ⟨(leafOf (S (n.int (rhoI v o))).bytes (p.int (rhoI v o)).toNat).toArray⟩ := by
            rw [hρ]
            show (FNi 54 (.p (e.val (rhoI v o)) (.p (n.val (rhoI v o)) (p.val (rhoI v o))))).str = _
            rw [he]
            rfl
          rw [h6, pad_of (leafOf_length _ _)] at h5
          exact h5
      · cases h
    · cases h
  · cases h
end Go.Proofs.YtcnimekhpnejlaaGreat.Ev

/- The rules of Set and Resize of inodes behind handles hold. -/
namespace Go.Proofs.YtcnimekhpnejlaaGreat.Ev
open Go Go.RowKit
set_option linter.unusedVariables false
set_option linter.unusedSimpArgs false
set_option maxRecDepth 10000
theorem rIno_set {v : Nat → D} {o : Nat → Value} {pc : List (X × Bool)} (hpc : Told (rhoI v o) pc) {e : X} {args : List EV} {r : EV × X} (h : rIno pc 63 e args = some r) : AOk Tryz.prog (rhoI v o) 63 e args r.1 r.2 := by
  intro E hρ a w vs his hargs
  unfold rIno at h
  split at h
  · rename_i h57
    obtain ⟨S, he⟩ := told57 hpc h57
    have his2 : isD Tryz.prog (e.val (rhoI v o)) a w := his
    rw [he] at his2
    rw [if_neg (by decide), if_neg (by decide), if_pos rfl] at h
    split at h
    · rename_i y z l t
      obtain ⟨⟨k, n⟩, hn, h⟩ := Option.bind_eq_some_iff.1 h
      obtain ⟨⟨k2, p⟩, hp, h⟩ := Option.bind_eq_some_iff.1 h
      obtain ⟨⟨k3, st⟩, hst, h⟩ := Option.bind_eq_some_iff.1 h
      obtain ⟨b, hb, h⟩ := Option.bind_eq_some_iff.1 h
      split at h
      · rename_i hk
        obtain ⟨hk, hk2, hk3, hu64, c4, c5⟩ := hk
        have hk : k = .i64 := hk
        have hk2 : k2 = .i64 := hk2
        have hk3 : k3 = .u64 := hk3
        subst hk
        subst hk2
        subst hk3
        obtain rfl := Option.some.inj h
        have c4 : (0 : Int) = if (S (n.int (rhoI v o))).kind = 0 then 151 else 0 := rUsed_ok hpc he c4
        have ck : (S (n.int (rhoI v o))).kind ≠ 0 := fun e2 => by rw [if_pos e2] at c4; cases c4
        have c5 : (FNi 58 (.p (e.val (rhoI v o)) (.p (n.val (rhoI v o)) (p.val (rhoI v o))))).bool = true := truL_ok hpc c5
        rw [he] at c5
        have c5 : decide (0 ≤ p.int (rhoI v o) ∧ p.int (rhoI v o) < (leavesN (S (n.int (rhoI v o))).bytes.length : Nat)) = true := c5
        have c5 := of_decide_eq_true c5
        match vs, hargs with
        | [u, u2, u3, u4], hargs =>
          have hu : u = .int .i64 (n.int (rhoI v o)) := by rw [← hρ]; exact asI_rel hn hargs.1
          have hu2 : u2 = .int .i64 (p.int (rhoI v o)) := by rw [← hρ]; exact asI_rel hp hargs.2.1
          have hu3 := asBlk_inv hb hargs.2.2.1
          have hu4 : u4 = .int .u64 (st.int (rhoI v o)) := by rw [← hρ]; exact asI_rel hst hargs.2.2.2.1
          subst hu
          subst hu2
          subst hu3
          subst hu4
          have hset := ino_set his2 (n := n.int (rhoI v o)) (p := (p.int (rhoI v o)).toNat) ck (by omega) (pad_length (b.str E.ρ)) (st := st.int (rhoI v o)) (inU64_oki hpc hu64)
          rw [Int.toNat_of_nonneg c5.1] at hset
          refine acts_aoi hset fun u d ⟨hd, hu⟩ => ?_
          subst hd
          subst hu
          refine ⟨rfl, ?_⟩
          show _ = FNi 55 (.p (e.val (rhoI v o)) (.p (n.val (rhoI v o)) (.p (p.val (rhoI v o)) (.p (b.val (rhoI v o)) (st.val (rhoI v o))))))
          rw [he, hρ]
          rfl
      · cases h
    · cases h
  · cases h
end Go.Proofs.YtcnimekhpnejlaaGreat.Ev

/- The rule of Resize of inodes behind handles holds. -/
namespace Go.Proofs.YtcnimekhpnejlaaGreat.Ev
open Go Go.RowKit
set_option linter.unusedVariables false
set_option linter.unusedSimpArgs false
set_option maxRecDepth 10000
theorem rIno_resize {v : Nat → D} {o : Nat → Value} {pc : List (X × Bool)} (hpc : Told (rhoI v o) pc) {e : X} {args : List EV} {r : EV × X} (h : rIno pc 35 e args = some r) : AOk Tryz.prog (rhoI v o) 35 e args r.1 r.2 := by
  intro E hρ a w vs his hargs
  unfold rIno at h
  split at h
  · rename_i h57
    obtain ⟨S, he⟩ := told57 hpc h57
    have his2 : isD Tryz.prog (e.val (rhoI v o)) a w := his
    rw [he] at his2
    rw [if_neg (by decide), if_neg (by decide), if_neg (by decide), if_pos rfl] at h
    split at h
    · rename_i y z t
      obtain ⟨⟨k, n⟩, hn, h⟩ := Option.bind_eq_some_iff.1 h
      obtain ⟨⟨k2, s⟩, hs, h⟩ := Option.bind_eq_some_iff.1 h
      obtain ⟨⟨k3, st⟩, hst, h⟩ := Option.bind_eq_some_iff.1 h
      split at h
      · rename_i hk
        obtain ⟨hk, hk2, hk3, hu64, c4, c1, c2⟩ := hk
        have hk : k = .i64 := hk
        have hk2 : k2 = .i64 := hk2
        have hk3 : k3 = .u64 := hk3
        subst hk
        subst hk2
        subst hk3
        have c4 : (0 : Int) = if (S (n.int (rhoI v o))).kind = 0 then 151 else 0 := rUsed_ok hpc he c4
        have ck : (S (n.int (rhoI v o))).kind ≠ 0 := fun e2 => by rw [if_pos e2] at c4; cases c4
        have c1 : decide (s.int (rhoI v o) < 0) = false := truL_ok hpc c1
        have c2 : decide (1048576 < s.int (rhoI v o)) = false := truL_ok hpc c2
        have c1 := of_decide_eq_false c1
        have c2 := of_decide_eq_false c2
        have key : ((S (n.int (rhoI v o))).kind = 2 → (s.int (rhoI v o)).toNat % 64 = 0) ∧ r = (.a (.s (.int .i64 0)), .app 56 (.cons e (.cons n (.cons s st)))) := by
          obtain ⟨d, hd, h⟩ := Option.bind_eq_some_iff.1 h
          have hd : ((FNi 50 (.p (e.val (rhoI v o)) (n.val (rhoI v o)))).int == 2) = d := truL_ok hpc hd
          rw [he] at hd
          have hd : ((S (n.int (rhoI v o))).kind == 2) = d := hd
          split at h
          · split at h
            · rename_i hm
              have hm : ((s.int (rhoI v o)).tmod 64 == 0) = true := truL_ok hpc hm
              have hm := beq_iff_eq.1 hm
              rw [Int.tmod_eq_emod_of_nonneg (by omega)] at hm
              exact ⟨fun _ => by omega, (Option.some.inj h).symm⟩
            · cases h
          · rename_i hdt
            refine ⟨fun e2 => absurd ?_ hdt, (Option.some.inj h).symm⟩
            rw [← hd, e2]
            rfl
        obtain ⟨hdir, rfl⟩ := key
        match vs, hargs with
        | [u, u2, u3], hargs =>
          have hu : u = .int .i64 (n.int (rhoI v o)) := by rw [← hρ]; exact asI_rel hn hargs.1
          have hu2 : u2 = .int .i64 (s.int (rhoI v o)) := by rw [← hρ]; exact asI_rel hs hargs.2.1
          have hu4 : u3 = .int .u64 (st.int (rhoI v o)) := by rw [← hρ]; exact asI_rel hst hargs.2.2.1
          subst hu
          subst hu2
          subst hu4
          have hset := ino_resize his2 (n := n.int (rhoI v o)) (s := (s.int (rhoI v o)).toNat) ck (by omega) hdir (st := st.int (rhoI v o)) (inU64_oki hpc hu64)
          rw [Int.toNat_of_nonneg (by omega)] at hset
          refine acts_aoi hset fun u d ⟨hd, hu⟩ => ?_
          subst hd
          subst hu
          refine ⟨rfl, ?_⟩
          show _ = FNi 56 (.p (e.val (rhoI v o)) (.p (n.val (rhoI v o)) (.p (s.val (rhoI v o)) (st.val (rhoI v o)))))
          rw [he]
          rfl
      · cases h
    · cases h
  · cases h
/-- The rules of inodes behind handles hold. -/
theorem rIno_ok {v : Nat → D} {o : Nat → Value} {pc : List (X × Bool)} (hpc : Told (rhoI v o) pc) : ∀ g e args r, rIno pc g e args = some r → AOk Tryz.prog (rhoI v o) g e args r.1 r.2 := by
  intro g e args r h
  by_cases h1 : g = 46
  · subst h1; exact rIno_get hpc h
  by_cases h2 : g = 52
  · subst h2; exact rIno_leaf hpc h
  by_cases h3 : g = 63
  · subst h3; exact rIno_set hpc h
  by_cases h4 : g = 35
  · subst h4; exact rIno_resize hpc h
  exfalso
  unfold rIno at h
  split at h
  · first
      | (cases h; done)
      | (rw [if_neg h1, if_neg h2, if_neg h3, if_neg h4] at h; cases h)
  · cases h
end Go.Proofs.YtcnimekhpnejlaaGreat.Ev

/- block.Lay, where the text fits. -/
namespace Go.Proofs.YtcnimekhpnejlaaGreat.Ev
open Go Go.RowKit Go.Maps Go.Shelf
set_option linter.unusedVariables false
set_option linter.unusedSimpArgs false
set_option maxRecDepth 100000

theorem results_ct {P : Program} {fn : Func} {p q : Tmp} {ty : TypeId} (h : fn.results = #[.cell p ty, .tmp q]) (tmps : Array Value) (w : World) (g : Nat) (t : TypeId) (cs : Array Value) (fr : Nat × Nat) (d : TypeDesc)
    (hp : tmps.getD p undef = .pointer (some ⟨g, 0, none⟩)) (hg : w.heap[g]? = some (.cells cs t fr))
    (hu : P.underlying ty = some d) (hd : (match d with | .struct _ | .array _ _ => true | _ => false) = true) (hi : (P.info? ty).map (·.size) = some cs.size) :
    (results fn tmps).run P w = .ok (.tuple #[.agg cs, tmps.getD q undef]) w := by
  have hp' : tmps[p]?.getD undef = .pointer (some ⟨g, 0, none⟩) := by simpa using hp
  simp [results, h, hp', asAddr, run_loadVar_row w g t ty cs fr d hg hu hd hi]
theorem ibyte : (Tryz.prog.info? 5).map (·.size) = some 1 := by kernel_rfl
theorem slice_blk (a : Nat) (ha : a ≤ 256) (bk : Nat) (W : World) : (Instr.sliceAt 116 (.pointer (some ⟨bk, 0, none⟩)) (some (.int .i64 a)) none none).run Tryz.prog W = .ok (.slice (some ⟨bk, if a = 256 then 0 else a, none⟩) (256 - a) (256 - a)) W := by
  have hal : Tryz.prog.arrayLen 116 = 256 := by kernel_rfl
  have hu : Tryz.prog.underlying 116 = some (.array (Tryz.prog.arrayLen 116) (Tryz.prog.elem 116)) := by kernel_rfl
  have h1 : (Go.sizeOf (Tryz.prog.elem 116)).run Tryz.prog W = .ok 1 W := by kernel_rfl
  rw [run_sliceAt_array_l W 116 ⟨bk, 0, none⟩ hu .i64 a (by omega) (by rw [hal]; omega), h1]
  simp only [Result.andThen_ok, slicedAt, hal, Int.toNat_natCast]
  by_cases h : a = 256
  · subst h
    rfl
  · rw [if_neg (fun e => h e.symm), if_neg h]
    simp [Addr.add]
    omega
theorem over_cells {b : List UInt8} {a : Nat} {s : ByteArray} (h : a + s.size ≤ b.length) : ((cellsB b).toList.take a ++ Lib.byteCells s.data.toList ++ (cellsB b).toList.drop (a + s.size)).toArray = cellsB (overB b a s.data.toList) := by
  have hs : s.data.toList.length = s.size := (Lib.size_eq s).symm
  unfold cellsB overB Lib.byteCells
  rw [List.map_append, List.map_append, List.map_take, List.map_drop, hs]
  rfl

set_option maxRecDepth 100000 in
set_option maxHeartbeats 4000000 in
theorem blay_any (b : List UInt8) (hb : b.length = 256) (a : Nat) (s : ByteArray) (hs : a + s.size ≤ 256) (w : World) :
    Calls Tryz.prog 62 #[elBlk.val b, .int .i64 a, .string s] w fun e w' => e = .returned (.tuple #[elBlk.val (overB b a s.data.toList), .int .i64 0]) ∧ Below w.heap.size w w' := by
  have hz : ∀ w, (zeroValue 116).run Tryz.prog w = .ok (.agg (cellsB (zeros 256))) w := fun w => zero_blk w
  have hZs : (cellsB (zeros 256)).size = 256 := cellsB_size _
  have hcs : (cellsB b).size = 256 := (cellsB_size _).trans hb
  have hlen : s.data.toList.length = s.size := (Lib.size_eq s).symm
  have hD0 : (cellsB (overB b a s.data.toList)).size = 256 := by
    rw [cellsB_size, overB_length (by omega), hb]
  have hD1 := cellsB_one (overB b a s.data.toList)
  have hov : ((cellsB b).toList.take (if a = 256 then 0 else a) ++ Lib.byteCells s.data.toList ++ (cellsB b).toList.drop ((if a = 256 then 0 else a) + s.size)).toArray = cellsB (overB b a s.data.toList) := by
    by_cases h : a = 256
    · have h0 : s.size = 0 := by omega
      have h1 : s.data.toList = [] := List.eq_nil_of_length_eq_zero (by omega)
      rw [if_pos h, h1, h0, overB_nil]
      simp [Lib.byteCells]
    · rw [if_neg h]
      exact over_cells (by omega)
  have hsl := slice_blk a (by omega)
  show Calls _ _ #[.agg (cellsB b), _, _] _ fun e w' => e = .returned (.tuple #[.agg (cellsB (overB b a s.data.toList)), _]) ∧ _
  generalize cellsB (zeros 256) = Z at *
  generalize cellsB (overB b a s.data.toList) = D at *
  generalize cellsB b = C at *
  have hd0 : decide ((a : Int) < 0) = false := decide_eq_false (by omega)
  have hd1 : decide ((256 : Int) < a) = false := decide_eq_false (by omega)
  have hw : wrap64 (256 - (a : Int)) = 256 - a := by unfold wrap64; omega
  have hd2 : decide (256 - (a : Int) < (s.size : Int)) = false := decide_eq_false (by omega)
  have hg1 : ((w.alloc (Obj.cells C 116)).alloc (Obj.cells Z 116)).heap[w.heap.size]? = some (.cells C 116 (0, 0)) := (Below.heap_alloc _ _ _ (by simp)).trans (alloc_new w _)
  have hg2 : ((w.alloc (Obj.cells C 116)).alloc (Obj.cells Z 116)).heap[w.heap.size + 1]? = some (.cells Z 116 (0, 0)) := by
    have := alloc_new (w.alloc (Obj.cells C 116)) (Obj.cells Z 116)
    simpa using this
  have hcopy := Lib.run_copy_row_string (P := Tryz.prog) ((w.alloc (Obj.cells C 116)).alloc (Obj.cells Z 116)) 93 9 3 5 w.heap.size (if a = 256 then 0 else a) (256 - a) (256 - a) s C 116 Tryz.underlying93 ibyte hg1 (by omega) (by split <;> omega)
  rw [hov] at hcopy
  generalize (if a = 256 then 0 else a) = ad at *
  have hb3 : Below w.heap.size w (((w.alloc (Obj.cells C 116)).alloc (Obj.cells Z 116)).setRow w.heap.size D) :=
    below_setRow (((Below.refl _ _).alloc (Nat.le_refl _) _).alloc (by simp) _) (Nat.le_refl _) _
  have hg3 : (((w.alloc (Obj.cells C 116)).alloc (Obj.cells Z 116)).setRow w.heap.size D).heap[w.heap.size]? = some (.cells D 116 (0, 0)) := setRow_heap _ _ C D 116 (0, 0) hg1
  have hg4 : (((w.alloc (Obj.cells C 116)).alloc (Obj.cells Z 116)).setRow w.heap.size D).heap[w.heap.size + 1]? = some (.cells Z 116 (0, 0)) := (setRow_other _ _ _ D (by omega)).trans hg2
  obtain ⟨W3, hW3⟩ : ∃ W3, ((w.alloc (Obj.cells C 116)).alloc (Obj.cells Z 116)).setRow w.heap.size D = W3 := ⟨_, rfl⟩
  rw [hW3] at hb3 hg3 hg4 hcopy
  have hst := store_blk (w.heap.size + 1) Z D W3 hg4 (by omega) hD1
  have hg5 : (W3.setRow (w.heap.size + 1) D).heap[w.heap.size + 1]? = some (.cells D 116 (0, 0)) := setRow_heap _ _ Z D 116 (0, 0) hg4
  have hb5 : Below w.heap.size w (W3.setRow (w.heap.size + 1) D) := below_setRow hb3 (by omega) _
  obtain ⟨W4, hW4⟩ : ∃ W4, W3.setRow (w.heap.size + 1) D = W4 := ⟨_, rfl⟩
  rw [hW4] at hg5 hb5 hst
  go_enter Tryz.func62, Tryz.ntmps62
  go_wp2
  refine wp_load_row 116 _ rfl w.heap.size rfl 116 D (0, 0) _ hg3 Tryz.underlying116 rfl (by rw [hD0]; exact iblk) ?_
  go_wp2
  refine bodyPost_ret (results_ct rfl _ _ (w.heap.size + 1) 116 D (0, 0) _ rfl hg5 Tryz.underlying116 rfl (by rw [hD0]; exact iblk)) rfl ?_
  exact ⟨rfl, hb5⟩
end Go.Proofs.YtcnimekhpnejlaaGreat.Ev

/- The rule of block.Lay holds. -/
namespace Go.Proofs.YtcnimekhpnejlaaGreat.Ev
open Go Go.RowKit
set_option linter.unusedVariables false
set_option linter.unusedSimpArgs false
set_option maxRecDepth 10000
theorem rLayB_ok {v : Nat → D} {o : Nat → Value} {pc : List (X × Bool)} (hpc : Told (rhoI v o) pc) : ∀ g args r, rLayB pc g args = some r → POk Tryz.prog (rhoI v o) g args r := by
  intro g args r h E hρ w vs hargs
  unfold rLayB at h
  split at h
  · rename_i hg
    subst hg
    split at h
    · rename_i l y z
      obtain ⟨b, hb, h⟩ := Option.bind_eq_some_iff.1 h
      obtain ⟨⟨k, p⟩, hp, h⟩ := Option.bind_eq_some_iff.1 h
      obtain ⟨s, hs, h⟩ := Option.bind_eq_some_iff.1 h
      split at h
      · rename_i hc
        obtain ⟨e1, c1, c2, c3⟩ := hc
        have e1 : k = .i64 := e1
        subst e1
        obtain rfl := Option.some.inj h
        match vs, hargs with
        | [u, u2, u3], hargs =>
          have h1 := asBlk_inv hb hargs.1
          have h2 : u2 = .int .i64 (p.int (rhoI v o)) := by rw [← hρ]; exact asI_rel hp hargs.2.1
          have h3 : u3 = .string (s.str (rhoI v o)) := by rw [← hρ]; exact asS_rel hs hargs.2.2.1
          subst h1
          subst h2
          subst h3
          have c1 : decide (p.int (rhoI v o) < 0) = false := truL_ok hpc c1
          have c2 : decide (256 < p.int (rhoI v o)) = false := truL_ok hpc c2
          have c1 := of_decide_eq_false c1
          have c2 := of_decide_eq_false c2
          have c3 : decide (IntKind.i64.wrap (256 - p.int (rhoI v o)) < ((s.str (rhoI v o)).size : Nat)) = false := truL_ok hpc c3
          have c3 := of_decide_eq_false c3
          rw [wrap_i (n := 256 - p.int (rhoI v o)) (by omega) (by omega)] at c3
          have hlay := blay_any (pad (b.str E.ρ)) (pad_length _) (p.int (rhoI v o)).toNat (s.str (rhoI v o)) (by omega) w
          rw [Int.toNat_of_nonneg (by omega)] at hlay
          have hlen : (s.str (rhoI v o)).data.toList.length = (s.str (rhoI v o)).size := (Lib.size_eq _).symm
          refine hlay.mono fun en w' ⟨he, hB⟩ => ⟨_, he, tup2_mk ?_ rfl, hB⟩
          have h5 := blkX_rel (E := E) (.app 63 (.cons b (.cons p s)))
          have h6 : X.str E.ρ (.app 63 (.cons b (.cons p s))) = ⟨(overB (pad (b.str E.ρ)) (p.int (rhoI v o)).toNat (s.str (rhoI v o)).data.toList).toArray⟩ := by
            rw [hρ]
            rfl
          rw [h6, pad_of (by rw [overB_length (by rw [pad_length]; omega), pad_length])] at h5
          exact h5
      · cases h
    · cases h
  · cases h
theorem sumL_ok {v : Nat → D} {o : Nat → Value} {pc : List (X × Bool)} (hpc : Told (rhoI v o) pc) {R : Rules} : CallOk (ctx R (rhoI v o) pc) (sumL pc) := sumOr_ok (sumA_ok (rIno_ok hpc)) (sumP_ok (rLayB_ok hpc))
end Go.Proofs.YtcnimekhpnejlaaGreat.Ev

/- What calls come to, on all their ways (written by wip/tools/tabs.py). -/
namespace Go.Proofs.YtcnimekhpnejlaaGreat.Ev
open Go
def layT : PT := (.node (.lt (.li 0) (.len (.va 3))) (.node (.lt (.mn (.len (.va 3)) (.bin .sub .i64 (.li 256) (.bin .rem .i64 (.va 2) (.li 256)))) (.li 256)) (.node (.app 57 (.va 0)) (.node (.app 902 (.va 1)) (.node (.app 902 (.bin .quo .i64 (.va 2) (.li 256))) (.node (.lt (.bin .quo .i64 (.va 2) (.li 256)) (.li 0)) .dead (.node (.lt (.bin .quo .i64 (.va 2) (.li 256)) (.li 4096)) (.node (.lt (.va 1) (.li 1)) .dead (.node (.lt (.li 4096) (.va 1)) .dead (.node (.eq (.app 50 (.cons (.va 0) (.va 1))) (.li 0)) .dead (.node (.lt (.mn (.len (.va 3)) (.bin .sub .i64 (.li 256) (.bin .rem .i64 (.va 2) (.li 256)))) (.li 0)) .dead (.node (.lt (.len (.va 3)) (.mn (.len (.va 3)) (.bin .sub .i64 (.li 256) (.bin .rem .i64 (.va 2) (.li 256))))) .dead (.node (.lt (.bin .rem .i64 (.va 2) (.li 256)) (.li 0)) .dead (.node (.lt (.li 256) (.bin .rem .i64 (.va 2) (.li 256))) .dead (.node (.lt (.bin .sub .i64 (.li 256) (.bin .rem .i64 (.va 2) (.li 256))) (.len (.sub (.va 3) (.li 0) (.mn (.len (.va 3)) (.bin .sub .i64 (.li 256) (.bin .rem .i64 (.va 2) (.li 256))))))) .dead (.node (.app 59 (.va 4)) (.node (.app 58 (.cons (.va 0) (.cons (.va 1) (.bin .quo .i64 (.va 2) (.li 256))))) .leaf .dead) .dead))))))))) .dead)) .dead) .dead) .dead) (.node (.lt (.mn (.len (.va 3)) (.bin .sub .i64 (.li 256) (.bin .rem .i64 (.va 2) (.li 256)))) (.li 0)) .dead (.node (.lt (.len (.va 3)) (.mn (.len (.va 3)) (.bin .sub .i64 (.li 256) (.bin .rem .i64 (.va 2) (.li 256))))) .dead (.node (.lt (.bin .rem .i64 (.va 2) (.li 256)) (.li 0)) .dead (.node (.lt (.li 256) (.bin .rem .i64 (.va 2) (.li 256))) .dead (.node (.lt (.bin .sub .i64 (.li 256) (.bin .rem .i64 (.va 2) (.li 256))) (.len (.sub (.va 3) (.li 0) (.mn (.len (.va 3)) (.bin .sub .i64 (.li 256) (.bin .rem .i64 (.va 2) (.li 256))))))) .dead (.node (.app 57 (.va 0)) (.node (.app 59 (.va 4)) (.node (.eq (.app 50 (.cons (.va 0) (.va 1))) (.li 0)) .dead (.node (.app 58 (.cons (.va 0) (.cons (.va 1) (.bin .quo .i64 (.va 2) (.li 256))))) .leaf .dead)) .dead) .dead))))))) .leaf)
def layL : List (List (X × Bool) × Option (List CodeV)) := [
  ([((.lt (.bin .quo .i64 (.va 2) (.li 256)) (.li 0)), true), ((.app 902 (.bin .quo .i64 (.va 2) (.li 256))), true), ((.app 902 (.va 1)), true), ((.app 57 (.va 0)), true), ((.lt (.mn (.len (.va 3)) (.bin .sub .i64 (.li 256) (.bin .rem .i64 (.va 2) (.li 256)))) (.li 256)), true), ((.lt (.li 0) (.len (.va 3))), true)], none),
  ([((.lt (.va 1) (.li 1)), true), ((.lt (.bin .quo .i64 (.va 2) (.li 256)) (.li 4096)), true), ((.lt (.bin .quo .i64 (.va 2) (.li 256)) (.li 0)), false), ((.app 902 (.bin .quo .i64 (.va 2) (.li 256))), true), ((.app 902 (.va 1)), true), ((.app 57 (.va 0)), true), ((.lt (.mn (.len (.va 3)) (.bin .sub .i64 (.li 256) (.bin .rem .i64 (.va 2) (.li 256)))) (.li 256)), true), ((.lt (.li 0) (.len (.va 3))), true)], none),
  ([((.lt (.li 4096) (.va 1)), true), ((.lt (.va 1) (.li 1)), false), ((.lt (.bin .quo .i64 (.va 2) (.li 256)) (.li 4096)), true), ((.lt (.bin .quo .i64 (.va 2) (.li 256)) (.li 0)), false), ((.app 902 (.bin .quo .i64 (.va 2) (.li 256))), true), ((.app 902 (.va 1)), true), ((.app 57 (.va 0)), true), ((.lt (.mn (.len (.va 3)) (.bin .sub .i64 (.li 256) (.bin .rem .i64 (.va 2) (.li 256)))) (.li 256)), true), ((.lt (.li 0) (.len (.va 3))), true)], none),
  ([((.eq (.app 50 (.cons (.va 0) (.va 1))) (.li 0)), true), ((.lt (.li 4096) (.va 1)), false), ((.lt (.va 1) (.li 1)), false), ((.lt (.bin .quo .i64 (.va 2) (.li 256)) (.li 4096)), true), ((.lt (.bin .quo .i64 (.va 2) (.li 256)) (.li 0)), false), ((.app 902 (.bin .quo .i64 (.va 2) (.li 256))), true), ((.app 902 (.va 1)), true), ((.app 57 (.va 0)), true), ((.lt (.mn (.len (.va 3)) (.bin .sub .i64 (.li 256) (.bin .rem .i64 (.va 2) (.li 256)))) (.li 256)), true), ((.lt (.li 0) (.len (.va 3))), true)], none),
  ([((.lt (.mn (.len (.va 3)) (.bin .sub .i64 (.li 256) (.bin .rem .i64 (.va 2) (.li 256)))) (.li 0)), true), ((.eq (.app 50 (.cons (.va 0) (.va 1))) (.li 0)), false), ((.lt (.li 4096) (.va 1)), false), ((.lt (.va 1) (.li 1)), false), ((.lt (.bin .quo .i64 (.va 2) (.li 256)) (.li 4096)), true), ((.lt (.bin .quo .i64 (.va 2) (.li 256)) (.li 0)), false), ((.app 902 (.bin .quo .i64 (.va 2) (.li 256))), true), ((.app 902 (.va 1)), true), ((.app 57 (.va 0)), true), ((.lt (.mn (.len (.va 3)) (.bin .sub .i64 (.li 256) (.bin .rem .i64 (.va 2) (.li 256)))) (.li 256)), true), ((.lt (.li 0) (.len (.va 3))), true)], none),
  ([((.lt (.len (.va 3)) (.mn (.len (.va 3)) (.bin .sub .i64 (.li 256) (.bin .rem .i64 (.va 2) (.li 256))))), true), ((.lt (.mn (.len (.va 3)) (.bin .sub .i64 (.li 256) (.bin .rem .i64 (.va 2) (.li 256)))) (.li 0)), false), ((.eq (.app 50 (.cons (.va 0) (.va 1))) (.li 0)), false), ((.lt (.li 4096) (.va 1)), false), ((.lt (.va 1) (.li 1)), false), ((.lt (.bin .quo .i64 (.va 2) (.li 256)) (.li 4096)), true), ((.lt (.bin .quo .i64 (.va 2) (.li 256)) (.li 0)), false), ((.app 902 (.bin .quo .i64 (.va 2) (.li 256))), true), ((.app 902 (.va 1)), true), ((.app 57 (.va 0)), true), ((.lt (.mn (.len (.va 3)) (.bin .sub .i64 (.li 256) (.bin .rem .i64 (.va 2) (.li 256)))) (.li 256)), true), ((.lt (.li 0) (.len (.va 3))), true)], none),
  ([((.lt (.bin .rem .i64 (.va 2) (.li 256)) (.li 0)), true), ((.lt (.len (.va 3)) (.mn (.len (.va 3)) (.bin .sub .i64 (.li 256) (.bin .rem .i64 (.va 2) (.li 256))))), false), ((.lt (.mn (.len (.va 3)) (.bin .sub .i64 (.li 256) (.bin .rem .i64 (.va 2) (.li 256)))) (.li 0)), false), ((.eq (.app 50 (.cons (.va 0) (.va 1))) (.li 0)), false), ((.lt (.li 4096) (.va 1)), false), ((.lt (.va 1) (.li 1)), false), ((.lt (.bin .quo .i64 (.va 2) (.li 256)) (.li 4096)), true), ((.lt (.bin .quo .i64 (.va 2) (.li 256)) (.li 0)), false), ((.app 902 (.bin .quo .i64 (.va 2) (.li 256))), true), ((.app 902 (.va 1)), true), ((.app 57 (.va 0)), true), ((.lt (.mn (.len (.va 3)) (.bin .sub .i64 (.li 256) (.bin .rem .i64 (.va 2) (.li 256)))) (.li 256)), true), ((.lt (.li 0) (.len (.va 3))), true)], none),
  ([((.lt (.li 256) (.bin .rem .i64 (.va 2) (.li 256))), true), ((.lt (.bin .rem .i64 (.va 2) (.li 256)) (.li 0)), false), ((.lt (.len (.va 3)) (.mn (.len (.va 3)) (.bin .sub .i64 (.li 256) (.bin .rem .i64 (.va 2) (.li 256))))), false), ((.lt (.mn (.len (.va 3)) (.bin .sub .i64 (.li 256) (.bin .rem .i64 (.va 2) (.li 256)))) (.li 0)), false), ((.eq (.app 50 (.cons (.va 0) (.va 1))) (.li 0)), false), ((.lt (.li 4096) (.va 1)), false), ((.lt (.va 1) (.li 1)), false), ((.lt (.bin .quo .i64 (.va 2) (.li 256)) (.li 4096)), true), ((.lt (.bin .quo .i64 (.va 2) (.li 256)) (.li 0)), false), ((.app 902 (.bin .quo .i64 (.va 2) (.li 256))), true), ((.app 902 (.va 1)), true), ((.app 57 (.va 0)), true), ((.lt (.mn (.len (.va 3)) (.bin .sub .i64 (.li 256) (.bin .rem .i64 (.va 2) (.li 256)))) (.li 256)), true), ((.lt (.li 0) (.len (.va 3))), true)], none),
  ([((.lt (.bin .sub .i64 (.li 256) (.bin .rem .i64 (.va 2) (.li 256))) (.len (.sub (.va 3) (.li 0) (.mn (.len (.va 3)) (.bin .sub .i64 (.li 256) (.bin .rem .i64 (.va 2) (.li 256))))))), true), ((.lt (.li 256) (.bin .rem .i64 (.va 2) (.li 256))), false), ((.lt (.bin .rem .i64 (.va 2) (.li 256)) (.li 0)), false), ((.lt (.len (.va 3)) (.mn (.len (.va 3)) (.bin .sub .i64 (.li 256) (.bin .rem .i64 (.va 2) (.li 256))))), false), ((.lt (.mn (.len (.va 3)) (.bin .sub .i64 (.li 256) (.bin .rem .i64 (.va 2) (.li 256)))) (.li 0)), false), ((.eq (.app 50 (.cons (.va 0) (.va 1))) (.li 0)), false), ((.lt (.li 4096) (.va 1)), false), ((.lt (.va 1) (.li 1)), false), ((.lt (.bin .quo .i64 (.va 2) (.li 256)) (.li 4096)), true), ((.lt (.bin .quo .i64 (.va 2) (.li 256)) (.li 0)), false), ((.app 902 (.bin .quo .i64 (.va 2) (.li 256))), true), ((.app 902 (.va 1)), true), ((.app 57 (.va 0)), true), ((.lt (.mn (.len (.va 3)) (.bin .sub .i64 (.li 256) (.bin .rem .i64 (.va 2) (.li 256)))) (.li 256)), true), ((.lt (.li 0) (.len (.va 3))), true)], none),
  ([((.app 58 (.cons (.va 0) (.cons (.va 1) (.bin .quo .i64 (.va 2) (.li 256))))), true), ((.app 59 (.va 4)), true), ((.lt (.bin .sub .i64 (.li 256) (.bin .rem .i64 (.va 2) (.li 256))) (.len (.sub (.va 3) (.li 0) (.mn (.len (.va 3)) (.bin .sub .i64 (.li 256) (.bin .rem .i64 (.va 2) (.li 256))))))), false), ((.lt (.li 256) (.bin .rem .i64 (.va 2) (.li 256))), false), ((.lt (.bin .rem .i64 (.va 2) (.li 256)) (.li 0)), false), ((.lt (.len (.va 3)) (.mn (.len (.va 3)) (.bin .sub .i64 (.li 256) (.bin .rem .i64 (.va 2) (.li 256))))), false), ((.lt (.mn (.len (.va 3)) (.bin .sub .i64 (.li 256) (.bin .rem .i64 (.va 2) (.li 256)))) (.li 0)), false), ((.eq (.app 50 (.cons (.va 0) (.va 1))) (.li 0)), false), ((.lt (.li 4096) (.va 1)), false), ((.lt (.va 1) (.li 1)), false), ((.lt (.bin .quo .i64 (.va 2) (.li 256)) (.li 4096)), true), ((.lt (.bin .quo .i64 (.va 2) (.li 256)) (.li 0)), false), ((.app 902 (.bin .quo .i64 (.va 2) (.li 256))), true), ((.app 902 (.va 1)), true), ((.app 57 (.va 0)), true), ((.lt (.mn (.len (.va 3)) (.bin .sub .i64 (.li 256) (.bin .rem .i64 (.va 2) (.li 256)))) (.li 256)), true), ((.lt (.li 0) (.len (.va 3))), true)], some [(.normal, [some (.a (.s (.ptr 0 0))), some (.a (.s (.xi .i64 (.va 1)))), some (.a (.s (.xi .i64 (.bin .add .i64 (.va 2) (.mn (.len (.va 3)) (.bin .sub .i64 (.li 256) (.bin .rem .i64 (.va 2) (.li 256)))))))), some (.a (.s (.xs (.sub (.va 3) (.mn (.len (.va 3)) (.bin .sub .i64 (.li 256) (.bin .rem .i64 (.va 2) (.li 256)))) (.len (.va 3)))))), some (.a (.s (.xi .u64 (.va 4))))], [some (.abs (.app 55 (.cons (.va 0) (.cons (.va 1) (.cons (.bin .quo .i64 (.va 2) (.li 256)) (.cons (.app 63 (.cons (.app 54 (.cons (.va 0) (.cons (.va 1) (.bin .quo .i64 (.va 2) (.li 256))))) (.cons (.bin .rem .i64 (.va 2) (.li 256)) (.sub (.va 3) (.li 0) (.mn (.len (.va 3)) (.bin .sub .i64 (.li 256) (.bin .rem .i64 (.va 2) (.li 256)))))))) (.va 4)))))))])]),
  ([((.app 58 (.cons (.va 0) (.cons (.va 1) (.bin .quo .i64 (.va 2) (.li 256))))), false), ((.app 59 (.va 4)), true), ((.lt (.bin .sub .i64 (.li 256) (.bin .rem .i64 (.va 2) (.li 256))) (.len (.sub (.va 3) (.li 0) (.mn (.len (.va 3)) (.bin .sub .i64 (.li 256) (.bin .rem .i64 (.va 2) (.li 256))))))), false), ((.lt (.li 256) (.bin .rem .i64 (.va 2) (.li 256))), false), ((.lt (.bin .rem .i64 (.va 2) (.li 256)) (.li 0)), false), ((.lt (.len (.va 3)) (.mn (.len (.va 3)) (.bin .sub .i64 (.li 256) (.bin .rem .i64 (.va 2) (.li 256))))), false), ((.lt (.mn (.len (.va 3)) (.bin .sub .i64 (.li 256) (.bin .rem .i64 (.va 2) (.li 256)))) (.li 0)), false), ((.eq (.app 50 (.cons (.va 0) (.va 1))) (.li 0)), false), ((.lt (.li 4096) (.va 1)), false), ((.lt (.va 1) (.li 1)), false), ((.lt (.bin .quo .i64 (.va 2) (.li 256)) (.li 4096)), true), ((.lt (.bin .quo .i64 (.va 2) (.li 256)) (.li 0)), false), ((.app 902 (.bin .quo .i64 (.va 2) (.li 256))), true), ((.app 902 (.va 1)), true), ((.app 57 (.va 0)), true), ((.lt (.mn (.len (.va 3)) (.bin .sub .i64 (.li 256) (.bin .rem .i64 (.va 2) (.li 256)))) (.li 256)), true), ((.lt (.li 0) (.len (.va 3))), true)], none),
  ([((.app 59 (.va 4)), false), ((.lt (.bin .sub .i64 (.li 256) (.bin .rem .i64 (.va 2) (.li 256))) (.len (.sub (.va 3) (.li 0) (.mn (.len (.va 3)) (.bin .sub .i64 (.li 256) (.bin .rem .i64 (.va 2) (.li 256))))))), false), ((.lt (.li 256) (.bin .rem .i64 (.va 2) (.li 256))), false), ((.lt (.bin .rem .i64 (.va 2) (.li 256)) (.li 0)), false), ((.lt (.len (.va 3)) (.mn (.len (.va 3)) (.bin .sub .i64 (.li 256) (.bin .rem .i64 (.va 2) (.li 256))))), false), ((.lt (.mn (.len (.va 3)) (.bin .sub .i64 (.li 256) (.bin .rem .i64 (.va 2) (.li 256)))) (.li 0)), false), ((.eq (.app 50 (.cons (.va 0) (.va 1))) (.li 0)), false), ((.lt (.li 4096) (.va 1)), false), ((.lt (.va 1) (.li 1)), false), ((.lt (.bin .quo .i64 (.va 2) (.li 256)) (.li 4096)), true), ((.lt (.bin .quo .i64 (.va 2) (.li 256)) (.li 0)), false), ((.app 902 (.bin .quo .i64 (.va 2) (.li 256))), true), ((.app 902 (.va 1)), true), ((.app 57 (.va 0)), true), ((.lt (.mn (.len (.va 3)) (.bin .sub .i64 (.li 256) (.bin .rem .i64 (.va 2) (.li 256)))) (.li 256)), true), ((.lt (.li 0) (.len (.va 3))), true)], none),
  ([((.lt (.bin .quo .i64 (.va 2) (.li 256)) (.li 4096)), false), ((.lt (.bin .quo .i64 (.va 2) (.li 256)) (.li 0)), false), ((.app 902 (.bin .quo .i64 (.va 2) (.li 256))), true), ((.app 902 (.va 1)), true), ((.app 57 (.va 0)), true), ((.lt (.mn (.len (.va 3)) (.bin .sub .i64 (.li 256) (.bin .rem .i64 (.va 2) (.li 256)))) (.li 256)), true), ((.lt (.li 0) (.len (.va 3))), true)], none),
  ([((.app 902 (.bin .quo .i64 (.va 2) (.li 256))), false), ((.app 902 (.va 1)), true), ((.app 57 (.va 0)), true), ((.lt (.mn (.len (.va 3)) (.bin .sub .i64 (.li 256) (.bin .rem .i64 (.va 2) (.li 256)))) (.li 256)), true), ((.lt (.li 0) (.len (.va 3))), true)], none),
  ([((.app 902 (.va 1)), false), ((.app 57 (.va 0)), true), ((.lt (.mn (.len (.va 3)) (.bin .sub .i64 (.li 256) (.bin .rem .i64 (.va 2) (.li 256)))) (.li 256)), true), ((.lt (.li 0) (.len (.va 3))), true)], none),
  ([((.app 57 (.va 0)), false), ((.lt (.mn (.len (.va 3)) (.bin .sub .i64 (.li 256) (.bin .rem .i64 (.va 2) (.li 256)))) (.li 256)), true), ((.lt (.li 0) (.len (.va 3))), true)], none),
  ([((.lt (.mn (.len (.va 3)) (.bin .sub .i64 (.li 256) (.bin .rem .i64 (.va 2) (.li 256)))) (.li 0)), true), ((.lt (.mn (.len (.va 3)) (.bin .sub .i64 (.li 256) (.bin .rem .i64 (.va 2) (.li 256)))) (.li 256)), false), ((.lt (.li 0) (.len (.va 3))), true)], none),
  ([((.lt (.len (.va 3)) (.mn (.len (.va 3)) (.bin .sub .i64 (.li 256) (.bin .rem .i64 (.va 2) (.li 256))))), true), ((.lt (.mn (.len (.va 3)) (.bin .sub .i64 (.li 256) (.bin .rem .i64 (.va 2) (.li 256)))) (.li 0)), false), ((.lt (.mn (.len (.va 3)) (.bin .sub .i64 (.li 256) (.bin .rem .i64 (.va 2) (.li 256)))) (.li 256)), false), ((.lt (.li 0) (.len (.va 3))), true)], none),
  ([((.lt (.bin .rem .i64 (.va 2) (.li 256)) (.li 0)), true), ((.lt (.len (.va 3)) (.mn (.len (.va 3)) (.bin .sub .i64 (.li 256) (.bin .rem .i64 (.va 2) (.li 256))))), false), ((.lt (.mn (.len (.va 3)) (.bin .sub .i64 (.li 256) (.bin .rem .i64 (.va 2) (.li 256)))) (.li 0)), false), ((.lt (.mn (.len (.va 3)) (.bin .sub .i64 (.li 256) (.bin .rem .i64 (.va 2) (.li 256)))) (.li 256)), false), ((.lt (.li 0) (.len (.va 3))), true)], none),
  ([((.lt (.li 256) (.bin .rem .i64 (.va 2) (.li 256))), true), ((.lt (.bin .rem .i64 (.va 2) (.li 256)) (.li 0)), false), ((.lt (.len (.va 3)) (.mn (.len (.va 3)) (.bin .sub .i64 (.li 256) (.bin .rem .i64 (.va 2) (.li 256))))), false), ((.lt (.mn (.len (.va 3)) (.bin .sub .i64 (.li 256) (.bin .rem .i64 (.va 2) (.li 256)))) (.li 0)), false), ((.lt (.mn (.len (.va 3)) (.bin .sub .i64 (.li 256) (.bin .rem .i64 (.va 2) (.li 256)))) (.li 256)), false), ((.lt (.li 0) (.len (.va 3))), true)], none),
  ([((.lt (.bin .sub .i64 (.li 256) (.bin .rem .i64 (.va 2) (.li 256))) (.len (.sub (.va 3) (.li 0) (.mn (.len (.va 3)) (.bin .sub .i64 (.li 256) (.bin .rem .i64 (.va 2) (.li 256))))))), true), ((.lt (.li 256) (.bin .rem .i64 (.va 2) (.li 256))), false), ((.lt (.bin .rem .i64 (.va 2) (.li 256)) (.li 0)), false), ((.lt (.len (.va 3)) (.mn (.len (.va 3)) (.bin .sub .i64 (.li 256) (.bin .rem .i64 (.va 2) (.li 256))))), false), ((.lt (.mn (.len (.va 3)) (.bin .sub .i64 (.li 256) (.bin .rem .i64 (.va 2) (.li 256)))) (.li 0)), false), ((.lt (.mn (.len (.va 3)) (.bin .sub .i64 (.li 256) (.bin .rem .i64 (.va 2) (.li 256)))) (.li 256)), false), ((.lt (.li 0) (.len (.va 3))), true)], none),
  ([((.eq (.app 50 (.cons (.va 0) (.va 1))) (.li 0)), true), ((.app 59 (.va 4)), true), ((.app 57 (.va 0)), true), ((.lt (.bin .sub .i64 (.li 256) (.bin .rem .i64 (.va 2) (.li 256))) (.len (.sub (.va 3) (.li 0) (.mn (.len (.va 3)) (.bin .sub .i64 (.li 256) (.bin .rem .i64 (.va 2) (.li 256))))))), false), ((.lt (.li 256) (.bin .rem .i64 (.va 2) (.li 256))), false), ((.lt (.bin .rem .i64 (.va 2) (.li 256)) (.li 0)), false), ((.lt (.len (.va 3)) (.mn (.len (.va 3)) (.bin .sub .i64 (.li 256) (.bin .rem .i64 (.va 2) (.li 256))))), false), ((.lt (.mn (.len (.va 3)) (.bin .sub .i64 (.li 256) (.bin .rem .i64 (.va 2) (.li 256)))) (.li 0)), false), ((.lt (.mn (.len (.va 3)) (.bin .sub .i64 (.li 256) (.bin .rem .i64 (.va 2) (.li 256)))) (.li 256)), false), ((.lt (.li 0) (.len (.va 3))), true)], none),
  ([((.app 58 (.cons (.va 0) (.cons (.va 1) (.bin .quo .i64 (.va 2) (.li 256))))), true), ((.eq (.app 50 (.cons (.va 0) (.va 1))) (.li 0)), false), ((.app 59 (.va 4)), true), ((.app 57 (.va 0)), true), ((.lt (.bin .sub .i64 (.li 256) (.bin .rem .i64 (.va 2) (.li 256))) (.len (.sub (.va 3) (.li 0) (.mn (.len (.va 3)) (.bin .sub .i64 (.li 256) (.bin .rem .i64 (.va 2) (.li 256))))))), false), ((.lt (.li 256) (.bin .rem .i64 (.va 2) (.li 256))), false), ((.lt (.bin .rem .i64 (.va 2) (.li 256)) (.li 0)), false), ((.lt (.len (.va 3)) (.mn (.len (.va 3)) (.bin .sub .i64 (.li 256) (.bin .rem .i64 (.va 2) (.li 256))))), false), ((.lt (.mn (.len (.va 3)) (.bin .sub .i64 (.li 256) (.bin .rem .i64 (.va 2) (.li 256)))) (.li 0)), false), ((.lt (.mn (.len (.va 3)) (.bin .sub .i64 (.li 256) (.bin .rem .i64 (.va 2) (.li 256)))) (.li 256)), false), ((.lt (.li 0) (.len (.va 3))), true)], some [(.normal, [some (.a (.s (.ptr 0 0))), some (.a (.s (.xi .i64 (.va 1)))), some (.a (.s (.xi .i64 (.bin .add .i64 (.va 2) (.mn (.len (.va 3)) (.bin .sub .i64 (.li 256) (.bin .rem .i64 (.va 2) (.li 256)))))))), some (.a (.s (.xs (.sub (.va 3) (.mn (.len (.va 3)) (.bin .sub .i64 (.li 256) (.bin .rem .i64 (.va 2) (.li 256)))) (.len (.va 3)))))), some (.a (.s (.xi .u64 (.va 4))))], [some (.abs (.app 55 (.cons (.va 0) (.cons (.va 1) (.cons (.bin .quo .i64 (.va 2) (.li 256)) (.cons (.app 63 (.cons (.ls zeroB) (.cons (.bin .rem .i64 (.va 2) (.li 256)) (.sub (.va 3) (.li 0) (.mn (.len (.va 3)) (.bin .sub .i64 (.li 256) (.bin .rem .i64 (.va 2) (.li 256)))))))) (.va 4)))))))])]),
  ([((.app 58 (.cons (.va 0) (.cons (.va 1) (.bin .quo .i64 (.va 2) (.li 256))))), false), ((.eq (.app 50 (.cons (.va 0) (.va 1))) (.li 0)), false), ((.app 59 (.va 4)), true), ((.app 57 (.va 0)), true), ((.lt (.bin .sub .i64 (.li 256) (.bin .rem .i64 (.va 2) (.li 256))) (.len (.sub (.va 3) (.li 0) (.mn (.len (.va 3)) (.bin .sub .i64 (.li 256) (.bin .rem .i64 (.va 2) (.li 256))))))), false), ((.lt (.li 256) (.bin .rem .i64 (.va 2) (.li 256))), false), ((.lt (.bin .rem .i64 (.va 2) (.li 256)) (.li 0)), false), ((.lt (.len (.va 3)) (.mn (.len (.va 3)) (.bin .sub .i64 (.li 256) (.bin .rem .i64 (.va 2) (.li 256))))), false), ((.lt (.mn (.len (.va 3)) (.bin .sub .i64 (.li 256) (.bin .rem .i64 (.va 2) (.li 256)))) (.li 0)), false), ((.lt (.mn (.len (.va 3)) (.bin .sub .i64 (.li 256) (.bin .rem .i64 (.va 2) (.li 256)))) (.li 256)), false), ((.lt (.li 0) (.len (.va 3))), true)], none),
  ([((.app 59 (.va 4)), false), ((.app 57 (.va 0)), true), ((.lt (.bin .sub .i64 (.li 256) (.bin .rem .i64 (.va 2) (.li 256))) (.len (.sub (.va 3) (.li 0) (.mn (.len (.va 3)) (.bin .sub .i64 (.li 256) (.bin .rem .i64 (.va 2) (.li 256))))))), false), ((.lt (.li 256) (.bin .rem .i64 (.va 2) (.li 256))), false), ((.lt (.bin .rem .i64 (.va 2) (.li 256)) (.li 0)), false), ((.lt (.len (.va 3)) (.mn (.len (.va 3)) (.bin .sub .i64 (.li 256) (.bin .rem .i64 (.va 2) (.li 256))))), false), ((.lt (.mn (.len (.va 3)) (.bin .sub .i64 (.li 256) (.bin .rem .i64 (.va 2) (.li 256)))) (.li 0)), false), ((.lt (.mn (.len (.va 3)) (.bin .sub .i64 (.li 256) (.bin .rem .i64 (.va 2) (.li 256)))) (.li 256)), false), ((.lt (.li 0) (.len (.va 3))), true)], none),
  ([((.app 57 (.va 0)), false), ((.lt (.bin .sub .i64 (.li 256) (.bin .rem .i64 (.va 2) (.li 256))) (.len (.sub (.va 3) (.li 0) (.mn (.len (.va 3)) (.bin .sub .i64 (.li 256) (.bin .rem .i64 (.va 2) (.li 256))))))), false), ((.lt (.li 256) (.bin .rem .i64 (.va 2) (.li 256))), false), ((.lt (.bin .rem .i64 (.va 2) (.li 256)) (.li 0)), false), ((.lt (.len (.va 3)) (.mn (.len (.va 3)) (.bin .sub .i64 (.li 256) (.bin .rem .i64 (.va 2) (.li 256))))), false), ((.lt (.mn (.len (.va 3)) (.bin .sub .i64 (.li 256) (.bin .rem .i64 (.va 2) (.li 256)))) (.li 0)), false), ((.lt (.mn (.len (.va 3)) (.bin .sub .i64 (.li 256) (.bin .rem .i64 (.va 2) (.li 256)))) (.li 256)), false), ((.lt (.li 0) (.len (.va 3))), true)], none),
  ([((.lt (.li 0) (.len (.va 3))), false)], some [((.exit 0), [some (.a (.s (.ptr 0 0))), some (.a (.s (.xi .i64 (.va 1)))), some (.a (.s (.xi .i64 (.va 2)))), some (.a (.s (.xs (.va 3)))), some (.a (.s (.xi .u64 (.va 4))))], [some (.abs (.va 0))])])]
end Go.Proofs.YtcnimekhpnejlaaGreat.Ev

/- What calls come to, on all their ways (written by wip/tools/tabs.py). -/
namespace Go.Proofs.YtcnimekhpnejlaaGreat.Ev
open Go
def cloT : PT := (.node (.app 36 (.va 2)) (.node (.lt (.va 1) (.li 1)) .dead (.node (.lt (.li 4096) (.va 1)) .dead .leaf)) .dead)
def cloL : List (List (X × Bool) × Option (List CodeV)) := [
  ([((.lt (.va 1) (.li 1)), true), ((.app 36 (.va 2)), true)], none),
  ([((.lt (.li 4096) (.va 1)), true), ((.lt (.va 1) (.li 1)), false), ((.app 36 (.va 2)), true)], none),
  ([((.lt (.li 4096) (.va 1)), false), ((.lt (.va 1) (.li 1)), false), ((.app 36 (.va 2)), true)], some [(.normal, [some (.a (.s (.ptr 1 0))), some (.a (.s (.op 1)))], [some (.opq (.va 0) [((.va 1), 5), ((.li 0), 1)]), some (.cells 107 (inoL 0)), some (.cells 100 [(.xi .i64 (.va 1)), (.xi .i64 (.va 3)), (.xi .i64 (.va 4)), (.xi .i64 (.va 5)), (.xi .u64 (.va 6)), (.ptr 3 0)]), some (.abs (.va 2)), some (.abs (.va 2)), some (.cells 100 [(.xi .i64 (.va 1)), (.xi .i64 (.va 3)), (.xi .i64 (.va 4)), (.xi .i64 (.va 5)), (.xi .u64 (.va 6)), (.ptr 4 0)]), none])]),
  ([((.app 36 (.va 2)), false)], none)]
end Go.Proofs.YtcnimekhpnejlaaGreat.Ev

/- Inodes: Clone's round. -/
namespace Go.Proofs.YtcnimekhpnejlaaGreat.Ev
open Go Go.RowKit
set_option linter.unusedVariables false
set_option linter.unusedSimpArgs false
set_option maxRecDepth 10000

/-- The memory of Clone's round: the new map, the new inodes, the inode that has come, its tree. -/
def cloBs : List Blk := [.opq (.va 0) [(.li 0, 1)], .cells 107 none (Cells.ofList (inoL 0)) false, .cells 100 none (Cells.ofList (workL (.xi .i64 (.va 1)) (.xi .i64 (.va 3)) (.xi .i64 (.va 4)) (.xi .i64 (.va 5)) (.xi .u64 (.va 6)) 3)) false, .abs (.va 2)]
def cloS : S := ⟨(((T.set .nil 3 (EV.a (.s (.ptr 1 0)))).set 4 (.a (.s (.xi .i64 (.va 1))))).set 5 (.a (.s (.ptr 2 0)))).set 17 (.a (.s (.op 1))), memL cloBs, 4⟩
noncomputable def cloC : Code := codeAt (Tryz.f19.body.getD .skip) [1, 1, 1, 1, 0, 1, 0, 0, 1, 1, 0, 1]
theorem clo_ev (ρ : Rho) : ways (fun pc => (evCode (ctx rules ρ pc) funT.get (evCall (ctx rules ρ pc) funT.get (sumH pc) 100000 1000) Tryz.f19.ntmps 100000 cloC cloS).map (viewC [3, 17] [0, 1, 2, 3, 4, 5, 6])) cloT [] = some cloL := by kernel_rfl
end Go.Proofs.YtcnimekhpnejlaaGreat.Ev

/- What calls come to, on all their ways (written by wip/tools/tabs.py). -/
namespace Go.Proofs.YtcnimekhpnejlaaGreat.Ev
open Go
def claT : PT := .leaf
def claL : List (List (X × Bool) × Option (List CodeV)) := [
  ([], some [(.normal, [none, none], [some (.cells 107 (inoL 1)), some (.opq (.va 0) [((.li 0), 0)]), none, none, none])])]
def clbT : PT := .leaf
def clbL : List (List (X × Bool) × Option (List CodeV)) := [
  ([], some [(.normal, [some (.a (.s (.ptr 0 0))), some (.a (.s (.ptr 2 0)))], [some (.cells 107 (inoL 1)), some (.opq (.va 0) [((.li 0), 0)]), some (.cells 107 (inoL 3)), some .empty, none])])]
end Go.Proofs.YtcnimekhpnejlaaGreat.Ev

/- Inodes: Clone ahead of its loop. -/
namespace Go.Proofs.YtcnimekhpnejlaaGreat.Ev
open Go Go.RowKit
set_option linter.unusedVariables false
set_option linter.unusedSimpArgs false
set_option maxRecDepth 10000
noncomputable def cloP : List Code := [codeAt (Tryz.f19.body.getD .skip) [0], codeAt (Tryz.f19.body.getD .skip) [1, 0], codeAt (Tryz.f19.body.getD .skip) [1, 1, 0], codeAt (Tryz.f19.body.getD .skip) [1, 1, 1, 0]]
def clbS : S := ⟨T.set .nil 0 (EV.a (.s (.ptr 0 0))), inoA, 2⟩
theorem clb_ev (ρ : Rho) : ways (fun pc => (evCode (ctx rules ρ pc) funT.get (evCall (ctx rules ρ pc) funT.get (sumH pc) 100000 1000) Tryz.f19.ntmps 100000 (seqs cloP .skip) clbS).map (viewC [0, 3] [0, 1, 2, 3, 4])) clbT [] = some clbL := by kernel_rfl
end Go.Proofs.YtcnimekhpnejlaaGreat.Ev
