/- Texts of this seat joined into one: W2, W3, B1, Z1, L1, AwT, Vl, Aw. -/
import Derived.Test.YtcnimekhpnejlaaGreatVB10
import Derived.Test.YtcnimekhpnejlaaGreatVB4
import Derived.Test.YtcnimekhpnejlaaGreatVB5

/- Files: what Write, Read, Truncate and Same answer. -/
namespace Go.Proofs.YtcnimekhpnejlaaGreat.Ev
open Go Go.RowKit
set_option linter.unusedVariables false
set_option linter.unusedSimpArgs false
set_option maxRecDepth 10000

theorem one_came {w : World} {x : Nat} {d : D} (h : isD Tryz.prog d x w) {v : Nat → D} {o : Nat → Value} {g : Nat} {vs : Array Value} {ev : EV} {e : X} (hc : Came Tryz.prog g vs (envL [x] (rhoI v o)) oneM 1 w [0] (ev, [some (.abs e)])) {Q : Value → D → Prop} (hQ : ∀ E' u, E'.ρ = rhoI v o → ev.rel E' u → Q u (e.val (rhoI v o))) :
    Calls Tryz.prog g vs w fun en w' => ∃ u d', en = .returned u ∧ Q u d' ∧ isD Tryz.prog d' x w' ∧ (∀ k, ownD Tryz.prog x w' k → ownD Tryz.prog x w k ∨ w.heap.size ≤ k) ∧ But (ownD Tryz.prog x w) w w' := by
  refine Calls.mono hc fun en w' ⟨u, E', h', nx', he, hg, hv, hview⟩ => ?_
  have hd := one_done h hg (List.cons.inj hview).1.symm
  exact ⟨u, _, he, hQ E' u hg.ext.ρ hv, hd.1, hd.2.1, hd.2.2⟩
theorem seq_bool {ρ : Rho} {a b : X} {s t : ByteArray} (ha : a.str ρ = s) (hb : b.str ρ = t) : X.bool ρ (.seq a b) = decide (s.data.toList = t.data.toList) := by
  show ((a.str ρ).toList == (b.str ρ).toList) = _
  rw [ha, hb, ByteArray.toList_eq, ByteArray.toList_eq]
  exact Bool.eq_iff_iff.2 (by simp)
theorem tupV2 {E : Env} {a b : AV} {v va vb : Value} (h : (EV.tup [a, b]).rel E v) (ha : ∀ x, a.rel E x → x = va) (hb : ∀ x, b.rel E x → x = vb) : v = .tuple #[va, vb] := tup2 h ha hb
/-- What an inode of a file is to be. -/
structure FileN (S : Int → Nd) (n : Int) : Prop where
  num : 1 ≤ n ∧ n ≤ 4096
  kind : (S n).kind = 1
theorem size_le {w : World} {x : Nat} {S : Int → Nd} (h : isD Tryz.prog (.st (.ino S)) x w) (n : Int) : (S n).bytes.length ≤ 1048576 := by
  obtain ⟨m, L, hI⟩ := h
  exact (hI.ok n).size

/-- Read. -/
theorem file_read {w : World} {x : Nat} {S : Int → Nd} (h : isD Tryz.prog (.st (.ino S)) x w) {n : Int} (hn : FileN S n) {a m : Int} (ha : i64 a) (hm : i64 m) :
    Acts Tryz.prog 11 x [.int .i64 n, .int .i64 a, .int .i64 m] w fun u d => d = .st (.ino S) ∧ u = if a < 0 ∨ m < 0 then .tuple #[.string ⟨#[]⟩, .int .i64 1] else .tuple #[.string ⟨(readB (S n).bytes a.toNat m.toNat).toArray⟩, .int .i64 0] := by
  have hsz := size_le h n
  obtain ⟨hn1, hn2⟩ := hn
  unfold i64 at ha hm
  obtain ⟨ρ, hρ⟩ : ∃ ρ, ρ = rhoI (ofL [.st (.ino S), .i n, .i a, .i m]) fun _ => undef := ⟨_, rfl⟩
  have hr : HRel (envL [x] ρ) oneM w := by rw [hρ]; exact one_open h _ _
  have hok : Rels (EV.rel (envL [x] ρ)) [EV.a (.s (.ptr 0 0)), .a (.s (.xi .i64 (.va 1))), .a (.s (.xi .i64 (.va 2))), .a (.s (.xi .i64 (.va 3)))] [.pointer (some ⟨x, 0, none⟩), .int .i64 n, .int .i64 a, .int .i64 m] := by
    rw [hρ]
    exact ⟨⟨⟨x, 0, 0⟩, envL_at rfl, rfl⟩, rfl, rfl, rfl, trivial⟩
  obtain ⟨y, hy, ht, hcm⟩ := ways_calls (R := rules0) (rules0_ok ρ) (fun pc hpc => by rw [hρ] at hpc ⊢; exact sumFi_ok hpc) (rdt_ev ρ) hr rfl (envL_fresh _ _) hok
  have h1 : X.int ρ (.va 1) = n := by rw [hρ]; rfl
  have h2 : X.int ρ (.va 2) = a := by rw [hρ]; rfl
  have h3 : X.int ρ (.va 3) = m := by rw [hρ]; rfl
  have q57 : X.bool ρ (.app 57 (.va 0)) = true := by rw [hρ]; rfl
  have q902 : X.bool ρ (.app 902 (.va 1)) = true := by
    rw [hρ]
    exact decide_eq_true (show -9223372036854775808 ≤ n ∧ n ≤ 9223372036854775807 by omega)
  have q50 : X.int ρ (.app 50 (.cons (.va 0) (.va 1))) = 1 := by rw [hρ]; exact hn2
  have q52 : X.int ρ (.app 52 (.cons (.va 0) (.va 1))) = ((S n).bytes.length : Nat) := by rw [hρ]; rfl
  have hend : 0 ≤ a → 0 ≤ m → a < ((S n).bytes.length : Nat) → X.int ρ (.bin .add .i64 (.va 2) (.mn (.va 3) (.bin .sub .i64 (.app 52 (.cons (.va 0) (.va 1))) (.va 2)))) = (a.toNat + min m.toNat ((S n).bytes.length - a.toNat) : Nat) := fun g1 g2 g3 => by
    show IntKind.i64.wrap (X.int ρ (.va 2) + (if IntKind.i64.wrap (X.int ρ (.app 52 (.cons (.va 0) (.va 1))) - X.int ρ (.va 2)) < X.int ρ (.va 3) then IntKind.i64.wrap (X.int ρ (.app 52 (.cons (.va 0) (.va 1))) - X.int ρ (.va 2)) else X.int ρ (.va 3))) = _
    rw [h2, h3, q52, wrap_i (n := ((S n).bytes.length : Nat) - a) (by omega) (by omega)]
    split <;> rw [wrap_i (by omega) (by omega)] <;> omega
  have hcm2 : ∀ r, y.2 = some r → Came Tryz.prog 11 #[.pointer (some ⟨x, 0, none⟩), .int .i64 n, .int .i64 a, .int .i64 m] (envL [x] (rhoI (ofL [.st (.ino S), .i n, .i a, .i m]) fun _ => undef)) oneM 1 w [0] r := by
    rw [← hρ]
    exact hcm
  simp only [rdtL, List.mem_cons, List.not_mem_nil, or_false] at hy
  rcases hy with rfl | rfl | rfl | rfl | rfl | rfl | rfl | rfl | rfl | rfl | rfl <;> simp only [told_cons, told_nil, eq_true, eq_false, lt_true, lt_false, h1, h2, h3, q57, q902, q50, q52, li_int, and_true, true_and, reduceCtorEq, false_and, and_false] at ht
  all_goals first
    | omega
    | (have := hend (by omega) (by omega) (by omega); omega)
    | skip
  · refine one_came h (hcm2 _ rfl) fun E' u hE hv => ⟨rfl, ?_⟩
    rw [if_pos (by omega)]
    exact tup2 hv (fun x hx => hx) int_v
  · refine one_came h (hcm2 _ rfl) fun E' u hE hv => ⟨rfl, ?_⟩
    rw [if_pos (by omega)]
    exact tup2 hv (fun x hx => hx) int_v
  · refine one_came h (hcm2 _ rfl) fun E' u hE hv => ⟨rfl, ?_⟩
    rw [if_neg (by omega)]
    refine tup2 hv (fun x hx => ?_) int_v
    have hx : x = .string (X.str E'.ρ (.app 61 (.cons (.va 0) (.cons (.va 1) (.cons (.va 2) (.bin .add .i64 (.va 2) (.mn (.va 3) (.bin .sub .i64 (.app 52 (.cons (.va 0) (.va 1))) (.va 2))))))))) := hx
    rw [hx, hE, ← hρ]
    have e1 : X.str ρ (.app 61 (.cons (.va 0) (.cons (.va 1) (.cons (.va 2) (.bin .add .i64 (.va 2) (.mn (.va 3) (.bin .sub .i64 (.app 52 (.cons (.va 0) (.va 1))) (.va 2)))))))) = ⟨(rdB (S n).bytes a.toNat (X.int ρ (.bin .add .i64 (.va 2) (.mn (.va 3) (.bin .sub .i64 (.app 52 (.cons (.va 0) (.va 1))) (.va 2))))).toNat).toArray⟩ := by
      rw [hρ]
      rfl
    rw [e1, hend (by omega) (by omega) (by omega), Int.toNat_natCast, rdB_read (by omega)]
  · refine one_came h (hcm2 _ rfl) fun E' u hE hv => ⟨rfl, ?_⟩
    rw [if_neg (by omega), readB_past (by omega)]
    exact tup2 hv (fun x hx => hx) int_v

/-- Truncate. -/
theorem file_truncate {w : World} {x : Nat} {S : Int → Nd} (h : isD Tryz.prog (.st (.ino S)) x w) {n : Int} (hn : FileN S n) {a : Int} (ha : i64 a) {st : Int} (hst : 0 ≤ st ∧ st ≤ 18446744073709551615) :
    Acts Tryz.prog 12 x [.int .i64 n, .int .i64 a, .int .u64 st] w fun u d => if a < 0 then d = .st (.ino S) ∧ u = .int .i64 1 else if 1048576 < a then d = .st (.ino S) ∧ u = .int .i64 160 else d = .st (.ino (updS S n (resN (S n) a.toNat st))) ∧ u = .int .i64 0 := by
  obtain ⟨hn1, hn2⟩ := hn
  unfold i64 at ha
  obtain ⟨ρ, hρ⟩ : ∃ ρ, ρ = rhoI (ofL [.st (.ino S), .i n, .i a, .z, .i st]) fun _ => undef := ⟨_, rfl⟩
  have hr : HRel (envL [x] ρ) oneM w := by rw [hρ]; exact one_open h _ _
  have hok : Rels (EV.rel (envL [x] ρ)) [EV.a (.s (.ptr 0 0)), .a (.s (.xi .i64 (.va 1))), .a (.s (.xi .i64 (.va 2))), .a (.s (.xi .u64 (.va 4)))] [.pointer (some ⟨x, 0, none⟩), .int .i64 n, .int .i64 a, .int .u64 st] := by
    rw [hρ]
    exact ⟨⟨⟨x, 0, 0⟩, envL_at rfl, rfl⟩, rfl, rfl, rfl, trivial⟩
  obtain ⟨y, hy, ht, hcm⟩ := ways_calls (R := rules0) (rules0_ok ρ) (fun pc hpc => by rw [hρ] at hpc ⊢; exact sumFi_ok hpc) (trt_ev ρ) hr rfl (envL_fresh _ _) hok
  have h1 : X.int ρ (.va 1) = n := by rw [hρ]; rfl
  have h2 : X.int ρ (.va 2) = a := by rw [hρ]; rfl
  have q57 : X.bool ρ (.app 57 (.va 0)) = true := by rw [hρ]; rfl
  have q902 : X.bool ρ (.app 902 (.va 1)) = true := by
    rw [hρ]
    exact decide_eq_true (show -9223372036854775808 ≤ n ∧ n ≤ 9223372036854775807 by omega)
  have q50 : X.int ρ (.app 50 (.cons (.va 0) (.va 1))) = 1 := by rw [hρ]; exact hn2
  have q59 : X.bool ρ (.app 59 (.va 4)) = true := by
    rw [hρ]
    exact decide_eq_true (show 0 ≤ st ∧ st ≤ 18446744073709551615 by exact hst)
  have hcm2 : ∀ r, y.2 = some r → Came Tryz.prog 12 #[.pointer (some ⟨x, 0, none⟩), .int .i64 n, .int .i64 a, .int .u64 st] (envL [x] (rhoI (ofL [.st (.ino S), .i n, .i a, .z, .i st]) fun _ => undef)) oneM 1 w [0] r := by
    rw [← hρ]
    exact hcm
  simp only [trtL, List.mem_cons, List.not_mem_nil, or_false] at hy
  rcases hy with rfl | rfl | rfl | rfl | rfl | rfl | rfl | rfl | rfl | rfl <;> simp only [told_cons, told_nil, eq_true, eq_false, lt_true, lt_false, h1, h2, q57, q902, q50, q59, li_int, and_true, true_and, reduceCtorEq, false_and, and_false] at ht
  all_goals first
    | omega
    | skip
  · refine one_came h (hcm2 _ rfl) fun E' u hE hv => ?_
    rw [if_pos (by omega)]
    exact ⟨rfl, hv⟩
  · refine one_came h (hcm2 _ rfl) fun E' u hE hv => ?_
    rw [if_neg (by omega), if_pos (by omega)]
    exact ⟨rfl, hv⟩
  · refine one_came h (hcm2 _ rfl) fun E' u hE hv => ?_
    rw [if_neg (by omega), if_neg (by omega)]
    exact ⟨rfl, hv⟩

/-- Same. -/
theorem file_same {w : World} {x : Nat} {S : Int → Nd} (h : isD Tryz.prog (.st (.ino S)) x w) {n m : Int} (hn : FileN S n) (hm : FileN S m) :
    Acts Tryz.prog 13 x [.int .i64 n, .int .i64 m] w fun u d => d = .st (.ino S) ∧ u = .tuple #[.bool (decide ((S n).bytes = (S m).bytes)), .int .i64 0] := by
  have hsz := size_le h n
  have hsz2 := size_le h m
  obtain ⟨hn1, hn2⟩ := hn
  obtain ⟨hm1, hm2⟩ := hm
  obtain ⟨ρ, hρ⟩ : ∃ ρ, ρ = rhoI (ofL [.st (.ino S), .i n, .z, .z, .z, .i m]) fun _ => undef := ⟨_, rfl⟩
  have hr : HRel (envL [x] ρ) oneM w := by rw [hρ]; exact one_open h _ _
  have hok : Rels (EV.rel (envL [x] ρ)) [EV.a (.s (.ptr 0 0)), .a (.s (.xi .i64 (.va 1))), .a (.s (.xi .i64 (.va 5)))] [.pointer (some ⟨x, 0, none⟩), .int .i64 n, .int .i64 m] := by
    rw [hρ]
    exact ⟨⟨⟨x, 0, 0⟩, envL_at rfl, rfl⟩, rfl, rfl, trivial⟩
  obtain ⟨y, hy, ht, hcm⟩ := ways_calls (R := rules0) (rules0_ok ρ) (fun pc hpc => by rw [hρ] at hpc ⊢; exact sumFi_ok hpc) (smt_ev ρ) hr rfl (envL_fresh _ _) hok
  have h1 : X.int ρ (.va 1) = n := by rw [hρ]; rfl
  have h5 : X.int ρ (.va 5) = m := by rw [hρ]; rfl
  have q57 : X.bool ρ (.app 57 (.va 0)) = true := by rw [hρ]; rfl
  have q902 : X.bool ρ (.app 902 (.va 1)) = true := by
    rw [hρ]
    exact decide_eq_true (show -9223372036854775808 ≤ n ∧ n ≤ 9223372036854775807 by omega)
  have q902b : X.bool ρ (.app 902 (.va 5)) = true := by
    rw [hρ]
    exact decide_eq_true (show -9223372036854775808 ≤ m ∧ m ≤ 9223372036854775807 by omega)
  have q50 : X.int ρ (.app 50 (.cons (.va 0) (.va 1))) = 1 := by rw [hρ]; exact hn2
  have q50b : X.int ρ (.app 50 (.cons (.va 0) (.va 5))) = 1 := by rw [hρ]; exact hm2
  have q52 : X.int ρ (.app 52 (.cons (.va 0) (.va 1))) = ((S n).bytes.length : Nat) := by rw [hρ]; rfl
  have q52b : X.int ρ (.app 52 (.cons (.va 0) (.va 5))) = ((S m).bytes.length : Nat) := by rw [hρ]; rfl
  have hcm2 : ∀ r, y.2 = some r → Came Tryz.prog 13 #[.pointer (some ⟨x, 0, none⟩), .int .i64 n, .int .i64 m] (envL [x] (rhoI (ofL [.st (.ino S), .i n, .z, .z, .z, .i m]) fun _ => undef)) oneM 1 w [0] r := by
    rw [← hρ]
    exact hcm
  simp only [smtL, List.mem_cons, List.not_mem_nil, or_false] at hy
  rcases hy with rfl | rfl | rfl | rfl | rfl | rfl | rfl | rfl | rfl | rfl | rfl | rfl | rfl | rfl | rfl <;> simp only [told_cons, told_nil, eq_true, eq_false, lt_true, lt_false, h1, h5, q57, q902, q902b, q50, q50b, q52, q52b, li_int, and_true, true_and, reduceCtorEq, false_and, and_false] at ht
  all_goals first
    | omega
    | skip
  · refine one_came h (hcm2 _ rfl) fun E' u hE hv => ⟨rfl, ?_⟩
    refine tup2 hv (fun x hx => ?_) int_v
    have hx : x = .bool (X.bool E'.ρ (.seq (.app 61 (.cons (.va 0) (.cons (.va 1) (.cons (.li 0) (.app 52 (.cons (.va 0) (.va 1))))))) (.app 61 (.cons (.va 0) (.cons (.va 5) (.cons (.li 0) (.app 52 (.cons (.va 0) (.va 5))))))))) := hx
    rw [hx, hE, ← hρ]
    have e1 : X.str ρ (.app 61 (.cons (.va 0) (.cons (.va 1) (.cons (.li 0) (.app 52 (.cons (.va 0) (.va 1))))))) = ⟨(rdB (S n).bytes 0 (X.int ρ (.app 52 (.cons (.va 0) (.va 1)))).toNat).toArray⟩ := by rw [hρ]; rfl
    have e2 : X.str ρ (.app 61 (.cons (.va 0) (.cons (.va 5) (.cons (.li 0) (.app 52 (.cons (.va 0) (.va 5))))))) = ⟨(rdB (S m).bytes 0 (X.int ρ (.app 52 (.cons (.va 0) (.va 5)))).toNat).toArray⟩ := by rw [hρ]; rfl
    rw [q52, Int.toNat_natCast, rdB_all] at e1
    rw [q52b, Int.toNat_natCast, rdB_all] at e2
    rw [seq_bool e1 e2]
  · refine one_came h (hcm2 _ rfl) fun E' u hE hv => ⟨rfl, ?_⟩
    have hne : decide ((S n).bytes = (S m).bytes) = false := decide_eq_false fun e => by
      rw [e] at ht
      exact ht.1 rfl
    rw [hne]
    exact tup2 hv (fun x hx => hx) int_v
end Go.Proofs.YtcnimekhpnejlaaGreat.Ev

/- Files: what Write answers. -/
namespace Go.Proofs.YtcnimekhpnejlaaGreat.Ev
open Go Go.RowKit
set_option linter.unusedVariables false
set_option linter.unusedSimpArgs false
set_option maxRecDepth 10000

/-- Write. -/
theorem file_write {w : World} {x : Nat} {S : Int → Nd} (h : isD Tryz.prog (.st (.ino S)) x w) {n : Int} (hn : FileN S n) {a : Int} (ha : i64 a) {s : ByteArray} {st : Int} (hst : 0 ≤ st ∧ st ≤ 18446744073709551615) :
    Acts Tryz.prog 10 x [.int .i64 n, .int .i64 a, .string s, .int .u64 st] w fun u d => if 0 ≤ a ∧ a + (s.size : Nat) ≤ 1048576 then d = .st (.ino (updS S n (wrN (S n) a.toNat s.data.toList st))) ∧ u = .tuple #[.int .i64 (a + (s.size : Nat)), .int .i64 0]
      else d = .st (.ino S) ∧ u = .tuple #[.int .i64 0, .int .i64 (if a < 0 then 1 else 160)] := by
  have hsz := size_le h n
  have hl := ba_size s
  obtain ⟨hn1, hn2⟩ := hn
  unfold i64 at ha
  obtain ⟨ρ, hρ⟩ : ∃ ρ, ρ = rhoI (ofL [.st (.ino S), .i n, .i a, .s s, .i st]) fun _ => undef := ⟨_, rfl⟩
  have hr : HRel (envL [x] ρ) oneM w := by rw [hρ]; exact one_open h _ _
  have hok : Rels (EV.rel (envL [x] ρ)) [EV.a (.s (.ptr 0 0)), .a (.s (.xi .i64 (.va 1))), .a (.s (.xi .i64 (.va 2))), .a (.s (.xs (.va 3))), .a (.s (.xi .u64 (.va 4)))] [.pointer (some ⟨x, 0, none⟩), .int .i64 n, .int .i64 a, .string s, .int .u64 st] := by
    rw [hρ]
    exact ⟨⟨⟨x, 0, 0⟩, envL_at rfl, rfl⟩, rfl, rfl, rfl, rfl, trivial⟩
  obtain ⟨y, hy, ht, hcm⟩ := ways_calls (R := rules0) (rules0_ok ρ) (fun pc hpc => by rw [hρ] at hpc ⊢; exact sumW_ok hpc) (wrt_ev ρ) hr rfl (envL_fresh _ _) hok
  have h1 : X.int ρ (.va 1) = n := by rw [hρ]; rfl
  have h2 : X.int ρ (.va 2) = a := by rw [hρ]; rfl
  have h3 : X.str ρ (.va 3) = s := by rw [hρ]; rfl
  have hln : X.int ρ (.len (.va 3)) = (s.size : Nat) := by show (((X.str ρ (.va 3)).size : Nat) : Int) = _; rw [h3]
  have q57 : X.bool ρ (.app 57 (.va 0)) = true := by rw [hρ]; rfl
  have q902 : X.bool ρ (.app 902 (.va 1)) = true := by
    rw [hρ]
    exact decide_eq_true (show -9223372036854775808 ≤ n ∧ n ≤ 9223372036854775807 by omega)
  have q50 : X.int ρ (.app 50 (.cons (.va 0) (.va 1))) = 1 := by rw [hρ]; exact hn2
  have q52 : X.int ρ (.app 52 (.cons (.va 0) (.va 1))) = ((S n).bytes.length : Nat) := by rw [hρ]; rfl
  have q59 : X.bool ρ (.app 59 (.va 4)) = true := by
    rw [hρ]
    exact decide_eq_true (show 0 ≤ st ∧ st ≤ 18446744073709551615 by exact hst)
  have hseq : X.bool ρ (.seq (.va 3) (.ls ⟨#[]⟩)) = decide (s.data.toList = []) := seq_bool (t := ⟨#[]⟩) h3 rfl
  have hsub : 0 ≤ a → X.int ρ (.bin .sub .i64 (.li 1048576) (.va 2)) = 1048576 - a := fun g => by
    show IntKind.i64.wrap (1048576 - X.int ρ (.va 2)) = _
    rw [h2, wrap_i (by omega) (by omega)]
  have hend : 0 ≤ a → a + (s.size : Nat) ≤ 1048576 → X.int ρ (.bin .add .i64 (.va 2) (.len (.va 3))) = a + (s.size : Nat) := fun g1 g2 => by
    show IntKind.i64.wrap (X.int ρ (.va 2) + X.int ρ (.len (.va 3))) = _
    rw [h2, hln, wrap_i (by omega) (by omega)]
  have q57r : X.bool ρ (.app 57 (.app 56 (.cons (.va 0) (.cons (.va 1) (.cons (.bin .add .i64 (.va 2) (.len (.va 3))) (.va 4)))))) = true := by rw [hρ]; rfl
  have q57l : ∀ e, X.bool ρ (.app 57 e) = true → X.bool ρ (.app 57 (.app 60 (.cons e (.cons (.va 1) (.cons (.va 2) (.cons (.va 3) (.va 4))))))) = true := fun e he => by
    rw [hρ] at he ⊢
    have he : (FNi 57 (X.val (rhoI (ofL [.st (.ino S), .i n, .i a, .s s, .i st]) fun _ => undef) e)).bool = true := he
    obtain ⟨S1, hS1⟩ : ∃ S1, X.val (rhoI (ofL [.st (.ino S), .i n, .i a, .s s, .i st]) fun _ => undef) e = .st (.ino S1) := by
      generalize X.val _ e = d at he ⊢
      cases d with
      | st q =>
        cases q with
        | ino S1 => exact ⟨S1, rfl⟩
        | _ => cases he
      | _ => cases he
    show (FNi 57 (FNi 60 (.p (X.val _ e) _))).bool = true
    rw [hS1]
    rfl
  have q57a := q57l _ q57r
  have q57b := q57l _ q57
  have q50r : X.int ρ (.app 50 (.cons (.app 56 (.cons (.va 0) (.cons (.va 1) (.cons (.bin .add .i64 (.va 2) (.len (.va 3))) (.va 4))))) (.va 1))) = 1 := by
    rw [hρ]
    show ((updS S n (resN (S n) _ st)) n).kind = 1
    rw [updS_at]
    exact hn2
  have q62r : 0 ≤ a → a + (s.size : Nat) ≤ 1048576 → X.bool ρ (.app 62 (.cons (.app 56 (.cons (.va 0) (.cons (.va 1) (.cons (.bin .add .i64 (.va 2) (.len (.va 3))) (.va 4))))) (.cons (.va 1) (.cons (.va 2) (.va 3))))) = true := fun g1 g2 => by
    have e1 : X.bool ρ (.app 62 (.cons (.app 56 (.cons (.va 0) (.cons (.va 1) (.cons (.bin .add .i64 (.va 2) (.len (.va 3))) (.va 4))))) (.cons (.va 1) (.cons (.va 2) (.va 3))))) = decide (0 ≤ a ∧ a + (s.size : Nat) ≤ (((updS S n (resN (S n) (X.int ρ (.bin .add .i64 (.va 2) (.len (.va 3)))).toNat st)) n).bytes.length : Nat)) := by rw [hρ]; rfl
    rw [e1, updS_at, hend g1 g2]
    refine decide_eq_true ⟨g1, ?_⟩
    show _ ≤ ((resizeB (S n).bytes _).length : Int)
    rw [resizeB_length]
    omega
  have q62 : 0 ≤ a → a + (s.size : Nat) ≤ ((S n).bytes.length : Nat) → X.bool ρ (.app 62 (.cons (.va 0) (.cons (.va 1) (.cons (.va 2) (.va 3))))) = true := fun g1 g2 => by
    have e1 : X.bool ρ (.app 62 (.cons (.va 0) (.cons (.va 1) (.cons (.va 2) (.va 3))))) = decide (0 ≤ a ∧ a + (s.size : Nat) ≤ ((S n).bytes.length : Nat)) := by rw [hρ]; rfl
    rw [e1]
    exact decide_eq_true ⟨g1, g2⟩
  have hcm2 : ∀ r, y.2 = some r → Came Tryz.prog 10 #[.pointer (some ⟨x, 0, none⟩), .int .i64 n, .int .i64 a, .string s, .int .u64 st] (envL [x] (rhoI (ofL [.st (.ino S), .i n, .i a, .s s, .i st]) fun _ => undef)) oneM 1 w [0] r := by
    rw [← hρ]
    exact hcm
  simp only [wrtL, List.mem_cons, List.not_mem_nil, or_false] at hy
  rcases hy with rfl | rfl | rfl | rfl | rfl | rfl | rfl | rfl | rfl | rfl | rfl | rfl | rfl | rfl | rfl | rfl | rfl | rfl | rfl | rfl | rfl | rfl <;> simp only [told_cons, told_nil, eq_true, eq_false, lt_true, lt_false, h1, h2, hln, hseq, q57, q57r, q57a, q57b, q902, q50, q50r, q52, q59, li_int, and_true, true_and, reduceCtorEq, false_and, and_false, decide_eq_true_eq, decide_eq_false_iff_not] at ht
  all_goals first
    | omega
    | (have := hsub (by omega); have := hend (by omega) (by omega); omega)
    | (have := hsub (by omega); have := hend (by omega) (by omega); have := q62r (by omega) (by omega); simp only [this, reduceCtorEq, and_true, true_and, false_and, and_false] at ht; done)
    | (have := hsub (by omega); have := hend (by omega) (by omega); have := q62 (by omega) (by omega); simp only [this, reduceCtorEq, and_true, true_and, false_and, and_false] at ht; done)
    | skip
  · refine one_came h (hcm2 _ rfl) fun E' u hE hv => ?_
    rw [if_neg (by omega), if_pos (by omega)]
    exact ⟨rfl, tup2 hv (fun x hx => hx) int_v⟩
  · refine one_came h (hcm2 _ rfl) fun E' u hE hv => ?_
    rw [if_neg (by omega), if_neg (by omega)]
    exact ⟨rfl, tup2 hv (fun x hx => hx) int_v⟩
  · have := hsub (by omega)
    refine one_came h (hcm2 _ rfl) fun E' u hE hv => ?_
    rw [if_neg (by omega), if_neg (by omega)]
    exact ⟨rfl, tup2 hv (fun x hx => hx) int_v⟩
  · have h0 : s.size = 0 := by rw [← hl, ht.1]; rfl
    refine one_came h (hcm2 _ rfl) fun E' u hE hv => ?_
    rw [if_pos (by omega), ht.1, h0]
    refine ⟨?_, ?_⟩
    · have e1 : wrN (S n) a.toNat [] st = S n := if_pos rfl
      rw [e1]
      show D.st (.ino S) = _
      congr 2
      funext k
      unfold updS
      split
      · rename_i e; rw [e]
      · rfl
    · refine tup2 hv (fun x hx => ?_) int_v
      have hx : x = .int .i64 (X.int E'.ρ (.va 2)) := hx
      rw [hx, hE, ← hρ, h2]
      simp
  · have hs1 := hsub (by omega)
    have hs2 := hend (by omega) (by omega)
    have hne : s.data.toList ≠ [] := by
      intro e
      simp only [e, not_true_eq_false, false_and, and_false] at ht
    refine one_came h (hcm2 _ rfl) fun E' u hE hv => ?_
    rw [if_pos (by omega)]
    refine ⟨?_, ?_⟩
    · show D.st (.ino (updS (updS S n (resN (S n) (X.int (rhoI (ofL [.st (.ino S), .i n, .i a, .s s, .i st]) fun _ => undef) (.bin .add .i64 (.va 2) (.len (.va 3)))).toNat st)) n (layN ((updS S n (resN (S n) (X.int (rhoI (ofL [.st (.ino S), .i n, .i a, .s s, .i st]) fun _ => undef) (.bin .add .i64 (.va 2) (.len (.va 3)))).toNat st)) n) a.toNat s.data.toList st))) = _
      rw [updS_two, updS_at, ← hρ, hs2]
      congr 3
      have e1 : layN (resN (S n) (a + (s.size : Nat)).toNat st) a.toNat s.data.toList st = { resN (S n) (a + (s.size : Nat)).toNat st with bytes := overB (resizeB (S n).bytes (a + (s.size : Nat)).toNat) a.toNat s.data.toList, stamp := st } := if_neg hne
      have e2 : wrN (S n) a.toNat s.data.toList st = { S n with bytes := writeB (S n).bytes a.toNat s.data.toList, stamp := st } := if_neg hne
      rw [e1, e2]
      unfold writeB
      rw [if_neg hne, hl, show max (S n).bytes.length (a.toNat + s.size) = (a + (s.size : Nat)).toNat by omega]
      rfl
    · refine tup2 hv (fun x hx => ?_) int_v
      have hx : x = .int .i64 (X.int E'.ρ (.bin .add .i64 (.va 2) (.len (.va 3)))) := hx
      rw [hx, hE, ← hρ, hs2]
  · have hs1 := hsub (by omega)
    have hs2 := hend (by omega) (by omega)
    have hne : s.data.toList ≠ [] := by
      intro e
      simp only [e, not_true_eq_false, false_and, and_false] at ht
    refine one_came h (hcm2 _ rfl) fun E' u hE hv => ?_
    rw [if_pos (by omega)]
    refine ⟨?_, ?_⟩
    · show D.st (.ino (updS S n (layN (S n) a.toNat s.data.toList st))) = _
      congr 3
      have e1 : layN (S n) a.toNat s.data.toList st = { S n with bytes := overB (S n).bytes a.toNat s.data.toList, stamp := st } := if_neg hne
      have e2 : wrN (S n) a.toNat s.data.toList st = { S n with bytes := writeB (S n).bytes a.toNat s.data.toList, stamp := st } := if_neg hne
      rw [e1, e2]
      unfold writeB
      have e3 : resizeB (S n).bytes (S n).bytes.length = (S n).bytes := rdB_all (S n).bytes
      rw [if_neg hne, hl, show max (S n).bytes.length (a.toNat + s.size) = (S n).bytes.length by omega, e3]
    · refine tup2 hv (fun x hx => ?_) int_v
      have hx : x = .int .i64 (X.int E'.ρ (.bin .add .i64 (.va 2) (.len (.va 3)))) := hx
      rw [hx, hE, ← hρ, hs2]
end Go.Proofs.YtcnimekhpnejlaaGreat.Ev

/- The statements of files begin: a directory and a file. -/
namespace Go.Proofs.YtcnimekhpnejlaaGreat.Ev
open Go Go.RowKit
set_option linter.unusedVariables false
set_option linter.unusedSimpArgs false
set_option maxRecDepth 100000

def mpV : Blk → Option (List (AV × AV × Nat) × Nat)
  | .mp es c => some (es, c)
  | _ => none
/-- The inodes as the statements begin. -/
def S0 : Int → Nd := fun k => if k = 1 then ⟨2, 1, 1, []⟩ else if k = 2 then ⟨1, 1, 1, []⟩ else Nd.none
def treeSV : List SV := [.int .i64 0, .int .u32 0] ++ List.replicate 32 (.int .u8 0)
def wk (n k g : Nat) : List SV := [.int .i64 n, .int .i64 k, .int .i64 1, .int .i64 0, .int .u64 1, .ptr g 0]
def gw (m : Nat) : List SV := .ptr 8 0 :: (treeSV ++ [.int .i64 0, .int .i64 0, .map m])
theorem begun_ev (ρ : Rho) : (evCall (ctx rules0 ρ []) funT.get noSum 100000 1000 8 [] .nil 0).map (fun r => (r.1, [12, 29, 22, 52, 45, 26, 49].map (fun i => (r.2.1.get i).map Blk.view), (r.2.1.get 11).bind mpV, ((r.2.1.get 8).isSome))) =
    some (.tup [.s (.ptr 12 0), .s (.int .i64 2), .s (.bool true)], [some (.cells 107 (.ptr 8 0 :: (treeSV ++ [.int .i64 0, .map 11]))), some (.cells 100 (wk 1 2 22)), some (.cells 159 (gw 26)), some (.cells 100 (wk 2 1 45)), some (.cells 159 (gw 49)), some .empty, some .empty], some ([(.s (.int .i64 1), .s (.ptr 29 0), 32), (.s (.int .i64 2), .s (.ptr 52 0), 55)], 2), true) := by kernel_rfl
theorem treeSV_den {E : Env} : treeSV.map (SV.den E) = treeZ := treeZX_den
theorem treeSV_one : treeSV.all SV.one = true := by decide +kernel
def L0 (p1 p2 p3 q1 q2 q3 : Nat) : Int → Option (Nat × Nat × Nat) := fun k => if k = 1 then some (p1, p2, p3) else if k = 2 then some (q1, q2, q3) else none
theorem nil_rel (ρ : Rho) (w : World) : HRel ⟨fun _ => none, ρ⟩ .nil w := ⟨fun i b h => by simp [T.get] at h, fun i j b c p q h => by simp [T.get] at h, ⟨fun i e p h => by simp [T.get] at h, fun i e p j c q h => by simp [T.get] at h, fun i e p j c q h => by simp [T.get] at h⟩⟩
theorem nil_owned {E : Env} {w : World} {k : Nat} (h : Owned E .nil w k) : False := by
  rcases h with ⟨j, c, q, hj, _⟩ | ⟨j, e, q, hj, _⟩ <;> simp [T.get] at hj
/-- The statements' beginning. -/
theorem begun_any (w : World) : Calls Tryz.prog 8 #[] w fun en w' => ∃ X, en = .returned (.tuple #[.pointer (some ⟨X, 0, none⟩), .int .i64 2, .bool true]) ∧ isD Tryz.prog (.st (.ino S0)) X w' ∧ (∀ k, ownD Tryz.prog X w' k → w.heap.size ≤ k) ∧ Below w.heap.size w w' := by
  obtain ⟨ρ, hρ⟩ : ∃ ρ, ρ = rhoI (ofL []) fun _ => undef := ⟨_, rfl⟩
  obtain ⟨r, hr, hrv⟩ := Option.map_eq_some_iff.1 (begun_ev ρ)
  have hC : (ctx rules0 ρ []).Ok := rules0_ok ρ [] Told.nil
  have hok := evCall_ok hC (show (ctx rules0 ρ []).P.follows .mixedOrders = true from mixed) (funs_ok (C := ctx rules0 ρ []) rfl) (noSum_ok (C := ctx rules0 ρ [])) (F := 100000) 1000
  refine (hok _ _ _ _ r hr ⟨fun _ => none, ρ⟩ w [] (nil_rel ρ w) rfl (fun _ _ => rfl) trivial).mono fun en w' ⟨v, E', he, hg, hv⟩ => ?_
  simp only [Prod.mk.injEq, List.map_cons, List.map_nil, List.cons.injEq, and_true] at hrv
  obtain ⟨hr1, ⟨v12, v29, v22, v52, v45, v26, v49⟩, v11, v8⟩ := hrv
  have hρ' : E'.ρ = ρ := hg.ext.ρ
  have pl : ∀ i B, r.2.1.get i = some B → ∃ p, E'.m i = some p ∧ w.heap.size ≤ p.blk := fun i B hB => by
    obtain ⟨p, o, hp, _⟩ := hg.rel.at_ i B hB
    refine ⟨p, hp, ?_⟩
    rcases hg.own i B p hB hp with ⟨j, c, q, hj, _⟩ | h
    · simp [T.get] at hj
    · exact h
  obtain ⟨B12, hB12⟩ := live_of v12
  obtain ⟨B29, hB29⟩ := live_of v29
  obtain ⟨B22, hB22⟩ := live_of v22
  obtain ⟨B52, hB52⟩ := live_of v52
  obtain ⟨B45, hB45⟩ := live_of v45
  obtain ⟨B26, hB26⟩ := live_of v26
  obtain ⟨B49, hB49⟩ := live_of v49
  obtain ⟨B8, hB8⟩ := Option.isSome_iff_exists.1 v8
  obtain ⟨B11, hB11, v11⟩ := Option.bind_eq_some_iff.1 v11
  obtain ⟨p12, hp12, n12⟩ := pl 12 _ hB12
  obtain ⟨p29, hp29, n29⟩ := pl 29 _ hB29
  obtain ⟨p22, hp22, n22⟩ := pl 22 _ hB22
  obtain ⟨p52, hp52, n52⟩ := pl 52 _ hB52
  obtain ⟨p45, hp45, n45⟩ := pl 45 _ hB45
  obtain ⟨p26, hp26, n26⟩ := pl 26 _ hB26
  obtain ⟨p49, hp49, n49⟩ := pl 49 _ hB49
  obtain ⟨p11, hp11, n11⟩ := pl 11 _ hB11
  obtain ⟨p8, hp8, n8⟩ := pl 8 _ hB8
  have d12 := cells_dl hg.rel v12 hp12
  have d29 := cells_dl hg.rel v29 hp29
  have d22 := cells_dl hg.rel v22 hp22
  have d52 := cells_dl hg.rel v52 hp52
  have d45 := cells_dl hg.rel v45 hp45
  have apart : ∀ {i j : Nat} {B C : Blk} {p q : Pl}, r.2.1.get i = some B → r.2.1.get j = some C → E'.m i = some p → E'.m j = some q → i ≠ j → p.blk ≠ q.blk := fun hi hj hp hq hne e => hne (hg.rel.inj _ _ _ _ _ _ hi hj hp hq e)
  -- rows
  obtain ⟨cx, hcx⟩ : ∃ cx, cx = Value.pointer (some ⟨p8.blk, p8.dl, none⟩) := ⟨_, rfl⟩
  have hc1 : cx.oneCell' = true := by rw [hcx]; rfl
  have r12 := row_of_view hg.rel v12 (by simp only [List.all_cons, List.all_append, treeSV_one]; rfl) hp12
  have e12 : (SV.ptr 8 0 :: (treeSV ++ [.int .i64 0, .map 11])).map (SV.den E') = inoCells cx p11.blk := by
    rw [List.map_cons, List.map_append, treeSV_den]
    simp only [List.map_cons, List.map_nil, SV.den, hp8, hp11, hcx]
    rfl
  rw [e12] at r12
  have egw : ∀ m pm, E'.m m = some pm → (gw m).map (SV.den E') = growCells cx (heightN (leavesN (0 : Nat))) 0 pm.blk := fun m pm hm => by
    unfold gw
    rw [List.map_cons, List.map_append, treeSV_den]
    simp only [List.map_cons, List.map_nil, SV.den, hp8, hm, hcx]
    rfl
  have gone : ∀ m, (gw m).all SV.one = true := fun m => by
    unfold gw
    simp only [List.all_cons, List.all_append, treeSV_one]
    rfl
  have r22 := row_of_view hg.rel v22 (gone 26) hp22
  rw [egw 26 p26 hp26] at r22
  have r45 := row_of_view hg.rel v45 (gone 49) hp45
  rw [egw 49 p49 hp49] at r45
  have r29 := row_of_view hg.rel v29 (by rfl) hp29
  have e29 : (wk 1 2 22).map (SV.den E') = workCells 1 (S0 1) p22.blk := by
    unfold wk
    simp only [List.map_cons, List.map_nil, SV.den, hp22, d22]
    rfl
  rw [e29] at r29
  have r52 := row_of_view hg.rel v52 (by rfl) hp52
  have e52 : (wk 2 1 45).map (SV.den E') = workCells 2 (S0 2) p45.blk := by
    unfold wk
    simp only [List.map_cons, List.map_nil, SV.den, hp45, d45]
    rfl
  rw [e52] at r52
  have m26 := (MapI.of_empty elBlk Tryz.prog 3 (empty_of_view hg.rel v26 hp26)).mono (Nat.zero_le 4096)
  have m49 := (MapI.of_empty elBlk Tryz.prog 3 (empty_of_view hg.rel v49 hp49)).mono (Nat.zero_le 4096)
  have lz : Leaves (fun _ => none) (leavesN ([] : List UInt8).length) (leafOf []) := by
    have e : leafOf [] = fun _ => zeros 256 := by
      funext p
      exact leafOf_past (by simp [leavesN])
    rw [e]
    exact Leaves.none_
  have g1 : IsGrow Tryz.prog w' p22.blk p26.blk (leavesN (S0 1).bytes.length) (leafOf (S0 1).bytes) := ⟨⟨cx, 0, .inl rfl, hc1, r22⟩, _, m26, lz⟩
  have g2 : IsGrow Tryz.prog w' p45.blk p49.blk (leavesN (S0 2).bytes.length) (leafOf (S0 2).bytes) := ⟨⟨cx, 0, .inl rfl, hc1, r45⟩, _, m49, lz⟩
  -- the map
  have hmap : MapI elPtr Tryz.prog 3 w' p11.blk 4096 (fun n => (L0 p29.blk p22.blk p26.blk p52.blk p45.blk p49.blk n).map (·.1)) := by
    unfold mpV at v11
    split at v11
    · rename_i es clock
      simp only [Option.some.injEq, Prod.mk.injEq] at v11
      obtain ⟨rfl, rfl⟩ := v11
      obtain ⟨o, hob, ents, rfl, l, hperm, hrel, hnd, hlt⟩ := hg.rel.blk hB11 hp11
      match l, hrel, hperm, hnd, hlt with
      | [x1, x2], hrel, hperm, hnd, hlt =>
        obtain ⟨⟨k1, ⟨q1, hq1, u1⟩, _⟩, ⟨k2, ⟨q2, hq2, u2⟩, _⟩, _⟩ := hrel
        rw [hp29] at hq1
        obtain rfl := Option.some.inj hq1
        rw [hp52] at hq2
        obtain rfl := Option.some.inj hq2
        have k1 : x1.key = .int .i64 1 := k1
        have k2 : x2.key = .int .i64 2 := k2
        have hmem : ∀ x, x ∈ ents.toList → x = x1 ∨ x = x2 := fun x hx => by
          have := hperm.mem_iff.2 hx
          simpa using this
        refine MapI.of_entries und_int hob (by rw [← Array.length_toList, ← hperm.length_eq]; exact (by decide : 2 ≤ 4096)) (fun x hx => hlt x (hperm.mem_iff.2 hx)) ((hperm.map _).nodup_iff.1 hnd) ((hperm.map _).nodup_iff.1 ?_) (fun x hx => ?_) (fun i a ha => ?_)
        · simp [k1, k2]
        · rcases hmem x hx with rfl | rfl
          · exact ⟨1, p29.blk, by unfold i64; omega, trivial, k1, by rw [u1, d29]; rfl, rfl⟩
          · exact ⟨2, p52.blk, by unfold i64; omega, trivial, k2, by rw [u2, d52]; rfl, rfl⟩
        · unfold L0 at ha
          split at ha
          · rename_i e
            exact ⟨x1, hperm.mem_iff.1 (by simp), by rw [k1, e]⟩
          · split at ha
            · rename_i e
              exact ⟨x2, hperm.mem_iff.1 (by simp), by rw [k2, e]⟩
            · cases ha
      | [], hrel, _, _, _ => exact hrel.elim
      | [_], hrel, _, _, _ => exact hrel.2.elim
      | _ :: _ :: _ :: _, hrel, _, _, _ => exact hrel.2.2.elim
    · cases v11
  have hI : Inos Tryz.prog w' p12.blk S0 p11.blk (L0 p29.blk p22.blk p26.blk p52.blk p45.blk p49.blk) := by
    refine ⟨⟨cx, hc1, r12⟩, hmap, fun n t ht => ?_, fun n ht => ?_, fun n n' t t' ht ht' hne => ?_, fun n t ht => ?_, fun n => ?_, fun n t ht => ?_⟩
    · unfold L0 at ht
      split at ht
      · rename_i e
        obtain rfl := Option.some.inj ht
        rw [e]
        exact ⟨r29, g1⟩
      · split at ht
        · rename_i e
          obtain rfl := Option.some.inj ht
          rw [e]
          exact ⟨r52, g2⟩
        · cases ht
    · unfold L0 at ht
      unfold S0
      split at ht
      · cases ht
      · rename_i e1
        split at ht
        · cases ht
        · rename_i e2
          rw [if_neg e1, if_neg e2]
    · have a1 := apart hB29 hB52 hp29 hp52 (by decide)
      have a2 := apart hB22 hB45 hp22 hp45 (by decide)
      have a3 := apart hB26 hB49 hp26 hp49 (by decide)
      unfold L0 at ht ht'
      split at ht
      · split at ht'
        · omega
        · split at ht'
          · obtain rfl := Option.some.inj ht
            obtain rfl := Option.some.inj ht'
            exact ⟨a1, a2, a3⟩
          · cases ht'
      · split at ht
        · split at ht'
          · obtain rfl := Option.some.inj ht
            obtain rfl := Option.some.inj ht'
            exact ⟨a1.symm, a2.symm, a3.symm⟩
          · split at ht'
            · omega
            · cases ht'
        · cases ht
    · have a3 := apart hB26 hB11 hp26 hp11 (by decide)
      have a4 := apart hB49 hB11 hp49 hp11 (by decide)
      unfold L0 at ht
      split at ht
      · obtain rfl := Option.some.inj ht
        exact a3
      · split at ht
        · obtain rfl := Option.some.inj ht
          exact a4
        · cases ht
    · unfold S0
      split
      · exact ⟨.inr (.inr rfl), by decide, by decide, (fun h => by cases h), fun _ => rfl, by decide⟩
      · split
        · exact ⟨.inr (.inl rfl), by decide, by decide, (fun h => by cases h), (fun h => by cases h), by decide⟩
        · exact none_ok
    · unfold L0 at ht
      split at ht
      · omega
      · split at ht
        · omega
        · cases ht
  have hbel : Below w.heap.size w w' := ⟨hg.frame.os, hg.frame.tape, hg.frame.output, hg.frame.size, fun k hk => hg.frame.block k hk nil_owned⟩
  refine ⟨p12.blk, ?_, ⟨_, _, hI⟩, fun k hk => ?_, hbel⟩
  · rw [hr1] at hv
    obtain ⟨vs, rfl, hvs⟩ := hv
    match vs, hvs with
    | [a, b, c], hvs =>
      obtain ⟨⟨q, hq, h1⟩, h2, h3, _⟩ := hvs
      rw [hp12] at hq
      obtain rfl := Option.some.inj hq
      have h2 : b = .int .i64 2 := h2
      have h3 : c = .bool true := h3
      rw [he, h1, h2, h3, d12]
  · rcases (ownD_ino hI k).1 hk with rfl | rfl | ⟨n, t, ht, hk⟩
    · exact n12
    · exact n11
    · unfold L0 at ht
      split at ht
      · obtain rfl := Option.some.inj ht
        rcases hk with rfl | rfl | rfl
        · exact n29
        · exact n22
        · exact n26
      · split at ht
        · obtain rfl := Option.some.inj ht
          rcases hk with rfl | rfl | rfl
          · exact n52
          · exact n45
          · exact n49
        · cases ht
end Go.Proofs.YtcnimekhpnejlaaGreat.Ev

/- zeros: so many bytes, all zero. -/
namespace Go.Proofs.YtcnimekhpnejlaaGreat.Ev
open Go Go.RowKit
set_option linter.unusedVariables false
set_option linter.unusedSimpArgs false
set_option maxRecDepth 100000
theorem made_zeros (n : Nat) : (madeCells (Value.int .u8 0).cells (n * 1)).toList = (zeros n).map byteV := by
  apply List.ext_getElem?
  intro i
  rw [Array.getElem?_toList, List.getElem?_map, zeros_get]
  unfold madeCells
  by_cases h : i < n
  · rw [if_pos h]
    have e : i % 1 = 0 := by omega
    simp [h, Value.cells, byteV, e]
  · rw [if_neg h]
    simp [h]
set_option maxHeartbeats 1000000 in
theorem zeros_any {n : Int} (hi : i64 n) (hn : n ≤ 1048576) (w : World) : Calls Tryz.prog 14 #[.int .i64 n] w fun e w' => e = .returned (.string ⟨(zeros n.toNat).toArray⟩) ∧ Below w.heap.size w w' := by
  by_cases h0 : n ≤ 0
  · have hd : decide (n ≤ 0) = true := decide_eq_true h0
    rw [show n.toNat = 0 by omega]
    go_enter Tryz.func14, Tryz.ntmps14
    go_wp2_with fail
    go_ret
    exact ⟨rfl, Below.refl _ _⟩
  obtain ⟨n, rfl⟩ : ∃ m : Nat, n = m := ⟨n.toNat, by omega⟩
  have hd : decide ((n : Int) ≤ 0) = false := decide_eq_false h0
  rw [Int.toNat_natCast]
  obtain ⟨iu, hiu, hiu2⟩ := Option.map_eq_some_iff.1 info_u8
  have hz0 : iu.zero = some (.int .u8 0) := congrArg (·.1) hiu2
  have hz1 : iu.size = 1 := congrArg (·.2.1) hiu2
  have hz2 : iu.bytes = 1 := congrArg (·.2.2) hiu2
  go_enter Tryz.func14, Tryz.ntmps14
  go_wp2_with (at_make; refine wpList_make_full _ rfl _ _ 93 rfl w.heap.size 5 iu (.int .u8 0) 1 Tryz.underlying93 hiu hz0 hz1 .i64 .i64 _ _ n rfl rfl rfl rfl (by rw [hz2]; omega) (by unfold maxLen; omega) (Nat.le_refl _) ?_; intro w2 hown hgrow; rw [made_zeros] at hown; have hcv := conv_own hown)
  go_ret
  exact ⟨rfl, (Below.refl _ _).grown hgrow (Nat.le_refl _) (fun k hk => by cases hk)⟩
theorem rZer_ok {v : Nat → D} {o : Nat → Value} {pc : List (X × Bool)} (hpc : Told (rhoI v o) pc) : ∀ g args r, rZer pc g args = some r → POk Tryz.prog (rhoI v o) g args r := by
  intro g args r h E hρ w vs hargs
  unfold rZer at h
  split at h
  · rename_i hg
    subst hg
    split at h
    · rename_i y
      obtain ⟨⟨k, p⟩, hp, h⟩ := Option.bind_eq_some_iff.1 h
      split at h
      · rename_i hc
        obtain ⟨e1, c1, c2⟩ := hc
        have e1 : k = .i64 := e1
        subst e1
        obtain rfl := Option.some.inj h
        match vs, hargs with
        | [u], hargs =>
          have h2 : u = .int .i64 (p.int (rhoI v o)) := by rw [← hρ]; exact asI_rel hp hargs.1
          subst h2
          have c2 : decide (1048576 < p.int (rhoI v o)) = false := truL_ok hpc c2
          have c2 := of_decide_eq_false c2
          refine (zeros_any (inI64_oki hpc c1) (by exact Int.not_lt.1 c2) w).mono fun en w' ⟨he, hB⟩ => ⟨_, he, ?_, hB⟩
          show _ = Value.string ((E.ρ.f 69 (p.val E.ρ)).str)
          rw [hρ]
          rfl
      · cases h
    · cases h
  · cases h
end Go.Proofs.YtcnimekhpnejlaaGreat.Ev

/- The rules of the statements of files hold. -/
namespace Go.Proofs.YtcnimekhpnejlaaGreat.Ev
open Go Go.RowKit
set_option linter.unusedVariables false
set_option linter.unusedSimpArgs false
set_option maxRecDepth 10000
theorem upd_kind {S : Int → Nd} {n : Int} {N : Nd} (h : N.kind = (S n).kind) (m : Int) : (updS S n N m).kind = (S m).kind := by
  unfold updS
  split
  · rename_i e
    rw [h, e]
  · rfl
theorem wrN_kind (N : Nd) (a : Nat) (s : List UInt8) (t : Int) : (wrN N a s t).kind = N.kind := by
  unfold wrN
  split <;> rfl
theorem base_told {v : Nat → D} {o : Nat → Value} : ∀ (k : Nat) (e : X) {S : Int → Nd}, (baseN k e).val (rhoI v o) = .st (.ino S) → ∃ S', e.val (rhoI v o) = .st (.ino S') ∧ ∀ n, (S' n).kind = (S n).kind
  | 0, e, S, h => ⟨S, h, fun _ => rfl⟩
  | k + 1, e, S, h => by
    unfold baseN at h
    split at h
    · rename_i e2 x1 x2 x3 x4
      obtain ⟨S1, h1, h2⟩ := base_told k e2 h
      refine ⟨updS S1 (x1.int (rhoI v o)) (wrN (S1 (x1.int (rhoI v o))) (x2.int (rhoI v o)).toNat (D.bs (x3.val (rhoI v o))) (x4.int (rhoI v o))), ?_, fun n => by rw [upd_kind (wrN_kind _ _ _ _), h2]⟩
      show FNi 65 (.p (e2.val (rhoI v o)) (.p (x1.val (rhoI v o)) (.p (x2.val (rhoI v o)) (.p (x3.val (rhoI v o)) (x4.val (rhoI v o)))))) = _
      rw [h1]
      rfl
    · rename_i e2 x1 x2 x3
      obtain ⟨S1, h1, h2⟩ := base_told k e2 h
      refine ⟨updS S1 (x1.int (rhoI v o)) (resN (S1 (x1.int (rhoI v o))) (x2.int (rhoI v o)).toNat (x3.int (rhoI v o))), ?_, fun n => (upd_kind (by rfl) n).trans (h2 n)⟩
      show FNi 56 (.p (e2.val (rhoI v o)) (.p (x1.val (rhoI v o)) (.p (x2.val (rhoI v o)) (x3.val (rhoI v o))))) = _
      rw [h1]
      rfl
    · exact ⟨S, h, fun _ => rfl⟩
theorem told_file {v : Nat → D} {o : Nat → Value} {pc : List (X × Bool)} (hpc : Told (rhoI v o) pc) {e n : X} (h : isFile pc e n = true) : ∃ S, e.val (rhoI v o) = .st (.ino S) ∧ FileN S (n.int (rhoI v o)) := by
  have h1 : (FNi 68 (.p ((baseN 30 e).val (rhoI v o)) (n.val (rhoI v o)))).bool = true := truL_ok hpc (of_decide_eq_true h)
  generalize hd : (baseN 30 e).val (rhoI v o) = d at h1
  cases d with
  | st x =>
    cases x with
    | ino S =>
      obtain ⟨S', h2, h3⟩ := base_told 30 e hd
      have h1 : decide (1 ≤ n.int (rhoI v o) ∧ n.int (rhoI v o) ≤ 4096 ∧ (S (n.int (rhoI v o))).kind = 1) = true := h1
      have h1 := of_decide_eq_true h1
      exact ⟨S', h2, ⟨h1.1, h1.2.1⟩, by rw [h3]; exact h1.2.2⟩
    | grow => cases h1
    | works => cases h1
    | leaves => cases h1
  | _ => cases h1
theorem rLaw_write {v : Nat → D} {o : Nat → Value} {pc : List (X × Bool)} (hpc : Told (rhoI v o) pc) {e : X} {args : List EV} {r : EV × X} (h : rLaw pc 10 e args = some r) : AOk Tryz.prog (rhoI v o) 10 e args r.1 r.2 := by
  intro E hρ a w vs his hargs
  unfold rLaw at h
  rw [if_pos rfl] at h
  split at h
  · rename_i y z u t
    obtain ⟨⟨k, n⟩, hn, h⟩ := Option.bind_eq_some_iff.1 h
    obtain ⟨⟨k2, p⟩, hp, h⟩ := Option.bind_eq_some_iff.1 h
    obtain ⟨s, hs, h⟩ := Option.bind_eq_some_iff.1 h
    obtain ⟨⟨k3, st⟩, hst, h⟩ := Option.bind_eq_some_iff.1 h
    split at h
    · rename_i hk
      obtain ⟨hk, hk2, hk3, c1, c2, c3⟩ := hk
      have hk : k = .i64 := hk
      have hk2 : k2 = .i64 := hk2
      have hk3 : k3 = .u64 := hk3
      subst hk
      subst hk2
      subst hk3
      obtain ⟨S, he, hf⟩ := told_file hpc c3
      have his2 : isD Tryz.prog (e.val (rhoI v o)) a w := his
      rw [he] at his2
      match vs, hargs with
      | [u, u2, u3, u4], hargs =>
        have hu : u = .int .i64 (n.int (rhoI v o)) := by rw [← hρ]; exact asI_rel hn hargs.1
        have hu2 : u2 = .int .i64 (p.int (rhoI v o)) := by rw [← hρ]; exact asI_rel hp hargs.2.1
        have hu3 : u3 = .string (s.str (rhoI v o)) := by rw [← hρ]; exact asS_rel hs hargs.2.2.1
        have hu4 : u4 = .int .u64 (st.int (rhoI v o)) := by rw [← hρ]; exact asI_rel hst hargs.2.2.2.1
        subst hu
        subst hu2
        subst hu3
        subst hu4
        have hw := file_write his2 hf (inI64_oki hpc c1) (s := s.str (rhoI v o)) (inU64_oki hpc c2)
        obtain ⟨b, hb, h⟩ := Option.bind_eq_some_iff.1 h
        have hb : decide (0 ≤ p.int (rhoI v o) ∧ p.int (rhoI v o) + ((s.str (rhoI v o)).size : Nat) ≤ 1048576) = b := truL_ok hpc hb
        cases b with
        | true =>
          have hb := of_decide_eq_true hb
          rw [if_pos rfl] at h
          obtain rfl := Option.some.inj h
          refine acts_aoi hw fun u d hq => ?_
          rw [if_pos hb] at hq
          obtain ⟨rfl, rfl⟩ := hq
          refine ⟨tup2_mk ?_ rfl, ?_⟩
          · show Value.int .i64 _ = Value.int .i64 (IntKind.i64.wrap (p.int E.ρ + ((s.str E.ρ).size : Nat)))
            rw [hρ, wrap_i (n := p.int (rhoI v o) + ((s.str (rhoI v o)).size : Nat)) (by omega) (by omega)]
          · show _ = FNi 65 (.p (e.val (rhoI v o)) (.p (n.val (rhoI v o)) (.p (p.val (rhoI v o)) (.p (s.val (rhoI v o)) (st.val (rhoI v o))))))
            rw [he]
            rfl
        | false =>
          have hb := of_decide_eq_false hb
          rw [if_neg (by decide)] at h
          obtain ⟨c, hc, rfl⟩ := Option.map_eq_some_iff.1 h
          have hc : decide (p.int (rhoI v o) < 0) = c := truL_ok hpc hc
          refine acts_aoi hw fun u d hq => ?_
          rw [if_neg hb] at hq
          obtain ⟨rfl, rfl⟩ := hq
          refine ⟨tup2_mk rfl ?_, he.symm⟩
          cases c with
          | true => rw [if_pos (of_decide_eq_true hc)]; rfl
          | false => rw [if_neg (of_decide_eq_false hc)]; rfl
    · cases h
  · cases h
theorem rLaw_read {v : Nat → D} {o : Nat → Value} {pc : List (X × Bool)} (hpc : Told (rhoI v o) pc) {e : X} {args : List EV} {r : EV × X} (h : rLaw pc 11 e args = some r) : AOk Tryz.prog (rhoI v o) 11 e args r.1 r.2 := by
  intro E hρ a w vs his hargs
  unfold rLaw at h
  rw [if_neg (by decide), if_pos rfl] at h
  split at h
  · rename_i y z u
    obtain ⟨⟨k, n⟩, hn, h⟩ := Option.bind_eq_some_iff.1 h
    obtain ⟨⟨k2, p⟩, hp, h⟩ := Option.bind_eq_some_iff.1 h
    obtain ⟨⟨k3, q⟩, hq, h⟩ := Option.bind_eq_some_iff.1 h
    split at h
    · rename_i hk
      obtain ⟨hk, hk2, hk3, c1, c2, c3⟩ := hk
      have hk : k = .i64 := hk
      have hk2 : k2 = .i64 := hk2
      have hk3 : k3 = .i64 := hk3
      subst hk
      subst hk2
      subst hk3
      obtain ⟨S, he, hf⟩ := told_file hpc c3
      have his2 : isD Tryz.prog (e.val (rhoI v o)) a w := his
      rw [he] at his2
      match vs, hargs with
      | [u, u2, u3], hargs =>
        have hu : u = .int .i64 (n.int (rhoI v o)) := by rw [← hρ]; exact asI_rel hn hargs.1
        have hu2 : u2 = .int .i64 (p.int (rhoI v o)) := by rw [← hρ]; exact asI_rel hp hargs.2.1
        have hu3 : u3 = .int .i64 (q.int (rhoI v o)) := by rw [← hρ]; exact asI_rel hq hargs.2.2.1
        subst hu
        subst hu2
        subst hu3
        have hw := file_read his2 hf (inI64_oki hpc c1) (inI64_oki hpc c2)
        obtain ⟨b, hb, h⟩ := Option.bind_eq_some_iff.1 h
        have hb : decide (p.int (rhoI v o) < 0) = b := truL_ok hpc hb
        cases b with
        | true =>
          have hb := of_decide_eq_true hb
          rw [if_pos rfl] at h
          obtain rfl := Option.some.inj h
          refine acts_aoi hw fun u d ⟨hd, hq⟩ => ?_
          rw [if_pos (.inl hb)] at hq
          subst hd
          subst hq
          exact ⟨tup2_mk rfl rfl, he.symm⟩
        | false =>
          have hb := of_decide_eq_false hb
          rw [if_neg (by decide)] at h
          obtain ⟨c, hc, rfl⟩ := Option.map_eq_some_iff.1 h
          have hc : decide (q.int (rhoI v o) < 0) = c := truL_ok hpc hc
          refine acts_aoi hw fun u d ⟨hd, hq⟩ => ?_
          subst hd
          cases c with
          | true =>
            rw [if_pos (.inr (of_decide_eq_true hc))] at hq
            subst hq
            exact ⟨tup2_mk rfl rfl, he.symm⟩
          | false =>
            have hc := of_decide_eq_false hc
            rw [if_neg (fun e2 => e2.elim hb hc)] at hq
            subst hq
            refine ⟨tup2_mk ?_ rfl, he.symm⟩
            show _ = Value.string ((E.ρ.f 66 (.p (e.val E.ρ) (.p (n.val E.ρ) (.p (p.val E.ρ) (q.val E.ρ))))).str)
            rw [hρ, he]
            rfl
    · cases h
  · cases h
theorem rLaw_trunc {v : Nat → D} {o : Nat → Value} {pc : List (X × Bool)} (hpc : Told (rhoI v o) pc) {e : X} {args : List EV} {r : EV × X} (h : rLaw pc 12 e args = some r) : AOk Tryz.prog (rhoI v o) 12 e args r.1 r.2 := by
  intro E hρ a w vs his hargs
  unfold rLaw at h
  rw [if_neg (by decide), if_neg (by decide), if_pos rfl] at h
  split at h
  · rename_i y z t
    obtain ⟨⟨k, n⟩, hn, h⟩ := Option.bind_eq_some_iff.1 h
    obtain ⟨⟨k2, p⟩, hp, h⟩ := Option.bind_eq_some_iff.1 h
    obtain ⟨⟨k3, st⟩, hst, h⟩ := Option.bind_eq_some_iff.1 h
    split at h
    · rename_i hk
      obtain ⟨hk, hk2, hk3, c1, c2, c3⟩ := hk
      have hk : k = .i64 := hk
      have hk2 : k2 = .i64 := hk2
      have hk3 : k3 = .u64 := hk3
      subst hk
      subst hk2
      subst hk3
      obtain ⟨S, he, hf⟩ := told_file hpc c3
      have his2 : isD Tryz.prog (e.val (rhoI v o)) a w := his
      rw [he] at his2
      match vs, hargs with
      | [u, u2, u3], hargs =>
        have hu : u = .int .i64 (n.int (rhoI v o)) := by rw [← hρ]; exact asI_rel hn hargs.1
        have hu2 : u2 = .int .i64 (p.int (rhoI v o)) := by rw [← hρ]; exact asI_rel hp hargs.2.1
        have hu3 : u3 = .int .u64 (st.int (rhoI v o)) := by rw [← hρ]; exact asI_rel hst hargs.2.2.1
        subst hu
        subst hu2
        subst hu3
        have hw := file_truncate his2 hf (inI64_oki hpc c1) (inU64_oki hpc c2)
        obtain ⟨b, hb, h⟩ := Option.bind_eq_some_iff.1 h
        have hb : decide (p.int (rhoI v o) < 0) = b := truL_ok hpc hb
        cases b with
        | true =>
          have hb := of_decide_eq_true hb
          rw [if_pos rfl] at h
          obtain rfl := Option.some.inj h
          refine acts_aoi hw fun u d hq => ?_
          rw [if_pos hb] at hq
          obtain ⟨rfl, rfl⟩ := hq
          exact ⟨rfl, he.symm⟩
        | false =>
          have hb := of_decide_eq_false hb
          rw [if_neg (by decide)] at h
          obtain ⟨c, hc, rfl⟩ := Option.map_eq_some_iff.1 h
          have hc : decide (1048576 < p.int (rhoI v o)) = c := truL_ok hpc hc
          refine acts_aoi hw fun u d hq => ?_
          rw [if_neg hb] at hq
          cases c with
          | true =>
            rw [if_pos (of_decide_eq_true hc)] at hq
            obtain ⟨rfl, rfl⟩ := hq
            exact ⟨rfl, he.symm⟩
          | false =>
            rw [if_neg (of_decide_eq_false hc)] at hq
            obtain ⟨rfl, rfl⟩ := hq
            refine ⟨rfl, ?_⟩
            show _ = FNi 56 (.p (e.val (rhoI v o)) (.p (n.val (rhoI v o)) (.p (p.val (rhoI v o)) (st.val (rhoI v o)))))
            rw [he]
            rfl
    · cases h
  · cases h
theorem rLaw_same {v : Nat → D} {o : Nat → Value} {pc : List (X × Bool)} (hpc : Told (rhoI v o) pc) {e : X} {args : List EV} {r : EV × X} (h : rLaw pc 13 e args = some r) : AOk Tryz.prog (rhoI v o) 13 e args r.1 r.2 := by
  intro E hρ a w vs his hargs
  unfold rLaw at h
  rw [if_neg (by decide), if_neg (by decide), if_neg (by decide), if_pos rfl] at h
  split at h
  · rename_i y z
    obtain ⟨⟨k, n⟩, hn, h⟩ := Option.bind_eq_some_iff.1 h
    obtain ⟨⟨k2, p⟩, hp, h⟩ := Option.bind_eq_some_iff.1 h
    split at h
    · rename_i hk
      obtain ⟨hk, hk2, c3, c4⟩ := hk
      have hk : k = .i64 := hk
      have hk2 : k2 = .i64 := hk2
      subst hk
      subst hk2
      obtain rfl := Option.some.inj h
      obtain ⟨S, he, hf⟩ := told_file hpc c3
      obtain ⟨S2, he2, hf2⟩ := told_file hpc c4
      rw [he] at he2
      obtain rfl : S = S2 := by injection he2 with e1; injection e1
      have his2 : isD Tryz.prog (e.val (rhoI v o)) a w := his
      rw [he] at his2
      match vs, hargs with
      | [u, u2], hargs =>
        have hu : u = .int .i64 (n.int (rhoI v o)) := by rw [← hρ]; exact asI_rel hn hargs.1
        have hu2 : u2 = .int .i64 (p.int (rhoI v o)) := by rw [← hρ]; exact asI_rel hp hargs.2.1
        subst hu
        subst hu2
        refine acts_aoi (file_same his2 hf hf2) fun u d ⟨hd, hq⟩ => ?_
        subst hd
        subst hq
        refine ⟨tup2_mk ?_ rfl, he.symm⟩
        show _ = Value.bool ((E.ρ.f 67 (.p (e.val E.ρ) (.p (n.val E.ρ) (p.val E.ρ)))).bool)
        rw [hρ, he]
        rfl
    · cases h
  · cases h
theorem rLaw_ok {v : Nat → D} {o : Nat → Value} {pc : List (X × Bool)} (hpc : Told (rhoI v o) pc) : ∀ g e args r, rLaw pc g e args = some r → AOk Tryz.prog (rhoI v o) g e args r.1 r.2 := by
  intro g e args r h
  by_cases h1 : g = 10
  · subst h1; exact rLaw_write hpc h
  by_cases h2 : g = 11
  · subst h2; exact rLaw_read hpc h
  by_cases h3 : g = 12
  · subst h3; exact rLaw_trunc hpc h
  by_cases h4 : g = 13
  · subst h4; exact rLaw_same hpc h
  exfalso
  unfold rLaw at h
  rw [if_neg h1, if_neg h2, if_neg h3, if_neg h4] at h
  cases h
theorem sumBeg_ok {v : Nat → D} {o : Nat → Value} {pc : List (X × Bool)} {R : Rules} (h0 : v 0 = .st (.ino S0)) : CallOk (ctx R (rhoI v o) pc) sumBeg := by
  intro g args h nx r he E w vs hr hρ hf hargs
  replace hρ : E.ρ = rhoI v o := hρ
  unfold sumBeg at he
  split at he
  · rename_i hg
    subst hg
    split at he
    · obtain rfl := Option.some.inj he
      match vs, hargs with
      | [], hargs =>
        refine (begun_any w).mono fun en w' ⟨a, h1, h2, h3, h4⟩ => ?_
        have hg := Goes.below (nx := nx) hr h4
        have hdis : ∀ k, E.ρ.A.own a w' k → ¬ Owned E h w' k := fun k hk ho => by
          rw [hρ] at hk
          have hk := h3 k hk
          rcases hg.owned ho with ho | hge
          · have := owned_lt hr ho
            omega
          · rcases ho with ⟨j, cc, q, hj, hq, rfl⟩ | ⟨j, e, q, hj, hq, ho⟩
            · obtain ⟨o2, ho2, _⟩ := hr.blk hj hq
              have := lt_of_heap ho2
              omega
            · have h5 := E.ρ.A.keep _ _ w w' (hr.abs.ab j e q hj hq) (fun k hk => h4.block k (E.ρ.A.lt _ _ _ (hr.abs.ab j e q hj hq) k hk)) h4.size
              have := E.ρ.A.lt _ _ _ (hr.abs.ab j e q hj hq) k ((h5.2 k).1 ho)
              omega
        have hg2 := Goes.adopt hg (hf nx (Nat.le_refl _)) (a := a) (e := .va 0) (by rw [hρ]; show isD Tryz.prog (v 0) a w'; rw [h0]; exact h2) (fun k hk => by rw [hρ] at hk; exact h3 k hk) hdis
        exact ⟨_, _, h1, hg2, ⟨_, rfl, ⟨⟨a, 0, 0⟩, Env.put_at _ _ _, rfl⟩, rfl, rfl, trivial⟩⟩
    · cases he
  · cases he
/-- A call without arguments that answers true. -/
def AnsTrue (g : Nat) : Prop := ∀ W, Calls Tryz.prog g #[] W fun e W' => e = .returned (.bool true) ∧ Below W.heap.size W W'
theorem sumTru_ok {C : Ctx} (hP : C.P = Tryz.prog) {l : List Nat} (hl : ∀ g ∈ l, AnsTrue g) : CallOk C (sumTru l) := by
  intro g args h nx r he E w vs hr hρ hf hargs
  rw [hP]
  unfold sumTru at he
  split at he
  · split at he
    · rename_i hg
      obtain rfl := Option.some.inj he
      match vs, hargs with
      | [], _ =>
        refine (hl g (by simpa using hg) w).mono fun e w' ⟨h1, h2⟩ => ?_
        exact ⟨_, E, h1, Goes.below hr h2, rfl⟩
    · cases he
  · cases he
theorem sumB_ok {v : Nat → D} {o : Nat → Value} {pc : List (X × Bool)} (hpc : Told (rhoI v o) pc) {R : Rules} (h0 : v 0 = .st (.ino S0)) : CallOk (ctx R (rhoI v o) pc) (sumB pc) :=
  sumOr_ok (sumBeg_ok h0) (sumOr_ok (sumA_ok (rLaw_ok hpc)) (sumP_ok (rZer_ok hpc)))
end Go.Proofs.YtcnimekhpnejlaaGreat.Ev

/- What calls come to, on all their ways (written by wip/tools/tabs.py). -/
namespace Go.Proofs.YtcnimekhpnejlaaGreat.Ev
open Go
def awkT : PT := (.node (.app 68 (.cons (.va 0) (.li 2))) (.node (.app 64 (.cons (.li 300) (.ls ⟨#[97, 98]⟩))) (.node (.eq (.bin .add .i64 (.li 300) (.len (.ls ⟨#[97, 98]⟩))) (.li 302)) (.node (.seq (.app 66 (.cons (.app 65 (.cons (.va 0) (.cons (.li 2) (.cons (.li 300) (.cons (.ls ⟨#[97, 98]⟩) (.li 1)))))) (.cons (.li 2) (.cons (.li 299) (.li 9))))) (.ls ⟨#[0, 97, 98]⟩)) .leaf .leaf) .leaf) .leaf) .dead)
def awkL : List (List (X × Bool) × Option (EV × List (Option BV))) := [
  ([((.seq (.app 66 (.cons (.app 65 (.cons (.va 0) (.cons (.li 2) (.cons (.li 300) (.cons (.ls ⟨#[97, 98]⟩) (.li 1)))))) (.cons (.li 2) (.cons (.li 299) (.li 9))))) (.ls ⟨#[0, 97, 98]⟩)), true), ((.eq (.bin .add .i64 (.li 300) (.len (.ls ⟨#[97, 98]⟩))) (.li 302)), true), ((.app 64 (.cons (.li 300) (.ls ⟨#[97, 98]⟩))), true), ((.app 68 (.cons (.va 0) (.li 2))), true)], some ((.a (.s (.bool true))), [])),
  ([((.seq (.app 66 (.cons (.app 65 (.cons (.va 0) (.cons (.li 2) (.cons (.li 300) (.cons (.ls ⟨#[97, 98]⟩) (.li 1)))))) (.cons (.li 2) (.cons (.li 299) (.li 9))))) (.ls ⟨#[0, 97, 98]⟩)), false), ((.eq (.bin .add .i64 (.li 300) (.len (.ls ⟨#[97, 98]⟩))) (.li 302)), true), ((.app 64 (.cons (.li 300) (.ls ⟨#[97, 98]⟩))), true), ((.app 68 (.cons (.va 0) (.li 2))), true)], some ((.a (.s (.bool false))), [])),
  ([((.eq (.bin .add .i64 (.li 300) (.len (.ls ⟨#[97, 98]⟩))) (.li 302)), false), ((.app 64 (.cons (.li 300) (.ls ⟨#[97, 98]⟩))), true), ((.app 68 (.cons (.va 0) (.li 2))), true)], some ((.a (.s (.bool false))), [])),
  ([((.app 64 (.cons (.li 300) (.ls ⟨#[97, 98]⟩))), false), ((.app 68 (.cons (.va 0) (.li 2))), true)], some ((.a (.s (.bool false))), [])),
  ([((.app 68 (.cons (.va 0) (.li 2))), false)], none)]
end Go.Proofs.YtcnimekhpnejlaaGreat.Ev

/- What open values of files come to; a call, evaluated on one way. -/
namespace Go.Proofs.YtcnimekhpnejlaaGreat.Ev
open Go Go.RowKit
set_option linter.unusedVariables false
set_option maxRecDepth 10000
/-- A call, evaluated on one way. -/
theorem call_at {R : Rules} {ρ : Rho} (hR : R.Ok ρ) {pc : List (X × Bool)} (hpc : Told ρ pc) {sum : Call} (hsum : CallOk (ctx R ρ pc) sum) {F K g : Nat} {args : List EV} {h : T Blk} {nx : Nat} {ids : List Nat} {r : EV × List (Option BV)}
    (hev : (evCall (ctx R ρ pc) funT.get sum F K g args h nx).map (view ids) = some r) {E : Env} {w : World} {vs : List Value} (hr : HRel E h w) (hρ : E.ρ = ρ) (hf : FreshU E nx) (hrel : Rels (EV.rel E) args vs) : Came Tryz.prog g vs.toArray E h nx w ids r := by
  obtain ⟨r1, hr1, hr2⟩ := Option.map_eq_some_iff.1 hev
  have hok := evCall_ok (hR pc hpc) (show (ctx R ρ pc).P.follows .mixedOrders = true from mixed) (funs_ok (C := ctx R ρ pc) rfl) hsum (F := F) K
  refine (hok g args h nx r1 hr1 E w vs hr hρ hf hrel).mono fun en w' ⟨v, E', he, hg, hv⟩ => ?_
  refine ⟨v, E', r1.2.1, r1.2.2, he, hg, ?_, ?_⟩
  · rw [← hr2]
    exact hv
  · rw [← hr2]
    rfl
/-- A piece of code, evaluated on one way. -/
theorem code_at {R : Rules} {ρ : Rho} (hR : R.Ok ρ) {pc : List (X × Bool)} (hpc : Told ρ pc) {sum : Call} (hsum : CallOk (ctx R ρ pc) sum) {F K N : Nat} {c : Code} {s : S} {ts ids : List Nat} {rs : List CodeV}
    (hev : (evCode (ctx R ρ pc) funT.get (evCall (ctx R ρ pc) funT.get sum F K) N F c s).map (viewC ts ids) = some rs) {E : Env} {a : Act} {w : World} (hr : HRel E s.h w) (hρ : E.ρ = ρ) (hf : FreshU E s.nx) (htm : RelT E s.tm a.tmps) (hN : N ≤ a.tmps.size) (Q : Exit → Act → World → Prop)
    (hQ : ∀ q ∈ rs, ∀ E' a' w' (s' : S), Goes E s.h s.nx w E' s'.h s'.nx w' → RelT E' s'.tm a'.tmps → a'.tmps.size = a.tmps.size → a'.defers = a.defers → q.2.1 = (ts.map fun t => s'.tm.get t) → q.2.2 = (ids.map fun i => (s'.h.get i).map Blk.view) → Q q.1.e a' w') : c.wp Tryz.prog Q a w := by
  obtain ⟨r, hr1, hr2⟩ := Option.map_eq_some_iff.1 hev
  have hC := hR pc hpc
  have hfun := funs_ok (C := ctx R ρ pc) rfl
  have hcall := evCall_ok hC (show (ctx R ρ pc).P.follows .mixedOrders = true from mixed) hfun hsum (F := F) K
  refine evCode_run hC (show (ctx R ρ pc).P.follows .mixedOrders = true from mixed) hfun hcall c hr1 ⟨hr, hρ, hf, htm, hN⟩ fun o ho E' a' w' k => ?_
  exact hQ _ (by rw [← hr2]; exact List.mem_map.2 ⟨o, ho, rfl⟩) E' a' w' o.2 k.go k.tm k.size k.dfr rfl rfl

/-! ### What functions of open values come to -/
theorem add_int {ρ : Rho} {k : IntKind} {a b : X} : X.int ρ (.bin .add k a b) = k.wrap (X.int ρ a + X.int ρ b) := rfl
theorem sub_int {ρ : Rho} {k : IntKind} {a b : X} : X.int ρ (.bin .sub k a b) = k.wrap (X.int ρ a - X.int ρ b) := rfl
theorem mn_int {ρ : Rho} {a b : X} : X.int ρ (.mn a b) = if X.int ρ b < X.int ρ a then X.int ρ b else X.int ρ a := rfl
theorem len_int {ρ : Rho} {a : X} : X.int ρ (.len a) = ((a.str ρ).size : Nat) := rfl
theorem cat_str {ρ : Rho} {a b : X} : X.str ρ (.cat a b) = X.str ρ a ++ X.str ρ b := rfl
theorem ls_str {ρ : Rho} {s : ByteArray} : X.str ρ (.ls s) = s := rfl
section
variable {v : Nat → D} {o : Nat → Value} {S : Int → Nd} {e n a b m t s : X}
theorem b902 : X.bool (rhoI v o) (.app 902 e) = decide (-9223372036854775808 ≤ X.int (rhoI v o) e ∧ X.int (rhoI v o) e ≤ 9223372036854775807) := rfl
theorem b59 : X.bool (rhoI v o) (.app 59 e) = decide (0 ≤ X.int (rhoI v o) e ∧ X.int (rhoI v o) e ≤ 18446744073709551615) := rfl
theorem i50 (h : X.val (rhoI v o) e = .st (.ino S)) : X.int (rhoI v o) (.app 50 (.cons e n)) = (S (X.int (rhoI v o) n)).kind := by
  show (FNi 50 (.p (X.val (rhoI v o) e) (X.val (rhoI v o) n))).int = _
  rw [h]; rfl
theorem i52 (h : X.val (rhoI v o) e = .st (.ino S)) : X.int (rhoI v o) (.app 52 (.cons e n)) = ((S (X.int (rhoI v o) n)).bytes.length : Nat) := by
  show (FNi 52 (.p (X.val (rhoI v o) e) (X.val (rhoI v o) n))).int = _
  rw [h]; rfl
theorem b57 (h : X.val (rhoI v o) e = .st (.ino S)) : X.bool (rhoI v o) (.app 57 e) = true := by
  show (FNi 57 (X.val (rhoI v o) e)).bool = _
  rw [h]; rfl
theorem b62 (h : X.val (rhoI v o) e = .st (.ino S)) : X.bool (rhoI v o) (.app 62 (.cons e (.cons n (.cons a s)))) = decide (0 ≤ X.int (rhoI v o) a ∧ X.int (rhoI v o) a + ((X.str (rhoI v o) s).size : Nat) ≤ ((S (X.int (rhoI v o) n)).bytes.length : Nat)) := by
  show (FNi 62 (.p (X.val (rhoI v o) e) (.p (X.val (rhoI v o) n) (.p (X.val (rhoI v o) a) (X.val (rhoI v o) s))))).bool = _
  rw [h]; rfl
theorem b64 : X.bool (rhoI v o) (.app 64 (.cons a s)) = decide (0 ≤ X.int (rhoI v o) a ∧ X.int (rhoI v o) a + ((X.str (rhoI v o) s).size : Nat) ≤ 1048576) := rfl
theorem b68 (h : X.val (rhoI v o) e = .st (.ino S)) : X.bool (rhoI v o) (.app 68 (.cons e n)) = decide (1 ≤ X.int (rhoI v o) n ∧ X.int (rhoI v o) n ≤ 4096 ∧ (S (X.int (rhoI v o) n)).kind = 1) := by
  show (FNi 68 (.p (X.val (rhoI v o) e) (X.val (rhoI v o) n))).bool = _
  rw [h]; rfl
theorem s61 (h : X.val (rhoI v o) e = .st (.ino S)) : X.str (rhoI v o) (.app 61 (.cons e (.cons n (.cons a b)))) = ⟨(rdB (S (X.int (rhoI v o) n)).bytes (X.int (rhoI v o) a).toNat (X.int (rhoI v o) b).toNat).toArray⟩ := by
  show (FNi 61 (.p (X.val (rhoI v o) e) (.p (X.val (rhoI v o) n) (.p (X.val (rhoI v o) a) (X.val (rhoI v o) b))))).str = _
  rw [h]; rfl
theorem s66 (h : X.val (rhoI v o) e = .st (.ino S)) : X.str (rhoI v o) (.app 66 (.cons e (.cons n (.cons a m)))) = ⟨(readB (S (X.int (rhoI v o) n)).bytes (X.int (rhoI v o) a).toNat (X.int (rhoI v o) m).toNat).toArray⟩ := by
  show (FNi 66 (.p (X.val (rhoI v o) e) (.p (X.val (rhoI v o) n) (.p (X.val (rhoI v o) a) (X.val (rhoI v o) m))))).str = _
  rw [h]; rfl
theorem b67 (h : X.val (rhoI v o) e = .st (.ino S)) : X.bool (rhoI v o) (.app 67 (.cons e (.cons n m))) = decide ((S (X.int (rhoI v o) n)).bytes = (S (X.int (rhoI v o) m)).bytes) := by
  show (FNi 67 (.p (X.val (rhoI v o) e) (.p (X.val (rhoI v o) n) (X.val (rhoI v o) m)))).bool = _
  rw [h]; rfl
theorem v65 (h : X.val (rhoI v o) e = .st (.ino S)) : X.val (rhoI v o) (.app 65 (.cons e (.cons n (.cons a (.cons s t))))) = .st (.ino (updS S (X.int (rhoI v o) n) (wrN (S (X.int (rhoI v o) n)) (X.int (rhoI v o) a).toNat (X.str (rhoI v o) s).data.toList (X.int (rhoI v o) t)))) := by
  show FNi 65 (.p (X.val (rhoI v o) e) (.p (X.val (rhoI v o) n) (.p (X.val (rhoI v o) a) (.p (X.val (rhoI v o) s) (X.val (rhoI v o) t))))) = _
  rw [h]; rfl
theorem v60 (h : X.val (rhoI v o) e = .st (.ino S)) : X.val (rhoI v o) (.app 60 (.cons e (.cons n (.cons a (.cons s t))))) = .st (.ino (updS S (X.int (rhoI v o) n) (layN (S (X.int (rhoI v o) n)) (X.int (rhoI v o) a).toNat (X.str (rhoI v o) s).data.toList (X.int (rhoI v o) t)))) := by
  show FNi 60 (.p (X.val (rhoI v o) e) (.p (X.val (rhoI v o) n) (.p (X.val (rhoI v o) a) (.p (X.val (rhoI v o) s) (X.val (rhoI v o) t))))) = _
  rw [h]; rfl
theorem v56 (h : X.val (rhoI v o) e = .st (.ino S)) : X.val (rhoI v o) (.app 56 (.cons e (.cons n (.cons a t)))) = .st (.ino (updS S (X.int (rhoI v o) n) (resN (S (X.int (rhoI v o) n)) (X.int (rhoI v o) a).toNat (X.int (rhoI v o) t)))) := by
  show FNi 56 (.p (X.val (rhoI v o) e) (.p (X.val (rhoI v o) n) (.p (X.val (rhoI v o) a) (X.val (rhoI v o) t)))) = _
  rw [h]; rfl
theorem i70 : X.int (rhoI v o) (.app 70 (.cons s t)) = Lib.index (X.str (rhoI v o) s).data.toList (X.str (rhoI v o) t).data.toList := rfl
theorem s69 : X.str (rhoI v o) (.app 69 n) = ⟨(zeros (X.int (rhoI v o) n).toNat).toArray⟩ := rfl
end
theorem wrN_bytes (N : Nd) (a : Nat) (s : List UInt8) (t : Int) : (wrN N a s t).bytes = writeB N.bytes a s := by
  unfold wrN writeB
  split <;> rfl
theorem bool_ls {ρ : Rho} {a b : X} (h : a.str ρ = b.str ρ) : X.bool ρ (.seq a b) = true := by
  show ((a.str ρ).toList == (b.str ρ).toList) = true
  rw [h]
  exact beq_self_eq_true _
theorem tl_eq {l m : List UInt8} (h : l = m) : (⟨l.toArray⟩ : ByteArray) = ⟨m.toArray⟩ := by rw [h]
theorem byt (x : ByteArray) : (⟨x.data.toList.toArray⟩ : ByteArray) = x := by rfl
theorem sub_str {s : ByteArray} {a b : Nat} : s.extract a b = ⟨((s.data.toList.take b).drop a).toArray⟩ := by
  apply ByteArray.ext
  apply Array.toList_inj.1
  rw [ba_sub]
  exact List.drop_take.symm
/-- What came of a call that began with nothing. -/
theorem nil_came {ρ : Rho} {w : World} {g : Nat} {vs : Array Value} {ids : List Nat} {r : EV × List (Option BV)} (h : Came Tryz.prog g vs ⟨fun _ => none, ρ⟩ .nil 0 w ids r) {b : Value} (hb : ∀ E u, E.ρ = ρ → r.1.rel E u → u = b) : Calls Tryz.prog g vs w fun e w' => e = .returned b ∧ Below w.heap.size w w' :=
  h.mono fun en w' ⟨v, E', h', nx', he, hg, hv, _⟩ => ⟨by rw [he, hb E' v hg.ext.ρ hv], hg.frame.os, hg.frame.tape, hg.frame.output, hg.frame.size, fun k hk => hg.frame.block k hk nil_owned⟩
end Go.Proofs.YtcnimekhpnejlaaGreat.Ev

/- The statements of files: awake. -/
namespace Go.Proofs.YtcnimekhpnejlaaGreat.Ev
open Go Go.RowKit
set_option linter.unusedVariables false
set_option linter.unusedSimpArgs false
set_option maxRecDepth 10000
theorem awk_ev (ρ : Rho) : ways (fun pc => (evCall (ctx rules0 ρ pc) funT.get (sumB pc) 100000 1000 9 [] .nil 0).map (view [])) awkT [] = some awkL := by kernel_rfl
theorem awake_true : AnsTrue 9 := fun W => by
  obtain ⟨ρ, hρ⟩ : ∃ ρ, ρ = rhoI (ofL [.st (.ino S0)]) fun _ => undef := ⟨_, rfl⟩
  obtain ⟨y, hy, ht, hcm⟩ := ways_calls (R := rules0) (rules0_ok ρ) (fun pc hpc => by rw [hρ] at hpc ⊢; exact sumB_ok hpc rfl) (awk_ev ρ) (nil_rel ρ W) rfl (fun _ _ => rfl) (vs := []) trivial
  have q68 : X.bool ρ (.app 68 (.cons (.va 0) (.li 2))) = true := by
    rw [hρ]
    exact decide_eq_true (show (1 : Int) ≤ 2 ∧ (2 : Int) ≤ 4096 ∧ (S0 2).kind = 1 from ⟨by decide, by decide, rfl⟩)
  have q64 : X.bool ρ (.app 64 (.cons (.li 300) (.ls ⟨#[97, 98]⟩))) = true := by
    rw [hρ]
    exact decide_eq_true (show (0 : Int) ≤ 300 ∧ (300 : Int) + (2 : Nat) ≤ 1048576 by decide)
  have qe : X.int ρ (.bin .add .i64 (.li 300) (.len (.ls ⟨#[97, 98]⟩))) = 302 := rfl
  have qs : X.bool ρ (.seq (.app 66 (.cons (.app 65 (.cons (.va 0) (.cons (.li 2) (.cons (.li 300) (.cons (.ls ⟨#[97, 98]⟩) (.li 1)))))) (.cons (.li 2) (.cons (.li 299) (.li 9))))) (.ls ⟨#[0, 97, 98]⟩)) = true := by
    refine bool_ls ?_
    rw [hρ]
    exact tl_eq (show readB (wrN (S0 2) 300 [97, 98] 1).bytes 299 9 = [0, 97, 98] by decide +kernel)
  simp only [awkL, List.mem_cons, List.not_mem_nil, or_false] at hy
  rcases hy with rfl | rfl | rfl | rfl | rfl <;> simp only [told_cons, told_nil, eq_true, eq_false, q68, q64, qe, qs, li_int, and_true, true_and, reduceCtorEq, false_and, and_false, ne_eq, not_true_eq_false, not_false_eq_true] at ht
  exact nil_came (hcm _ rfl) fun E u _ h => h
end Go.Proofs.YtcnimekhpnejlaaGreat.Ev
