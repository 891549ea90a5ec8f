/- Texts of this seat joined into one: F3, F4, F6, F5, J1, J2, Wh, W1T, W1. -/
import Derived.Test.YtcnimekhpnejlaaGreatVB9
import Derived.OwnWalk
import Derived.Laws.BytesArg
import Derived.WalkKit
import Derived.Great.BuildSlice
import Derived.Test.YtcnimekhpnejlaaGreatVB4
import Derived.Maps.RangeWalk

/- lay of files: a text, leaf by leaf. -/
namespace Go.Proofs.YtcnimekhpnejlaaGreat.Ev
open Go Go.RowKit
set_option linter.unusedVariables false
set_option linter.unusedSimpArgs false
set_option maxRecDepth 10000

noncomputable def layB : Code := codeAt (Tryz.f36.body.getD .skip) [1, 0, 0, 0]
def layS : S := ⟨((((T.set .nil 0 (EV.a (.s (.ptr 0 0)))).set 1 (.a (.s (.xi .i64 (.va 1))))).set 2 (.a (.s (.xi .i64 (.va 2))))).set 3 (.a (.s (.xs (.va 3))))).set 4 (.a (.s (.xi .u64 (.va 4)))), oneM, 1⟩
theorem lay_ev (ρ : Rho) : ways (fun pc => (evCode (ctx rules0 ρ pc) funT.get (evCall (ctx rules0 ρ pc) funT.get (sumL pc) 100000 1000) Tryz.f36.ntmps 100000 layB layS).map (viewC [0, 1, 2, 3, 4] [0])) layT [] = some layL := by kernel_rfl

theorem quo256 {ρ : Rho} {e : X} {a : Nat} (he : e.int ρ = a) (ha : a ≤ 1048576) : X.int ρ (.bin .quo .i64 e (.li 256)) = (a / 256 : Nat) := by
  show IntKind.i64.wrap ((e.int ρ).tdiv 256) = _
  rw [he, Int.tdiv_eq_ediv_of_nonneg (by omega), wrap_i (by omega) (by omega)]
  omega
theorem rem256 {ρ : Rho} {e : X} {a : Nat} (he : e.int ρ = a) : X.int ρ (.bin .rem .i64 e (.li 256)) = (a % 256 : Nat) := by
  show (e.int ρ).tmod 256 = _
  rw [he, Int.tmod_eq_emod_of_nonneg (by omega)]
  omega
theorem many256 {ρ : Rho} {e s : X} {a : Nat} {t : ByteArray} (he : e.int ρ = a) (hs : s.str ρ = t) : X.int ρ (.mn (.len s) (.bin .sub .i64 (.li 256) (.bin .rem .i64 e (.li 256)))) = (min t.size (256 - a % 256) : Nat) := by
  show (if IntKind.i64.wrap (256 - X.int ρ (.bin .rem .i64 e (.li 256))) < ((s.str ρ).size : Nat) then IntKind.i64.wrap (256 - X.int ρ (.bin .rem .i64 e (.li 256))) else ((s.str ρ).size : Nat)) = _
  rw [rem256 he, hs, wrap_i (by omega) (by omega)]
  split <;> omega

/-- What is laid is of the same kind. -/
theorem layN_bytes (N : Nd) (a : Nat) (s : List UInt8) (st : Int) : (layN N a s st).bytes = overB N.bytes a s := by
  unfold layN
  split
  · rename_i h
    rw [h, overB_nil]
  · rfl
theorem layN_kind (N : Nd) (a : Nat) (s : List UInt8) (st : Int) : (layN N a s st).kind = N.kind := by
  unfold layN
  split <;> rfl
theorem layN_links (N : Nd) (a : Nat) (s : List UInt8) (st : Int) : (layN N a s st).links = N.links := by
  unfold layN
  split <;> rfl
theorem updS_at (S : Int → Nd) (n : Int) (N : Nd) : updS S n N n = N := if_pos rfl
theorem updS_two (S : Int → Nd) (n : Int) (N N' : Nd) : updS (updS S n N) n N' = updS S n N' := by
  funext k
  unfold updS
  split <;> rfl
/-- One more piece. -/
theorem layN_next {N : Nd} {a k m : Nat} {s : List UInt8} {st : Int} (ha : a + s.length ≤ N.bytes.length) (hk : k ≤ s.length) (hk2 : k < s.length) (hm : m = min (s.length - k) (256 - (a + k) % 256)) {b : List UInt8} (hb : b = leafOf (overB N.bytes a (s.take k)) ((a + k) / 256) ∨ (m = 256 ∧ b.length = 256)) :
    setN (layN N a (s.take k) st) ((a + k) / 256) (overB b ((a + k) % 256) ((s.drop k).take m)) st = layN N a (s.take (k + m)) st := by
  have hlk : (s.take k).length = k := by rw [List.length_take]; omega
  have hld : (s.drop k).length = s.length - k := List.length_drop
  have hlo : (overB N.bytes a (s.take k)).length = N.bytes.length := overB_length (by omega)
  have h1 := lay_step (bs := overB N.bytes a (s.take k)) (s := s.drop k) (a := a + k) (m := m) (by rw [hld]; exact hm) (by rw [hlo, hld]; omega) hb
  have hne : s.take (k + m) ≠ [] := fun e => by
    have := congrArg List.length e
    rw [List.length_take, List.length_nil] at this
    omega
  have h2 := overB_two (bs := N.bytes) (s := s.take (k + m)) (a := a) (m := k) (by rw [List.length_take]; omega) (by rw [List.length_take]; omega)
  rw [List.take_take, show min k (k + m) = k by omega, List.drop_take, show k + m - k = m by omega] at h2
  have h3 : layN N a (s.take (k + m)) st = { N with bytes := overB N.bytes a (s.take (k + m)), stamp := st } := if_neg hne
  rw [h3, ← h2, ← h1]
  unfold setN
  rw [layN_bytes]
  have h4 := layN_kind N a (s.take k) st
  have h5 := layN_links N a (s.take k) st
  generalize layN N a (s.take k) st = M at h4 h5 ⊢
  obtain ⟨k1, l1, s1, b1⟩ := M
  simp only at h4 h5
  rw [h4, h5]

theorem lay_round {w : World} {x : Nat} {S : Int → Nd} (h : isD Tryz.prog (.st (.ino S)) x w) {n : Int} (hn : 1 ≤ n ∧ n ≤ 4096) (hk : (S n).kind ≠ 0) {a : Nat} {s : ByteArray} (hs : a + s.size ≤ (S n).bytes.length) {st : Int} (hst : 0 ≤ st ∧ st ≤ 18446744073709551615)
    {act : Act} (t0 : act.tmps.getD 0 undef = .pointer (some ⟨x, 0, none⟩)) (t1 : act.tmps.getD 1 undef = .int .i64 n) (t2 : act.tmps.getD 2 undef = .int .i64 a) (t3 : act.tmps.getD 3 undef = .string s) (t4 : act.tmps.getD 4 undef = .int .u64 st) (hN : 67 ≤ act.tmps.size) (Q : Exit → Act → World → Prop)
    (hQ0 : s.size = 0 → ∀ a' w', a'.tmps.size = act.tmps.size → a'.defers = act.defers → isD Tryz.prog (.st (.ino S)) x w' → (∀ k, ownD Tryz.prog x w' k → ownD Tryz.prog x w k ∨ w.heap.size ≤ k) → But (ownD Tryz.prog x w) w w' → Q (.exit 0) a' w')
    (hQ1 : 0 < s.size → ∀ m b, m = min s.size (256 - a % 256) → (b = leafOf (S n).bytes (a / 256) ∨ (m = 256 ∧ b.length = 256)) → ∀ a' w', a'.tmps.size = act.tmps.size → a'.defers = act.defers →
      a'.tmps.getD 0 undef = .pointer (some ⟨x, 0, none⟩) → a'.tmps.getD 1 undef = .int .i64 n → a'.tmps.getD 2 undef = .int .i64 (a + m : Nat) → a'.tmps.getD 3 undef = .string (s.extract m s.size) → a'.tmps.getD 4 undef = .int .u64 st →
      isD Tryz.prog (.st (.ino (updS S n (setN (S n) (a / 256) (overB b (a % 256) (s.data.toList.take m)) st)))) x w' → (∀ k, ownD Tryz.prog x w' k → ownD Tryz.prog x w k ∨ w.heap.size ≤ k) → But (ownD Tryz.prog x w) w w' → Q .normal a' w') :
    layB.wp Tryz.prog Q act w := by
  obtain ⟨ρ, hρ⟩ : ∃ ρ, ρ = rhoI (ofL [.st (.ino S), .i n, .i a, .s s, .i st]) fun _ => undef := ⟨_, rfl⟩
  have hr : HRel (envL [x] ρ) oneM w := by rw [hρ]; exact one_open h _ _
  have hok : isD Tryz.prog (.st (.ino S)) x w := h
  have hsz : (S n).bytes.length ≤ 1048576 := by
    obtain ⟨m, L, hI⟩ := h
    exact (hI.ok n).size
  have h0 : X.val ρ (.va 0) = .st (.ino S) := by rw [hρ]; rfl
  have h1 : X.int ρ (.va 1) = n := by rw [hρ]; rfl
  have h2 : X.int ρ (.va 2) = a := by rw [hρ]; rfl
  have h3 : X.str ρ (.va 3) = s := by rw [hρ]; rfl
  have h4 : X.int ρ (.va 4) = st := by rw [hρ]; rfl
  have hf : ρ.f = FNi := by rw [hρ]; rfl
  have htm : RelT (envL [x] ρ) layS.tm act.tmps := by
    refine RelT.also (d := 4) (x := EV.a (.s (.xi .u64 (.va 4)))) (RelT.also (d := 3) (x := EV.a (.s (.xs (.va 3)))) (RelT.also (d := 2) (x := EV.a (.s (.xi .i64 (.va 2)))) (RelT.also (d := 1) (x := EV.a (.s (.xi .i64 (.va 1)))) (RelT.also (d := 0) (x := EV.a (.s (.ptr 0 0))) RelT.nil ?_) ?_) ?_) ?_) ?_
    · rw [t0]; exact ⟨⟨x, 0, 0⟩, envL_at rfl, rfl⟩
    · rw [t1]; show _ = Value.int .i64 (X.int ρ (.va 1)); rw [h1]
    · rw [t2]; show _ = Value.int .i64 (X.int ρ (.va 2)); rw [h2]
    · rw [t3]; show _ = Value.string (X.str ρ (.va 3)); rw [h3]
    · rw [t4]; show _ = Value.int .u64 (X.int ρ (.va 4)); rw [h4]
  obtain ⟨y, hy, ht, hcode⟩ := ways_code (R := rules0) (ρ := ρ) (rules0_ok _) (fun pc hpc => by rw [hρ] at hpc ⊢; exact sumL_ok hpc) (lay_ev ρ) hr rfl (envL_fresh _ _) htm hN
  have hq : X.int ρ (.bin .quo .i64 (.va 2) (.li 256)) = (a / 256 : Nat) := quo256 h2 (by omega)
  have hrm : X.int ρ (.bin .rem .i64 (.va 2) (.li 256)) = (a % 256 : Nat) := rem256 h2
  have hmn : X.int ρ (.mn (.len (.va 3)) (.bin .sub .i64 (.li 256) (.bin .rem .i64 (.va 2) (.li 256)))) = (min s.size (256 - a % 256) : Nat) := many256 h2 h3
  have hln : X.int ρ (.len (.va 3)) = (s.size : Nat) := by show (((X.str ρ (.va 3)).size : Nat) : Int) = _; rw [h3]
  have hsb : X.int ρ (.bin .sub .i64 (.li 256) (.bin .rem .i64 (.va 2) (.li 256))) = (256 - a % 256 : Nat) := by
    show IntKind.i64.wrap (256 - X.int ρ (.bin .rem .i64 (.va 2) (.li 256))) = _
    rw [hrm, wrap_i (by omega) (by omega)]
    omega
  have hsub : X.str ρ (.sub (.va 3) (.li 0) (.mn (.len (.va 3)) (.bin .sub .i64 (.li 256) (.bin .rem .i64 (.va 2) (.li 256))))) = s.extract 0 (min s.size (256 - a % 256)) := by
    show (X.str ρ (.va 3)).extract 0 (X.int ρ (.mn (.len (.va 3)) (.bin .sub .i64 (.li 256) (.bin .rem .i64 (.va 2) (.li 256))))).toNat = _
    rw [h3, hmn, Int.toNat_natCast]
  have hls : X.int ρ (.len (.sub (.va 3) (.li 0) (.mn (.len (.va 3)) (.bin .sub .i64 (.li 256) (.bin .rem .i64 (.va 2) (.li 256)))))) = (min s.size (256 - a % 256) : Nat) := by
    show (((X.str ρ _).size : Nat) : Int) = _
    rw [hsub]
    have := ba_size (s.extract 0 (min s.size (256 - a % 256)))
    rw [ba_sub, List.drop_zero, List.length_take, ba_size] at this
    omega
  have q57 : X.bool ρ (.app 57 (.va 0)) = true := by rw [hρ]; rfl
  have q902 : X.bool ρ (.app 902 (.va 1)) = true := by
    rw [hρ]
    exact decide_eq_true (show -9223372036854775808 ≤ n ∧ n ≤ 9223372036854775807 by omega)
  have q902q : X.bool ρ (.app 902 (.bin .quo .i64 (.va 2) (.li 256))) = true := by
    show (ρ.f 902 (X.val ρ _)).bool = true
    rw [hf]
    exact decide_eq_true (show -9223372036854775808 ≤ X.int ρ _ ∧ X.int ρ _ ≤ 9223372036854775807 by rw [hq]; omega)
  have q50 : X.int ρ (.app 50 (.cons (.va 0) (.va 1))) = (S n).kind := by rw [hρ]; rfl
  have q59 : X.bool ρ (.app 59 (.va 4)) = true := by
    rw [hρ]
    exact decide_eq_true (show 0 ≤ st ∧ st ≤ 18446744073709551615 by exact hst)
  have q58 : 0 < s.size → X.bool ρ (.app 58 (.cons (.va 0) (.cons (.va 1) (.bin .quo .i64 (.va 2) (.li 256))))) = true := fun hp => by
    show (ρ.f 58 (.p (X.val ρ (.va 0)) (.p (X.val ρ (.va 1)) (X.val ρ _)))).bool = true
    rw [hf, h0]
    refine decide_eq_true (show 0 ≤ X.int ρ (.bin .quo .i64 (.va 2) (.li 256)) ∧ X.int ρ (.bin .quo .i64 (.va 2) (.li 256)) < (leavesN (S (X.int ρ (.va 1))).bytes.length : Nat) from ?_)
    rw [hq, h1]
    have := leavesN_lt.2 (show 256 * (a / 256) < (S n).bytes.length by omega)
    omega
  have fin : ∀ (m : Nat) (b : List UInt8) (bX : X), 0 < s.size → m = min s.size (256 - a % 256) → pad (bX.str ρ) = b → (b = leafOf (S n).bytes (a / 256) ∨ (m = 256 ∧ b.length = 256)) → b.length = 256 → ∀ (E' : Env) (a' : Act) (w' : World) (s' : Ev.S), Goes (envL [x] ρ) layS.h layS.nx w E' s'.h s'.nx w' → RelT E' s'.tm a'.tmps → a'.tmps.size = act.tmps.size → a'.defers = act.defers →
      [some (EV.a (.s (.ptr 0 0))), some (.a (.s (.xi .i64 (.va 1)))), some (.a (.s (.xi .i64 (.bin .add .i64 (.va 2) (.mn (.len (.va 3)) (.bin .sub .i64 (.li 256) (.bin .rem .i64 (.va 2) (.li 256)))))))), some (.a (.s (.xs (.sub (.va 3) (.mn (.len (.va 3)) (.bin .sub .i64 (.li 256) (.bin .rem .i64 (.va 2) (.li 256)))) (.len (.va 3)))))), some (.a (.s (.xi .u64 (.va 4))))] = ([0, 1, 2, 3, 4].map fun t => s'.tm.get t) →
      [some (BV.abs (.app 55 (.cons (.va 0) (.cons (.va 1) (.cons (.bin .quo .i64 (.va 2) (.li 256)) (.cons (.app 63 (.cons bX (.cons (.bin .rem .i64 (.va 2) (.li 256)) (.sub (.va 3) (.li 0) (.mn (.len (.va 3)) (.bin .sub .i64 (.li 256) (.bin .rem .i64 (.va 2) (.li 256)))))))) (.va 4)))))))] = ([0].map fun i => (s'.h.get i).map Blk.view) → Q .normal a' w' := fun m b bX hp hm hbx hb hb6 E' a' w' s' hg htm' hsz' hdf hv1 hv2 => by
    have hρ' : E'.ρ = ρ := hg.ext.ρ
    have m0 : E'.m 0 = some ⟨x, 0, 0⟩ := hg.ext.m _ _ (envL_at rfl)
    have u0 := (List.cons.inj hv1).1.symm
    have r1 := (List.cons.inj hv1).2
    have u1 := (List.cons.inj r1).1.symm
    have r2 := (List.cons.inj r1).2
    have u2 := (List.cons.inj r2).1.symm
    have r3 := (List.cons.inj r2).2
    have u3 := (List.cons.inj r3).1.symm
    have u4 := (List.cons.inj (List.cons.inj r3).2).1.symm
    have hd := one_done (v := ofL [.st (.ino S), .i n, .i a, .s s, .i st]) (o := fun _ => undef) h (by rw [← hρ]; exact hg) (List.cons.inj hv2).1.symm
    rw [← hρ] at hd
    refine hQ1 hp m b hm hb a' w' hsz' hdf ?_ ?_ ?_ ?_ ?_ ?_ hd.2.1 hd.2.2
    · obtain ⟨q0, hq0, e⟩ := slot_of_view htm' u0
      rw [m0] at hq0
      obtain rfl := Option.some.inj hq0
      exact e
    · have e : _ = Value.int .i64 (X.int E'.ρ (.va 1)) := slot_of_view htm' u1
      rw [e, hρ', h1]
    · have e : _ = Value.int .i64 (IntKind.i64.wrap (X.int E'.ρ (.va 2) + X.int E'.ρ (.mn (.len (.va 3)) (.bin .sub .i64 (.li 256) (.bin .rem .i64 (.va 2) (.li 256)))))) := slot_of_view htm' u2
      rw [e, hρ', h2, hmn, wrap_i (by omega) (by omega), hm]
      rfl
    · have e : _ = Value.string ((X.str E'.ρ (.va 3)).extract (X.int E'.ρ (.mn (.len (.va 3)) (.bin .sub .i64 (.li 256) (.bin .rem .i64 (.va 2) (.li 256))))).toNat (X.int E'.ρ (.len (.va 3))).toNat) := slot_of_view htm' u3
      rw [e, hρ', h3, hmn, hln, Int.toNat_natCast, Int.toNat_natCast, hm]
    · have e : _ = Value.int .u64 (X.int E'.ρ (.va 4)) := slot_of_view htm' u4
      rw [e, hρ', h4]
    · have hv : X.val ρ (.app 55 (.cons (.va 0) (.cons (.va 1) (.cons (.bin .quo .i64 (.va 2) (.li 256)) (.cons (.app 63 (.cons bX (.cons (.bin .rem .i64 (.va 2) (.li 256)) (.sub (.va 3) (.li 0) (.mn (.len (.va 3)) (.bin .sub .i64 (.li 256) (.bin .rem .i64 (.va 2) (.li 256)))))))) (.va 4)))))) = .st (.ino (updS S n (setN (S n) (a / 256) (overB b (a % 256) (s.data.toList.take m)) st))) := by
        show ρ.f 55 (.p (X.val ρ (.va 0)) (.p (X.val ρ (.va 1)) (.p (X.val ρ (.bin .quo .i64 (.va 2) (.li 256))) (.p (ρ.f 63 (.p (X.val ρ bX) (.p (X.val ρ (.bin .rem .i64 (.va 2) (.li 256))) (X.val ρ (.sub (.va 3) (.li 0) (.mn (.len (.va 3)) (.bin .sub .i64 (.li 256) (.bin .rem .i64 (.va 2) (.li 256))))))))) (X.val ρ (.va 4)))))) = _
        rw [hf, h0]
        show D.st (.ino (updS S (X.int ρ (.va 1)) (setN (S (X.int ρ (.va 1))) (X.int ρ (.bin .quo .i64 (.va 2) (.li 256))).toNat (pad ⟨(overB (pad (bX.str ρ)) (X.int ρ (.bin .rem .i64 (.va 2) (.li 256))).toNat (X.str ρ (.sub (.va 3) (.li 0) (.mn (.len (.va 3)) (.bin .sub .i64 (.li 256) (.bin .rem .i64 (.va 2) (.li 256)))))).data.toList).toArray⟩) (X.int ρ (.va 4))))) = _
        rw [h1, hq, hrm, hsub, h4, hbx, Int.toNat_natCast, Int.toNat_natCast, ba_sub, List.drop_zero, Nat.sub_zero, ← hm]
        have hlt : (s.data.toList.take m).length = m := by rw [List.length_take, ba_size]; omega
        rw [pad_of (by rw [overB_length (by omega), hb6])]
      have := hd.1
      rw [hv] at this
      exact this
  simp only [layL, List.mem_cons, List.not_mem_nil, or_false] at hy
  have hm0 : ∀ e : X, X.int ρ (.li 0) = 0 ∧ X.int ρ (.li 256) = 256 ∧ X.int ρ (.li 1) = 1 ∧ X.int ρ (.li 4096) = 4096 := fun _ => ⟨rfl, rfl, rfl, rfl⟩
  rcases hy with rfl | rfl | rfl | rfl | rfl | rfl | rfl | rfl | rfl | rfl | rfl | rfl | rfl | rfl | rfl | rfl | rfl | rfl | rfl | rfl | rfl | rfl | rfl | rfl | rfl | rfl | rfl <;> simp only [told_cons, told_nil, eq_true, eq_false, lt_true, lt_false, h1, h2, hq, hrm, hmn, hln, hsb, hls, q57, q902, q902q, q50, q59, li_int, and_true, true_and, reduceCtorEq, false_and, and_false] at ht
  all_goals first
    | omega
    | (have := q58 (by omega); simp only [this, reduceCtorEq, and_true, true_and, false_and, and_false] at ht; done)
    | skip
  · refine hcode _ rfl _ ?_
    intro q hq' E' a' w' s' hg htm' hsz' hdf hv1 hv2
    obtain rfl := List.mem_singleton.1 hq'
    refine fin _ (leafOf (S n).bytes (a / 256)) _ (by omega) rfl ?_ (.inl rfl) (leafOf_length _ _) E' a' w' s' hg htm' hsz' hdf hv1 hv2
    show pad ((ρ.f 54 (.p (X.val ρ (.va 0)) (.p (X.val ρ (.va 1)) (X.val ρ (.bin .quo .i64 (.va 2) (.li 256)))))).str) = _
    rw [hf, h0]
    show pad ⟨(leafOf (S (X.int ρ (.va 1))).bytes (X.int ρ (.bin .quo .i64 (.va 2) (.li 256))).toNat).toArray⟩ = _
    rw [h1, hq, Int.toNat_natCast, pad_of (leafOf_length _ _)]
  · refine hcode _ rfl _ ?_
    intro q hq' E' a' w' s' hg htm' hsz' hdf hv1 hv2
    obtain rfl := List.mem_singleton.1 hq'
    exact fin _ (zeros 256) (.ls zeroB) (by omega) rfl (pad_of (zeros_length 256)) (.inr ⟨by omega, zeros_length 256⟩) (zeros_length 256) E' a' w' s' hg htm' hsz' hdf hv1 hv2
  · refine hcode _ rfl _ ?_
    intro q hq' E' a' w' s' hg htm' hsz' hdf hv1 hv2
    obtain rfl := List.mem_singleton.1 hq'
    have hd := one_done (v := ofL [.st (.ino S), .i n, .i a, .s s, .i st]) (o := fun _ => undef) h (by rw [← hρ]; exact hg) (List.cons.inj hv2).1.symm
    exact hQ0 (by omega) a' w' hsz' hdf hd.1 hd.2.1 hd.2.2

theorem arr67 {t : Array Value} (h : t.size = 67) : ∃ g : Nat → Value, (∀ i, t.getD i undef = g i) ∧ t = (g 0 :: g 1 :: g 2 :: g 3 :: g 4 :: g 5 :: g 6 :: g 7 :: g 8 :: g 9 :: g 10 :: g 11 :: g 12 :: g 13 :: g 14 :: g 15 :: g 16 :: g 17 :: g 18 :: g 19 :: g 20 :: g 21 :: g 22 :: g 23 :: g 24 :: g 25 :: g 26 :: g 27 :: g 28 :: g 29 :: g 30 :: g 31 :: g 32 :: g 33 :: g 34 :: g 35 :: g 36 :: g 37 :: g 38 :: g 39 :: g 40 :: g 41 :: g 42 :: g 43 :: g 44 :: g 45 :: g 46 :: g 47 :: g 48 :: g 49 :: g 50 :: g 51 :: g 52 :: g 53 :: g 54 :: g 55 :: g 56 :: g 57 :: g 58 :: g 59 :: g 60 :: g 61 :: g 62 :: g 63 :: g 64 :: g 65 :: g 66 :: []).toArray := ⟨fun i => t.getD i undef, fun _ => rfl, (tmps_eq h).trans rfl⟩
def strSize : Value → Nat
  | .string s => s.size
  | _ => 0
set_option maxRecDepth 100000 in
set_option maxHeartbeats 4000000 in
/-- lay. -/
theorem lay_any {w : World} {x : Nat} {S : Int → Nd} (h : isD Tryz.prog (.st (.ino S)) x w) {n : Int} (hn : 1 ≤ n ∧ n ≤ 4096) (hk : (S n).kind ≠ 0) {a : Nat} {s : ByteArray} (hs : a + s.size ≤ (S n).bytes.length) {st : Int} (hst : 0 ≤ st ∧ st ≤ 18446744073709551615) :
    Acts Tryz.prog 36 x [.int .i64 n, .int .i64 a, .string s, .int .u64 st] w fun u d => d = .st (.ino (updS S n (layN (S n) a s.data.toList st))) ∧ u = .int .i64 0 := by
  have hl := ba_size s
  unfold Acts
  go_enter Tryz.func36, Tryz.ntmps36
  go_wp2_with fail
  rename_i K hK
  have HK : Aside _ := hK
  clear hK
  refine wp_loop (fun act wr => ∃ k, k ≤ s.size ∧ act.tmps.size = 67 ∧ act.defers = [] ∧ act.tmps.getD 0 undef = .pointer (some ⟨x, 0, none⟩) ∧ act.tmps.getD 1 undef = .int .i64 n ∧ act.tmps.getD 2 undef = .int .i64 (a + k : Nat) ∧ act.tmps.getD 3 undef = .string (s.extract k s.size) ∧ act.tmps.getD 4 undef = .int .u64 st ∧
      isD Tryz.prog (.st (.ino (updS S n (layN (S n) a (s.data.toList.take k) st)))) x wr ∧ (∀ j, ownD Tryz.prog x wr j → ownD Tryz.prog x w j ∨ w.heap.size ≤ j) ∧ But (ownD Tryz.prog x w) w wr)
    (fun act _ => strSize (act.tmps.getD 3 undef)) ⟨0, Nat.zero_le _, rfl, rfl, rfl, rfl, rfl, ?_, rfl, ?_, fun j hj => .inl hj, But.refl _ _⟩ ?_
  · show Value.string s = _
    congr 1
    apply ByteArray.ext
    apply Array.toList_inj.1
    rw [ba_sub, List.drop_zero, Nat.sub_zero, ← hl, List.take_length]
  · have e : updS S n (layN (S n) a (s.data.toList.take 0) st) = S := by
      funext j
      unfold updS layN
      split
      · rename_i e; rw [e, List.take_zero, if_pos rfl]
      · rfl
    rw [e]
    exact h
  rintro act wr ⟨k, hks, hsz, hdf, t0, t1, t2, t3, t4, his, hown, hbut⟩
  have hkl : (s.extract k s.size).data.toList = s.data.toList.drop k := by
    rw [ba_sub, ← hl, List.take_of_length_le]
    rw [List.length_drop]
    exact Nat.le_refl _
  have hks2 : (s.extract k s.size).size = s.size - k := by
    have := ba_size (s.extract k s.size)
    rw [hkl, List.length_drop] at this
    omega
  have hbl : (overB (S n).bytes a (s.data.toList.take k)).length = (S n).bytes.length := overB_length (by rw [List.length_take]; omega)
  refine lay_round (a := a + k) (s := s.extract k s.size) his hn (by rw [updS_at, layN_kind]; exact hk) (by rw [updS_at, layN_bytes, hbl]; omega) hst t0 t1 t2 t3 t4 (by omega) _ (fun h0 a' w' hsz' hdf' h1 h2 h3 => ?_) fun hp m b hm hb a' w' hsz' hdf' u0 u1 u2 u3 u4 h1 h2 h3 => ?_
  · have hke : k = s.size := by omega
    subst hke
    rw [← hl, List.take_length] at h1
    show K a' w'
    refine HK.out _ _ ?_
    obtain ⟨tm4, df4⟩ := a'
    have hdf4 : df4 = [] := hdf'.trans hdf
    subst hdf4
    obtain ⟨g4, hg4, hte4⟩ := arr67 (t := tm4) (hsz'.trans hsz)
    subst hte4
    clear hg4 HK
    go_wp2_with fail
    go_ret
    refine ⟨_, _, rfl, ⟨rfl, rfl⟩, h1, fun j hj => ?_, ?_⟩
    · rcases h2 j hj with h4 | h4
      · exact hown j h4
      · exact .inr (Nat.le_trans hbut.size h4)
    · exact hbut.trans (h3.mono fun j hj ho => (hown j ho).imp id fun h => ⟨h, hj⟩)
  · rw [hks2] at hm hp
    rw [updS_at, layN_bytes] at hb
    rw [updS_two, updS_at, hkl, layN_next (by omega) (by omega) (by omega) (by rw [hl]; exact hm) hb] at h1
    refine And.intro ⟨k + m, by omega, hsz'.trans hsz, hdf'.trans hdf, u0, u1, by rw [u2, Nat.add_assoc], ?_, u4, h1, fun j hj => ?_, ?_⟩ ?_
    · rw [u3]
      congr 1
      apply ByteArray.ext
      apply Array.toList_inj.1
      rw [ba_sub, hkl, hks2, ba_sub, List.drop_drop]
      congr 1
      omega
    · rcases h2 j hj with h4 | h4
      · exact hown j h4
      · exact .inr (Nat.le_trans hbut.size h4)
    · exact hbut.trans (h3.mono fun j hj ho => (hown j ho).imp id fun h => ⟨h, hj⟩)
    · rw [u3, t3]
      show ((s.extract k s.size).extract m (s.extract k s.size).size).size < (s.extract k s.size).size
      have e := ba_size ((s.extract k s.size).extract m (s.extract k s.size).size)
      rw [ba_sub, List.length_take, List.length_drop, hkl, List.length_drop, hl] at e
      simp only [hks2] at e ⊢
      omega
end Go.Proofs.YtcnimekhpnejlaaGreat.Ev

/- block.Join: the first bytes of blocks. -/
namespace Go.Proofs.YtcnimekhpnejlaaGreat.Ev
open Go Go.RowKit
set_option linter.unusedVariables false
set_option linter.unusedSimpArgs false
set_option maxRecDepth 100000

theorem info_u8 : (Tryz.prog.info? 5).map (fun i => (i.zero, i.size, i.bytes)) = some (some (.int .u8 0), 1, 1) := by kernel_rfl
theorem info_blk : (Tryz.prog.info? 116).map (fun i => (i.zero, i.size, i.bytes)) = some (some (elBlk.val (zeros 256)), 256, 256) := by kernel_rfl
theorem slice_hi (g off m : Nat) (hm : m ≤ 256) (W : World) : (Instr.sliceAt 116 (.pointer (some ⟨g, off, none⟩)) none (some (.int .i64 m)) none).run Tryz.prog W = .ok (.slice (some ⟨g, off, none⟩) m 256) W := by
  have hal : Tryz.prog.arrayLen 116 = 256 := by kernel_rfl
  have hu : Tryz.prog.underlying 116 = some (.array (Tryz.prog.arrayLen 116) (Tryz.prog.elem 116)) := by kernel_rfl
  have h1 : (Go.sizeOf (Tryz.prog.elem 116)).run Tryz.prog W = .ok 1 W := by kernel_rfl
  rw [run_sliceAt_array_h W 116 ⟨g, off, none⟩ hu .i64 m (by omega) (by rw [hal]; omega), h1]
  simp only [Result.andThen_ok, slicedAt, hal, Int.toNat_natCast]
  rw [if_neg (by decide)]
  simp [Addr.add]
theorem conv_own {W : World} {B j : Nat} {v : Value} {l : List UInt8} (h : W.ownsRow B 5 1 v j (l.map byteV)) : (convert 93 9 v).run Tryz.prog W = .ok (.string ⟨l.toArray⟩) W := by
  obtain ⟨hl, h⟩ := h
  rw [List.length_map, Nat.mul_one] at hl
  rcases h with ⟨rfl, rfl⟩ | ⟨g, cap, cur, rfl, _, hg, _, _, _, ht⟩
  · have : l = [] := List.eq_nil_of_length_eq_zero hl
    subst this
    exact run_convert_bytes_nil W 93 5 Tryz.underlying93 Tryz.underlying5 0 0 9 Tryz.underlying9
  · have := run_convert_bytes_arg W 93 5 Tryz.underlying93 Tryz.underlying5 g 0 j cap (l.map fun b => (b.toNat : Int)) (by rw [List.length_map]; exact hl) (fun i hi => by
      have hb : (l.map byteV)[i]? = some (byteV (l[i]'(by omega))) := by rw [List.getElem?_map, List.getElem?_eq_getElem (by omega)]; rfl
      rw [← ht, List.getElem?_take_of_lt (by omega), Array.getElem?_toList] at hb
      simp only [World.cell?, hg, Nat.zero_add]
      rw [hb]
      simp [byteV, List.getD_eq_getElem?_getD, List.getElem?_map, List.getElem?_eq_getElem (show i < l.length by omega)]) 9 Tryz.underlying9
    rw [this]
    congr 2
    apply ByteArray.ext
    apply Array.toList_inj.1
    show (strOfNums _).data.toList = l
    rw [strOfNums_data, List.map_map]
    conv => rhs; rw [← List.map_id l]
    exact List.map_congr_left (fun b _ => by simp)

theorem own_shape {W : World} {B j sz : Nat} {e : TypeId} {v : Value} {xs : List Value} (h : W.ownsRow B e sz v j xs) : ∃ A c, v = .slice A j c := by
  rcases h.2 with ⟨rfl, rfl⟩ | ⟨g, cap, cur, rfl, _⟩
  · exact ⟨_, _, rfl⟩
  · exact ⟨_, _, rfl⟩
theorem own_below {w W W' : World} {e : TypeId} {sz j : Nat} {v : Value} {xs : List Value} (h : W.ownsRow w.heap.size e sz v j xs) (hb : Below w.heap.size w W) (hg : W.grownBy W' v.ownBlock) : Below w.heap.size w W' :=
  ⟨hg.os.trans hb.os, hg.tape.trans hb.tape, hg.output.trans hb.output, Nat.le_trans hb.size hg.size, fun k hk => by
    rw [← hb.block k hk]
    refine hg.block k (Nat.lt_of_lt_of_le hk hb.size) fun e => ?_
    have := (h.lt k e.symm).1
    omega⟩
set_option maxHeartbeats 4000000 in
theorem join_any (g k cap n : Nat) (cur : Array Value) (D : List UInt8) (hD : D.length = 256 * k) (hcur : cur.toList.take (256 * k) = D.map byteV) (hn : n ≤ 256 * k) (hk : k ≤ 4097) (w : World) (hg : w.heap[g]? = some (.cells cur 116 (0, 0))) :
    Calls Tryz.prog 64 #[.slice (some ⟨g, 0, none⟩) k cap, .int .i64 n] w fun e w' => e = .returned (.tuple #[.string ⟨(D.take n).toArray⟩, .int .i64 0]) ∧ Below w.heap.size w w' := by
  have hgl : g < w.heap.size := (Array.getElem?_eq_some_iff.1 hg).1
  obtain ⟨iu, hiu, hiu2⟩ := Option.map_eq_some_iff.1 info_u8
  have hz0 : iu.zero = some (.int .u8 0) := congrArg (·.1) hiu2
  have hz1 : iu.size = 1 := congrArg (·.2.1) hiu2
  have hz2 : iu.bytes = 1 := congrArg (·.2.2) hiu2
  have hd0 : decide ((n : Int) < 0) = false := decide_eq_false (by omega)
  have hw : wrap64 ((k : Int) * 256) = k * 256 := by unfold wrap64; omega
  have hd1 : decide ((k : Int) * 256 < (n : Int)) = false := decide_eq_false (by omega)
  go_enter Tryz.func64, Tryz.ntmps64
  go_wp2_with (first
    | (refine wpList_make_own _ rfl (.const (.int .i64 0)) (.tmp 17) 93 rfl w.heap.size 5 iu (.int .u8 0) 1 Tryz.underlying93 hiu hz0 hz1 .i64 .i64 n n rfl rfl rfl (by rw [hz2]; omega) (by show n ≤ maxLen; unfold maxLen; omega) (Nat.le_refl _) ?_; intro w1 hown1 hgr1))
  have hb1 : Below w.heap.size w w1 := ⟨hgr1.os, hgr1.tape, hgr1.output, hgr1.size, fun k hk => hgr1.block k hk (by simp)⟩
  clear hgr1
  go_loopw [6, 21] (fun vo vi wr => ∃ (i j c : Nat) (A : Option Addr), vi = .int .i64 i ∧ vo = .slice A j c ∧ i ≤ k ∧ j = min (256 * i) n ∧ wr.ownsRow w.heap.size 5 1 vo j ((D.take j).map byteV) ∧ Below w.heap.size w wr)
    (fun _ vi _ => k - (intOf vi).toNat)
  case atStart => exact ⟨0, 0, n, _, rfl, rfl, Nat.zero_le _, by omega, hown1, hb1⟩
  case round =>
    clear hown1 hb1
    clear w1
    obtain ⟨i, j, c, A, rfl, rfl, hik, hj, hown, hb⟩ := hrel
    by_cases hlt : i < k
    · have hd2 : decide ((i : Int) < (k : Int)) = true := decide_eq_true (by omega)
      have hw2 : wrap64 ((n : Int) - (j : Int)) = n - j := by unfold wrap64; omega
      have hgr : wr.heap[g]? = some (.cells cur 116 (0, 0)) := (hb.block g hgl).trans hg
      have hlt2 : (i : Int) < (k : Int) := by omega
      have hsl : j ≤ n → n - j ≤ 256 → ∀ W, (Instr.sliceAt 116 (.pointer (some ⟨g, i * 256, none⟩)) none (some (.int .i64 ((n : Int) - (j : Int)))) none).run Tryz.prog W = .ok (.slice (some ⟨g, i * 256, none⟩) (n - j) 256) W := fun h1 h2 W => by
        rw [show ((n : Int) - (j : Int)) = ((n - j : Nat) : Int) by omega]
        exact slice_hi g (i * 256) (n - j) h2 W
      have cell : ∀ m, m ≤ 256 → 256 * i + m ≤ 256 * k → ∀ (q : Nat) u, (((D.drop (256 * i)).take m).map byteV)[q]? = some u → wr.cell? ((⟨g, i * 256, none⟩ : Addr).add q) = some u := fun m h1 h2 q u hu => by
        have hq : q < m := by
          have := (List.getElem?_eq_some_iff.1 hu).1
          rw [List.length_map, List.length_take] at this
          omega
        rw [add_eq]
        simp only [World.cell?, hgr]
        rw [List.getElem?_map, List.getElem?_take_of_lt hq, List.getElem?_drop] at hu
        have h3 : (D.map byteV)[256 * i + q]? = some u := by rw [List.getElem?_map]; exact hu
        rw [← hcur, List.getElem?_take_of_lt (by omega), Array.getElem?_toList] at h3
        rw [← h3, Nat.mul_comm]
        simp
      have one : ∀ m, ∀ u ∈ ((D.drop (256 * i)).take m).map byteV, u.oneCell' = true := fun m u hu => by
        obtain ⟨b, _, rfl⟩ := List.mem_map.1 hu
        rfl
      have len : ∀ m, 256 * i + m ≤ 256 * k → (((D.drop (256 * i)).take m).map byteV).length = m * 1 := fun m hm => by
        rw [List.length_map, List.length_take, List.length_drop, hD]
        omega
      have next : ∀ m, m = min 256 (n - j) → (D.take j).map byteV ++ ((D.drop (256 * i)).take m).map byteV = (D.take (min (256 * (i + 1)) n)).map byteV := fun m hm => by
        rw [← List.map_append]
        congr 1
        by_cases h : 256 * i ≤ n
        · rw [show j = 256 * i by omega, ← List.take_add, show 256 * i + m = min (256 * (i + 1)) n by omega]
        · rw [show m = 0 by omega, List.take_zero, List.append_nil, show j = min (256 * (i + 1)) n by omega]
      have HJ : Hid (j = min (256 * i) n) := hj
      have HC : Aside _ := cell
      have HO : Aside _ := one
      have HL : Aside _ := len
      have HN : Aside _ := next
      have hjn : j ≤ n := by omega
      have base : wr.heap.size ≥ w.heap.size := hb.size
      have HB : Aside _ := hb
      have HOW : Aside _ := hown
      clear hj cell one len next hb hown
      by_cases hx : (n : Int) - (j : Int) < 256
      · have hsl := hsl hjn (by omega)
        have e2 : j + (n - j) = min (256 * (i + 1)) n := by have := HJ.out; omega
        have E2 : Hid _ := e2
        clear e2
        go_wp2_with (at_builtin; refine wpList_append_own _ rfl (.tmp 24) (.tmp 33) 93 rfl w.heap.size 5 iu (.int .u8 0) 1 1 Tryz.underlying93 hiu hz0 hz1 hz2 rfl (by decide) (.slice A j c) j _ rfl HOW.out ⟨g, i * 256, none⟩ (n - j) 256 _ rfl (HL.out (n - j) (by have := HJ.out; omega)) (HC.out (n - j) (by omega) (by have := HJ.out; omega)) (HO.out _) (by show _ ≤ maxLen; unfold maxLen; omega) (by omega) base ?_; intro v2 w2 hown2 hgr2 _)
        case roundEnd =>
          obtain ⟨A2, c2, rfl⟩ := own_shape hown2
          rw [HN.out (n - j) (by omega), ← E2.out] at hown2
          exact ⟨⟨i + 1, _, c2, A2, by push_cast; rfl, rfl, by omega, E2.out, hown2, own_below HOW.out HB.out hgr2⟩, by simp [intOf]; omega⟩
      · have e2 : j + 256 = min (256 * (i + 1)) n := by have := HJ.out; omega
        have E2 : Hid _ := e2
        clear e2 hsl
        go_wp2_with (at_builtin; refine wpList_append_own _ rfl (.tmp 24) (.tmp 33) 93 rfl w.heap.size 5 iu (.int .u8 0) 1 1 Tryz.underlying93 hiu hz0 hz1 hz2 rfl (by decide) (.slice A j c) j _ rfl HOW.out ⟨g, i * 256, none⟩ 256 256 _ rfl (HL.out 256 (by have := HJ.out; omega)) (HC.out 256 (by omega) (by have := HJ.out; omega)) (HO.out _) (by show _ ≤ maxLen; unfold maxLen; omega) (by omega) base ?_; intro v2 w2 hown2 hgr2 _)
        case roundEnd =>
          obtain ⟨A2, c2, rfl⟩ := own_shape hown2
          rw [HN.out 256 (by omega), ← E2.out] at hown2
          exact ⟨⟨i + 1, _, c2, A2, by push_cast; rfl, rfl, by omega, E2.out, hown2, own_below HOW.out HB.out hgr2⟩, by simp [intOf]; omega⟩
    · have hd2 : decide ((i : Int) < (k : Int)) = false := decide_eq_false (by omega)
      have hke : i = k := by omega
      have hjn : j = n := by omega
      subst hjn
      have hcv := conv_own hown
      have HB : Aside _ := hb
      clear hj hown hb
      go_wp2_with fail
      go_ret2
      exact ⟨rfl, HB.out⟩
end Go.Proofs.YtcnimekhpnejlaaGreat.Ev

/- bytes of files: leaves that are joined. -/
namespace Go.Proofs.YtcnimekhpnejlaaGreat.Ev
open Go Go.RowKit
set_option linter.unusedVariables false
set_option linter.unusedSimpArgs false
set_option maxRecDepth 100000

/-- What inodes own is no row of blocks. -/
theorem own_blk {w : World} {x : Nat} {S : Int → Nd} (h : isD Tryz.prog (.st (.ino S)) x w) {k : Nat} (hk : ownD Tryz.prog x w k) {cs : Array Value} {fr : Nat × Nat} : w.heap[k]? ≠ some (.cells cs 116 fr) := fun e => by
  obtain ⟨m, L, hI⟩ := h
  have ht : tagOf w k = 116 + 1 := by unfold tagOf; rw [e]
  rcases (ownD_ino hI k).1 hk with rfl | rfl | ⟨n, t, hn, hk⟩
  · exact ne_tag hI.tag_x ht (by decide) rfl
  · exact ne_tag hI.tag_m ht (by decide) rfl
  · obtain ⟨t1, t2, t3⟩ := hI.tag_t hn
    rcases hk with rfl | rfl | rfl
    · exact ne_tag t1 ht (by decide) rfl
    · exact ne_tag t2 ht (by decide) rfl
    · exact ne_tag t3 ht (by decide) rfl
/-- Inodes that are as they were. -/
structure Keeps (S : Int → Nd) (x : Nat) (w wr : World) : Prop where
  is : isD Tryz.prog (.st (.ino S)) x wr
  own : ∀ k, ownD Tryz.prog x wr k → ownD Tryz.prog x w k ∨ w.heap.size ≤ k
  but : But (ownD Tryz.prog x w) w wr
theorem Keeps.acts {S S' : Int → Nd} {x : Nat} {w wr w2 : World} (h : Keeps S x w wr) (h1 : isD Tryz.prog (.st (.ino S')) x w2) (h2 : ∀ k, ownD Tryz.prog x w2 k → ownD Tryz.prog x wr k ∨ wr.heap.size ≤ k) (h3 : But (ownD Tryz.prog x wr) wr w2) : Keeps S' x w w2 :=
  ⟨h1, fun j hj => by
    rcases h2 j hj with h4 | h4
    · exact h.own j h4
    · exact .inr (Nat.le_trans h.but.size h4), h.but.trans (h3.mono fun j hj ho => (h.own j ho).imp id fun h => ⟨h, hj⟩)⟩
theorem Keeps.same {S : Int → Nd} {x : Nat} {w wr w2 : World} (h : Keeps S x w wr) (hs : ∀ k, ownD Tryz.prog x wr k → w2.heap[k]? = wr.heap[k]?) (hb : But (fun k => w.heap.size ≤ k) wr w2) : Keeps S x w w2 := by
  have h2 := isD_keep h.is hs
  refine ⟨h2.1, fun k hk => h.own k ((h2.2 k).1 hk), hb.os.trans h.but.os, hb.tape.trans h.but.tape, hb.output.trans h.but.output, Nat.le_trans h.but.size hb.size, fun k hk hn => ?_⟩
  rw [← h.but.block k hk hn]
  exact hb.block k (Nat.lt_of_lt_of_le hk h.but.size) (by omega)
theorem Keeps.below {S : Int → Nd} {x : Nat} {w wr w2 : World} (h : Keeps S x w wr) (hb : Below wr.heap.size wr w2) : Keeps S x w w2 :=
  h.same (fun k hk => hb.block k (ownD_lt hk)) (.new hb)

theorem lit_blk {C : Array Value} (hC : C.size = 256) (W : World) : (Instr.buildSlice 120 1 #[(0, .agg C)]).run Tryz.prog W = .ok (.slice (some ⟨W.heap.size, 0, none⟩) 1 1) (W.alloc (.cells C 116)) := by
  obtain ⟨ib, hib, hib2⟩ := Option.map_eq_some_iff.1 info_blk
  have hz0 : ib.zero = some (elBlk.val (zeros 256)) := congrArg (·.1) hib2
  have hz1 : ib.size = 256 := congrArg (·.2.1) hib2
  refine run_buildSlice W 120 116 1 _ C ib _ Tryz.underlying120 hib hz0 (by rw [hz1]; decide) (by rw [hz1]; decide) ?_
  rw [hz1]
  have h := Go.Great.fill_whole (s := 256) (by decide) [Value.agg C] ((Array.range (1 * 256)).map ((elBlk.val (zeros 256)).cells[· % (elBlk.val (zeros 256)).cells.size]!)) (fun v hv => by
    obtain rfl := List.mem_singleton.1 hv
    exact hC) (by simp)
  have e : ([Value.agg C].flatMap fun v => v.cells.toList).toArray = C := by simp [Value.cells]
  rw [e] at h
  exact h
theorem wp_lit {o : Oper} {a : Act} {w : World} {K : Act → World → Prop} {Q : Exit → Act → World → Prop} {C : Array Value} (hC : C.size = 256) (x : Operand) (ho : o.op = .buildSlice 120 1 #[(0, x)]) (hx : a.eval x = .agg C)
    (h : K (a.put o.dst (.slice (some ⟨w.heap.size, 0, none⟩) 1 1)) (w.alloc (.cells C 116))) : o.wp Tryz.prog a w K Q := by
  unfold Oper.wp execOp
  have e : (#[(0, x)].map fun (i, x) => (i, a.eval x)) = #[(0, Value.agg C)] := by simp [hx]
  simp only [ho, Sem.run_bind, e, lit_blk hC w, Result.andThen_ok]
  exact h
set_option maxHeartbeats 4000000 in
/-- bytes. -/
theorem bytes_any {w : World} {x : Nat} {S : Int → Nd} (h : isD Tryz.prog (.st (.ino S)) x w) {n : Int} (hn : 1 ≤ n ∧ n ≤ 4096) (hk : (S n).kind ≠ 0) {a b : Int} (ha : 0 ≤ a) (hb : b ≤ 1048576) :
    Acts Tryz.prog 37 x [.int .i64 n, .int .i64 a, .int .i64 b] w fun u d => d = .st (.ino S) ∧ u = .tuple #[.string ⟨(rdB (S n).bytes a.toNat b.toNat).toArray⟩, .int .i64 0] := by
  have hsz : (S n).bytes.length ≤ 1048576 := by
    obtain ⟨m, L, hI⟩ := h
    exact (hI.ok n).size
  unfold Acts
  by_cases hab : b ≤ a
  · have hd : decide (b ≤ a) = true := decide_eq_true hab
    rw [rdB_none (show b.toNat ≤ a.toNat by omega)]
    go_enter Tryz.func37, Tryz.ntmps37
    go_wp2_with fail
    go_ret2
    exact ⟨_, _, rfl, ⟨rfl, rfl⟩, h, fun k hk => .inl hk, But.refl _ _⟩
  obtain ⟨a, rfl⟩ : ∃ a' : Nat, a = a' := ⟨a.toNat, by omega⟩
  obtain ⟨b, rfl⟩ : ∃ b' : Nat, b = b' := ⟨b.toNat, by omega⟩
  have hab : a < b := by omega
  have hd : decide ((b : Int) ≤ (a : Int)) = false := decide_eq_false (by omega)
  have hq : ((a : Int)).tdiv 256 = (a / 256 : Nat) := by rw [Int.tdiv_eq_ediv_of_nonneg (by omega)]; omega
  have hwq : wrap64 ((a / 256 : Nat) : Int) = (a / 256 : Nat) := by unfold wrap64; omega
  obtain ⟨f, hf⟩ : ∃ f, a / 256 = f := ⟨_, rfl⟩
  rw [hf] at hq hwq
  rw [Int.toNat_natCast, Int.toNat_natCast]
  obtain ⟨ib, hib, hib2⟩ := Option.map_eq_some_iff.1 info_blk
  have hz0 : ib.zero = some (elBlk.val (zeros 256)) := congrArg (·.1) hib2
  have hz1 : ib.size = 256 := congrArg (·.2.1) hib2
  have hz2 : ib.bytes = 256 := congrArg (·.2.2) hib2
  go_enter Tryz.func37, Tryz.ntmps37
  go_wp2_with fail
  have hLeaf : ∀ (p : Nat), p < 4096 → ∀ wr, Keeps S x w wr → Calls Tryz.prog 52 #[.pointer (some ⟨x, 0, none⟩), .int .i64 n, .int .i64 p] wr fun e w2 => e = .returned (.tuple #[.agg (cellsB (leafOf (S n).bytes p)), .int .i64 0]) ∧ Keeps S x w w2 ∧ But (ownD Tryz.prog x wr) wr w2 := fun p hp wr hK => by
    refine Calls.mono (ino_leaf hK.is (n := n) (p := p) (by unfold i64; omega) (by unfold i64; omega)) ?_
    rintro e w2 ⟨u, d, rfl, ⟨rfl, rfl⟩, h1, h2, h3⟩
    refine ⟨?_, hK.acts h1 h2 h3, h3⟩
    unfold leafV
    rw [if_neg (by omega), if_neg (by omega), if_neg hk, Int.toNat_natCast]
    rfl
  have HLf : Aside _ := hLeaf
  clear hLeaf
  have hz : ∀ w, (zeroValue 116).run Tryz.prog w = .ok (.agg (cellsB (zeros 256))) w := fun w => zero_blk w
  have hZs : (cellsB (zeros 256)).size = 256 := cellsB_size _
  generalize cellsB (zeros 256) = Z at *
  go_loopw [10, 12] (fun vl vp wr => ∃ (q c : Nat) (A : Option Addr), vp = .int .i64 (f + q : Nat) ∧ vl = .slice A q c ∧ 256 * (f + q) < b + 256 ∧ wr.ownsRow w.heap.size 116 256 vl q ((leavesCat (S n).bytes f q).map byteV) ∧ Keeps S x w wr)
    (fun _ vp _ => 4097 - (intOf vp).toNat)
  case atStart => exact ⟨0, 0, none, rfl, rfl, by omega, World.ownsRow_nil _ _ _ _, ⟨h, fun k hk => .inl hk, But.refl _ _⟩⟩
  case round =>
    obtain ⟨q, c, A, rfl, rfl, hqb, hown, hK⟩ := hrel
    have hmul : wrap64 ((f + q : Nat) * (256 : Int)) = ((f + q) * 256 : Nat) := by unfold wrap64; omega
    by_cases hlt : 256 * (f + q) < b
    · have hd2 : decide ((((f + q) * 256 : Nat) : Int) < (b : Int)) = true := decide_eq_true (by omega)
      have hC1 := cellsB_one (leafOf (S n).bytes (f + q))
      have hCs : (cellsB (leafOf (S n).bytes (f + q))).size = 256 := (cellsB_size _).trans (leafOf_length _ _)
      have hcall := HLf.out (f + q) (by omega) wr hK
      have hCl : Hid ((cellsB (leafOf (S n).bytes (f + q))).toList = (leafOf (S n).bytes (f + q)).map byteV) := by unfold cellsB; rfl
      generalize cellsB (leafOf (S n).bytes (f + q)) = C at *
      have hkeep : ∀ w2 : World, ∃ wS, (storeCells ⟨w2.heap.size, 0, none⟩ C.toList).run Tryz.prog (w2.alloc (Obj.cells Z 116)) = .ok () wS ∧ wS.heap[w2.heap.size]? = some (.cells C 116 (0, 0)) ∧ Below w2.heap.size w2 wS := fun w2 => by
        have hg0 : (w2.alloc (Obj.cells Z 116)).heap[w2.heap.size]? = some (.cells Z 116 (0, 0)) := alloc_new w2 _
        exact ⟨_, store_blk w2.heap.size Z C _ hg0 (by omega) hC1, setRow_heap _ _ Z C 116 (0, 0) hg0, below_setRow ((Below.refl _ _).alloc (Nat.le_refl _) _) (Nat.le_refl _) _⟩
      have HC : Aside _ := hcall
      have HKp : Aside _ := hkeep
      have HOW : Aside _ := hown
      clear hcall hkeep hown
      go_wp2_with (go_at_call 52; refine Calls.mono HC.out ?_; rintro e w2 ⟨rfl, hK2, hB2⟩; obtain ⟨wS, hst, hgS, hbS⟩ := HKp.out w2)
      have HST : Aside _ := hst
      refine wp_load_row 116 _ rfl w2.heap.size rfl 116 C (0, 0) _ hgS Tryz.underlying116 rfl (by rw [hCs]; exact iblk) ?_
      go_wp2_with fail
      refine wp_lit hCs (.tmp 40) rfl rfl ?_
      go_wp2_with fail
      have HOS : Aside (wS.ownsRow w.heap.size 116 256 (.slice A q c) q ((leavesCat (S n).bytes f q).map byteV)) := by
        obtain ⟨hxl, hrow⟩ := HOW.out
        refine ⟨hxl, ?_⟩
        rcases hrow with h1 | ⟨g, cap, cur, hv, hg0, hg, r⟩
        · exact .inl h1
        · refine .inr ⟨g, cap, cur, hv, hg0, ?_, r⟩
          have hgl : g < wr.heap.size := (Array.getElem?_eq_some_iff.1 hg).1
          rw [hbS.block g (Nat.lt_of_lt_of_le hgl hB2.size), hB2.block g hgl fun ho => own_blk hK.is ho hg]
          exact hg
      have HKS : Aside (Keeps S x w wS) := hK2.below hbS
      have hbase : w.heap.size ≤ wS.heap.size := HKS.out.but.size
      have hnews : ∀ (j : Nat) u, ((leafOf (S n).bytes (f + q)).map byteV)[j]? = some u → (wS.alloc (Obj.cells C 116)).cell? ((⟨wS.heap.size, 0, none⟩ : Addr).add j) = some u := fun j u hu => by
        have h0 : (wS.alloc (Obj.cells C 116)).heap[wS.heap.size]? = some (.cells C 116 (0, 0)) := alloc_new wS _
        rw [add_eq, Nat.zero_add]
        simp only [World.cell?, h0]
        rw [← Array.getElem?_toList, hCl.out]
        simpa using hu
      refine wp_append_own _ (.tmp 39) (.tmp 41) 120 rfl w.heap.size 116 ib (elBlk.val (zeros 256)) 256 256 Tryz.underlying120 hib hz0 hz1 hz2 (cellsB_size (zeros 256)) (by decide) (.slice A q c) q _ (by rfl) (HOS.out.alloc _) ⟨wS.heap.size, 0, none⟩ 1 1 ((leafOf (S n).bytes (f + q)).map byteV) (by rfl) (by rw [List.length_map, leafOf_length]) hnews (fun u hu => by obtain ⟨b, _, rfl⟩ := List.mem_map.1 hu; rfl) (by show _ ≤ maxLen; unfold maxLen; omega) (by omega) (by simp; omega) ?_
      intro v5 w5 hown5 hgr5 _
      go_wp2_with fail
      obtain ⟨A2, c2, rfl⟩ := own_shape hown5
      rw [← List.map_append] at hown5
      have hal : ∀ k, k < wS.heap.size → (wS.alloc (Obj.cells C 116)).heap[k]? = wS.heap[k]? := fun k hk => Below.heap_alloc _ _ _ hk
      have hro : ∀ k, (Value.slice A q c).ownBlock = some k → w.heap.size ≤ k ∧ ∃ cs, wS.heap[k]? = some (.cells cs 116 (0, 0)) := fun k hk => by
        refine ⟨(HOS.out.lt k hk).1, ?_⟩
        obtain ⟨_, hrow⟩ := HOS.out
        rcases hrow with ⟨hv, _⟩ | ⟨g, cap, cur, hv, _, hg, _⟩
        · rw [hv] at hk; cases hk
        · rw [hv] at hk
          obtain rfl := Option.some.inj hk
          exact ⟨cur, hg⟩
      refine ⟨⟨q + 1, c2, A2, by congr 1, rfl, by omega, hown5, HKS.out.same (fun k hk2 => ?_) ⟨hgr5.os, hgr5.tape, hgr5.output, Nat.le_trans (by simp) hgr5.size, fun k hk2 hk3 => ?_⟩⟩, by simp [intOf]; omega⟩
      · have hkl := ownD_lt hk2
        rw [hgr5.block k (by simp; omega) fun e => ?_]
        · exact hal k hkl
        · obtain ⟨_, cs, hcs⟩ := hro k e.symm
          exact own_blk HKS.out.is hk2 hcs
      · rw [hgr5.block k (by simp; omega) fun e => ?_]
        · exact hal k hk2
        · exact hk3 (hro k e.symm).1
    · have hd2 : decide ((((f + q) * 256 : Nat) : Int) < (b : Int)) = false := decide_eq_false (by omega)
      obtain ⟨hxl, hrow⟩ := hown
      rcases hrow with ⟨_, hq0⟩ | ⟨g, cap, cur, hv, hg0, hg, hqc, _, _, hcur⟩
      · omega
      obtain ⟨rfl, rfl⟩ : A = some ⟨g, 0, none⟩ ∧ c = cap := by
        simp only [Value.slice.injEq] at hv
        exact ⟨hv.1, hv.2.2⟩
      clear hv
      have hDl := leavesCat_length (S n).bytes f q
      have hjoin := join_any g q c (b - 256 * f) cur (leavesCat (S n).bytes f q) hDl (by rw [Nat.mul_comm]; exact hcur) (by omega) (by omega) wr hg
      have hrd := leavesCat_rd (bs := (S n).bytes) (a := a) (b := b) (k := q) (by rw [hf]; omega)
      rw [hf] at hrd
      rw [show (((b - 256 * f : Nat)) : Int) = (b : Int) - (f : Int) * 256 by omega] at hjoin
      have HJ : Aside _ := hjoin
      clear hjoin
      have hlenS : ((leavesCat (S n).bytes f q).take (b - 256 * f)).length = b - 256 * f := by rw [List.length_take, hDl]; omega
      have HR : Hid _ := hrd
      have HL : Hid _ := hlenS
      have HK : Aside _ := hK
      clear hrd hlenS hcur hg hxl hDl hK
      generalize (leavesCat (S n).bytes f q).take (b - 256 * f) = T at *
      obtain ⟨tx, htx⟩ : ∃ tx : ByteArray, tx = ⟨T.toArray⟩ := ⟨_, rfl⟩
      rw [← htx] at HJ
      have hts : tx.size = b - 256 * f := by rw [htx]; show T.toArray.size = _; rw [List.size_toArray]; exact HL.out
      have hle : (a : Int) - (f : Int) * 256 ≤ (tx.size : Int) := by omega
      have hge : (0 : Int) ≤ (a : Int) - (f : Int) * 256 := by omega
      have htx2 : Hid (tx = ⟨T.toArray⟩) := htx
      clear htx
      go_wp2_with (go_at_call 64; refine Calls.mono HJ.out ?_; rintro e w2 ⟨rfl, hB2⟩)
      go_ret2
      have hK2 := HK.out.below hB2
      refine ⟨_, _, rfl, ⟨rfl, ?_⟩, hK2.is, hK2.own, hK2.but⟩
      have e1 : tx.extract (a - f * 256) (b - 256 * f) = ⟨(rdB (S n).bytes a b).toArray⟩ := by
        apply ByteArray.ext
        apply Array.toList_inj.1
        have h3 := HR.out
        have h4 : tx.data.toList = T := by rw [htx2.out]
        rw [ba_sub, h4, Nat.mul_comm f 256, h3, List.take_of_length_le]
        have h5 := congrArg List.length h3
        rw [List.length_drop, HL.out] at h5
        omega
      rw [← e1]
      rfl
end Go.Proofs.YtcnimekhpnejlaaGreat.Ev

/- The rules of lay and bytes of files hold. -/
namespace Go.Proofs.YtcnimekhpnejlaaGreat.Ev
open Go Go.RowKit
set_option linter.unusedVariables false
set_option linter.unusedSimpArgs false
set_option maxRecDepth 10000
theorem rFile_lay {v : Nat → D} {o : Nat → Value} {pc : List (X × Bool)} (hpc : Told (rhoI v o) pc) {e : X} {args : List EV} {r : EV × X} (h : rFile pc 36 e args = some r) : AOk Tryz.prog (rhoI v o) 36 e args r.1 r.2 := by
  intro E hρ a w vs his hargs
  unfold rFile at h
  split at h
  · rename_i h57
    obtain ⟨S, he⟩ := told57 hpc h57
    have his2 : isD Tryz.prog (e.val (rhoI v o)) a w := his
    rw [he] at his2
    rw [if_pos rfl] at h
    split at h
    · rename_i y z u t
      obtain ⟨⟨k, n⟩, hn, h⟩ := Option.bind_eq_some_iff.1 h
      obtain ⟨⟨k2, p⟩, hp, h⟩ := Option.bind_eq_some_iff.1 h
      obtain ⟨s, hs, h⟩ := Option.bind_eq_some_iff.1 h
      obtain ⟨⟨k3, st⟩, hst, h⟩ := Option.bind_eq_some_iff.1 h
      split at h
      · rename_i hk
        obtain ⟨hk, hk2, hk3, hu64, c1, c4, c5⟩ := hk
        have hk : k = .i64 := hk
        have hk2 : k2 = .i64 := hk2
        have hk3 : k3 = .u64 := hk3
        subst hk
        subst hk2
        subst hk3
        obtain rfl := Option.some.inj h
        have c1 := of_decide_eq_true (rNum_ok hpc c1).symm
        have c4 : (0 : Int) = if (S (n.int (rhoI v o))).kind = 0 then 151 else 0 := rUsed_ok hpc he c4
        have ck : (S (n.int (rhoI v o))).kind ≠ 0 := fun e2 => by rw [if_pos e2] at c4; cases c4
        have c5 : (FNi 62 (.p (e.val (rhoI v o)) (.p (n.val (rhoI v o)) (.p (p.val (rhoI v o)) (s.val (rhoI v o)))))).bool = true := truL_ok hpc c5
        rw [he] at c5
        have c5 : decide (0 ≤ p.int (rhoI v o) ∧ p.int (rhoI v o) + ((s.str (rhoI v o)).size : Nat) ≤ ((S (n.int (rhoI v o))).bytes.length : Nat)) = true := c5
        have c5 := of_decide_eq_true c5
        match vs, hargs with
        | [u, u2, u3, u4], hargs =>
          have hu : u = .int .i64 (n.int (rhoI v o)) := by rw [← hρ]; exact asI_rel hn hargs.1
          have hu2 : u2 = .int .i64 (p.int (rhoI v o)) := by rw [← hρ]; exact asI_rel hp hargs.2.1
          have hu3 : u3 = .string (s.str (rhoI v o)) := by rw [← hρ]; exact asS_rel hs hargs.2.2.1
          have hu4 : u4 = .int .u64 (st.int (rhoI v o)) := by rw [← hρ]; exact asI_rel hst hargs.2.2.2.1
          subst hu
          subst hu2
          subst hu3
          subst hu4
          have hlay := lay_any his2 (n := n.int (rhoI v o)) (a := (p.int (rhoI v o)).toNat) c1 ck (s := s.str (rhoI v o)) (by omega) (st := st.int (rhoI v o)) (inU64_oki hpc hu64)
          rw [Int.toNat_of_nonneg c5.1] at hlay
          refine acts_aoi hlay fun u d ⟨hd, hu⟩ => ?_
          subst hd
          subst hu
          refine ⟨rfl, ?_⟩
          show _ = FNi 60 (.p (e.val (rhoI v o)) (.p (n.val (rhoI v o)) (.p (p.val (rhoI v o)) (.p (s.val (rhoI v o)) (st.val (rhoI v o))))))
          rw [he]
          rfl
      · cases h
    · cases h
  · cases h
theorem rFile_bytes {v : Nat → D} {o : Nat → Value} {pc : List (X × Bool)} (hpc : Told (rhoI v o) pc) {e : X} {args : List EV} {r : EV × X} (h : rFile pc 37 e args = some r) : AOk Tryz.prog (rhoI v o) 37 e args r.1 r.2 := by
  intro E hρ a w vs his hargs
  unfold rFile at h
  split at h
  · rename_i h57
    obtain ⟨S, he⟩ := told57 hpc h57
    have his2 : isD Tryz.prog (e.val (rhoI v o)) a w := his
    rw [he] at his2
    rw [if_neg (by decide), if_pos rfl] at h
    split at h
    · rename_i y z u
      obtain ⟨⟨k, n⟩, hn, h⟩ := Option.bind_eq_some_iff.1 h
      obtain ⟨⟨k2, p⟩, hp, h⟩ := Option.bind_eq_some_iff.1 h
      obtain ⟨⟨k3, q⟩, hq, h⟩ := Option.bind_eq_some_iff.1 h
      split at h
      · rename_i hk
        obtain ⟨hk, hk2, hk3, c1, c4, c5, c6⟩ := hk
        have hk : k = .i64 := hk
        have hk2 : k2 = .i64 := hk2
        have hk3 : k3 = .i64 := hk3
        subst hk
        subst hk2
        subst hk3
        obtain rfl := Option.some.inj h
        have c1 := of_decide_eq_true (rNum_ok hpc c1).symm
        have c4 : (0 : Int) = if (S (n.int (rhoI v o))).kind = 0 then 151 else 0 := rUsed_ok hpc he c4
        have ck : (S (n.int (rhoI v o))).kind ≠ 0 := fun e2 => by rw [if_pos e2] at c4; cases c4
        have c5 : decide (p.int (rhoI v o) < 0) = false := truL_ok hpc c5
        have c6 : decide (1048576 < q.int (rhoI v o)) = false := truL_ok hpc c6
        have c5 := of_decide_eq_false c5
        have c6 := of_decide_eq_false c6
        match vs, hargs with
        | [u, u2, u3], hargs =>
          have hu : u = .int .i64 (n.int (rhoI v o)) := by rw [← hρ]; exact asI_rel hn hargs.1
          have hu2 : u2 = .int .i64 (p.int (rhoI v o)) := by rw [← hρ]; exact asI_rel hp hargs.2.1
          have hu3 : u3 = .int .i64 (q.int (rhoI v o)) := by rw [← hρ]; exact asI_rel hq hargs.2.2.1
          subst hu
          subst hu2
          subst hu3
          refine acts_aoi (bytes_any his2 (n := n.int (rhoI v o)) c1 ck (a := p.int (rhoI v o)) (b := q.int (rhoI v o)) (by omega) (by omega)) fun u d ⟨hd, hu⟩ => ?_
          subst hd
          subst hu
          refine ⟨tup2_mk ?_ rfl, he.symm⟩
          show _ = Value.string ((E.ρ.f 61 (.p (e.val E.ρ) (.p (n.val E.ρ) (.p (p.val E.ρ) (q.val E.ρ))))).str)
          rw [hρ, he]
          rfl
      · cases h
    · cases h
  · cases h
theorem rFile_ok {v : Nat → D} {o : Nat → Value} {pc : List (X × Bool)} (hpc : Told (rhoI v o) pc) : ∀ g e args r, rFile pc g e args = some r → AOk Tryz.prog (rhoI v o) g e args r.1 r.2 := by
  intro g e args r h
  by_cases h1 : g = 36
  · subst h1; exact rFile_lay hpc h
  by_cases h2 : g = 37
  · subst h2; exact rFile_bytes hpc h
  exfalso
  unfold rFile at h
  split at h
  · first
      | (cases h; done)
      | (rw [if_neg h1, if_neg h2] at h; cases h)
  · cases h
theorem sumFi_ok {v : Nat → D} {o : Nat → Value} {pc : List (X × Bool)} (hpc : Told (rhoI v o) pc) {R : Rules} : CallOk (ctx R (rhoI v o) pc) (sumFi pc) := sumOr_ok (sumA_ok (rIno_ok hpc)) (sumA_ok (rFile_ok hpc))
end Go.Proofs.YtcnimekhpnejlaaGreat.Ev

/- Inodes: Clone, walked. -/
namespace Go.Proofs.YtcnimekhpnejlaaGreat.Ev
open Go Go.RowKit
set_option linter.unusedVariables false
set_option linter.unusedSimpArgs false
set_option maxRecDepth 100000

/-- A round of Clone. -/
theorem clo_round {w wr : World} {x m y my : Nat} {S : Int → Nd} {L Lx Ly : LL} {left : Int → Bool} (h : Clos w x m S L y my wr Lx Ly left) {n : Int} {t : Nat × Nat × Nat} (ht : Lx n = some t) (hl : left n = true) {r : Nat} {a : Act} (s3 : a.tmps.getD 3 undef = .pointer (some ⟨y, 0, none⟩)) (s4 : a.tmps.getD 4 undef = .int .i64 n)
    (s5 : a.tmps.getD 5 undef = .pointer (some ⟨t.1, 0, none⟩)) (s17 : a.tmps.getD 17 undef = .pointer (some ⟨r, 0, none⟩)) (hN : 37 ≤ a.tmps.size) (Q : Exit → Act → World → Prop)
    (hQ : ∀ a4 w4 Lx' Ly', a4.tmps.size = a.tmps.size → a4.defers = a.defers → a4.tmps.getD 3 undef = .pointer (some ⟨y, 0, none⟩) → a4.tmps.getD 17 undef = .pointer (some ⟨r, 0, none⟩) → Clos w x m S L y my w4 Lx' Ly' (fun k => left k && decide (k ≠ n)) →
      (∀ k, k < wr.heap.size → ¬ ownBlk x m Lx k → ¬ ownBlk y my Ly k → ¬ ownBlk x m Lx' k ∧ ¬ ownBlk y my Ly' k) → (∀ k, k < wr.heap.size → k = m ∨ (¬ ownBlk x m Lx k ∧ ¬ ownBlk y my Ly k) → w4.heap[k]? = wr.heap[k]?) → Q .normal a4 w4) :
    cloC.wp Tryz.prog Q a wr := by
  obtain ⟨c, hc, hr⟩ := clo_open h ht (.pointer (some ⟨r, 0, none⟩))
  have htm : RelT (envL [my, y, t.1, t.2.1] (rhoV (ofL (inoV (fun k => (Ly k).map (·.1)) n (S n) [])) (cloO c (.pointer (some ⟨r, 0, none⟩))))) cloS.tm a.tmps := by
    refine RelT.also (d := 17) (x := EV.a (.s (.op 1))) (RelT.also (d := 5) (x := EV.a (.s (.ptr 2 0))) (RelT.also (d := 4) (x := EV.a (.s (.xi .i64 (.va 1)))) (RelT.also (d := 3) (x := EV.a (.s (.ptr 1 0))) RelT.nil ?_) ?_) ?_) ?_
    · rw [s3]
      exact ⟨⟨y, 0, 0⟩, envL_at rfl, rfl⟩
    · rw [s4]
      exact (rfl : Value.int .i64 n = _)
    · rw [s5]
      exact ⟨⟨t.1, 0, 0⟩, envL_at rfl, rfl⟩
    · rw [s17]
      exact (⟨rfl, rfl⟩ : _ ∧ _)
  obtain ⟨z0, hz0, htz, hcode⟩ := ways_code (rules_ok (base_ok _ _)) (fun pc hpc => sumH_ok hpc) (clo_ev _) hr rfl (envL_fresh _ _) htm hN
  have hn := h.xs.num n t ht
  obtain ⟨ρ, hρ⟩ : ∃ ρ, ρ = rhoV (ofL (inoV (fun k => (Ly k).map (·.1)) n (S n) [])) (cloO c (.pointer (some ⟨r, 0, none⟩))) := ⟨_, rfl⟩
  rw [← hρ] at htz
  have h1 : X.int ρ (.va 1) = n := by rw [hρ]; rfl
  have h36 : X.bool ρ (.app 36 (.va 2)) = true := by rw [hρ]; rfl
  simp only [cloL, List.mem_cons, List.not_mem_nil, or_false] at hz0
  rcases hz0 with rfl | rfl | rfl | rfl <;> simp only [told_cons, told_nil, lt_true, lt_false, h1, h36, li_int, and_true, true_and, reduceCtorEq, false_and, and_false] at htz
  · omega
  · omega
  · refine hcode _ rfl _ ?_
    clear hcode
    intro q hq E' a4 w4 s4 hg htm4 hsz hdf hv1 hv2
    obtain rfl := List.mem_singleton.1 hq
    have t3 := (List.cons.inj hv1).1.symm
    have t17 := (List.cons.inj (List.cons.inj hv1).2).1.symm
    have v0 := (List.cons.inj hv2).1.symm
    have r1 := (List.cons.inj hv2).2
    have v1 := (List.cons.inj r1).1.symm
    have r2 := (List.cons.inj r1).2
    have v2 := (List.cons.inj r2).1.symm
    have r3 := (List.cons.inj r2).2
    have v3 := (List.cons.inj r3).1.symm
    have r4 := (List.cons.inj r3).2
    have v4 := (List.cons.inj r4).1.symm
    have v5 := (List.cons.inj (List.cons.inj r4).2).1.symm
    obtain ⟨⟨Lx', Ly', hC, hno⟩, hfr, hs⟩ := clo_step h ht hl hc hg v0 v1 v2 v3 v4 v5
    refine hQ a4 w4 Lx' Ly' hsz hdf ?_ ?_ hC hno hfr
    · obtain ⟨q0, hq0, e⟩ := slot_of_view htm4 t3
      have m1 : E'.m 1 = some ⟨y, 0, 0⟩ := hg.ext.m _ _ (envL_at rfl)
      rw [m1] at hq0
      obtain rfl := Option.some.inj hq0
      exact e
    · obtain ⟨e, _⟩ := slot_of_view htm4 t17
      have hρ' : E'.ρ = _ := hg.ext.ρ
      rw [e, hρ']
      rfl

set_option maxHeartbeats 4000000 in
theorem ino_clone {w : World} {x : Nat} {S : Int → Nd} (hx : isD Tryz.prog (.st (.ino S)) x w) : Calls Tryz.prog 19 #[.pointer (some ⟨x, 0, none⟩)] w fun en w' => ∃ a, en = .returned (.pointer (some ⟨a, 0, none⟩)) ∧ isD Tryz.prog (.st (.ino S)) x w' ∧ (∀ k, ownD Tryz.prog x w' k → ownD Tryz.prog x w k ∨ w.heap.size ≤ k) ∧
    isD Tryz.prog (.st (.ino S)) a w' ∧ w.heap.size ≤ a ∧ (∀ k, ownD Tryz.prog a w' k → (ownD Tryz.prog x w k ∨ w.heap.size ≤ k) ∧ ¬ ownD Tryz.prog x w' k) ∧ But (ownD Tryz.prog x w) w w' := by
  obtain ⟨m, L, h⟩ := hx
  obtain ⟨c, hc, hopen⟩ := ino_none h
  have hr := hopen []
  go_enter Tryz.func19, Tryz.ntmps19
  have htm0 : ∀ ρ, RelT (envL [x, m] ρ) clbS.tm ((Value.pointer (some ⟨x, 0, none⟩) :: List.replicate 36 undef).toArray) := fun ρ => RelT.also (d := 0) (x := EV.a (.s (.ptr 0 0))) RelT.nil (show ∃ p, (envL [x, m] ρ).m 0 = some p ∧ _ = Value.pointer (some ⟨p.blk, p.dl + 0, none⟩) from ⟨⟨x, 0, 0⟩, envL_at rfl, rfl⟩)
  obtain ⟨y0, hy0, ht0, hpre⟩ := ways_prefix (rules_ok (base_ok _ _)) (fun pc hpc => sumH_ok hpc) (clb_ev _) hr rfl (envL_fresh _ _) (a := ⟨((Value.pointer (some ⟨x, 0, none⟩) :: List.replicate 36 undef).toArray), []⟩) (htm0 _) (by rw [List.size_toArray, List.length_cons, List.length_replicate]; exact Nat.le_refl _)
  simp only [clbL, List.mem_cons, List.not_mem_nil, or_false] at hy0
  subst hy0
  refine hpre _ rfl _ _ ?_
  clear hpre
  intro q hq E' a1 w1 s1 hg htm hsz hdf hv1 hv2
  obtain rfl := List.mem_singleton.1 hq
  have s0 := (List.cons.inj hv1).1.symm
  have s3 := (List.cons.inj (List.cons.inj hv1).2).1.symm
  have v0 := (List.cons.inj hv2).1.symm
  have r1 := (List.cons.inj hv2).2
  have v1 := (List.cons.inj r1).1.symm
  have r2 := (List.cons.inj r1).2
  have v2 := (List.cons.inj r2).1.symm
  have v3 := (List.cons.inj (List.cons.inj r2).2).1.symm
  obtain ⟨y, my, p, m0, hp, hpd, hpy, hy, hmy, hC⟩ := clo_begin h hc hg v0 v1 v2 v3
  have e0 : a1.tmps.getD 0 undef = .pointer (some ⟨x, 0, none⟩) := by
    obtain ⟨q0, hq0, e⟩ := slot_of_view htm s0
    rw [m0] at hq0
    obtain rfl := Option.some.inj hq0
    exact e
  have e3 : a1.tmps.getD 3 undef = .pointer (some ⟨y, 0, none⟩) := by
    obtain ⟨q0, hq0, e⟩ := slot_of_view htm s3
    rw [hp] at hq0
    obtain rfl := Option.some.inj hq0
    rw [e, hpd, hpy]
  obtain ⟨tm1, df1⟩ := a1
  have hdf : df1 = [] := hdf
  subst hdf
  obtain ⟨g, hgd, hte⟩ := arr37 (t := tm1) hsz
  have f0 : g 0 = .pointer (some ⟨x, 0, none⟩) := (hgd 0).symm.trans e0
  have f3 : g 3 = .pointer (some ⟨y, 0, none⟩) := (hgd 3).symm.trans e3
  clear e0 e3
  subst hte
  clear hgd htm hsz s0 s3 v0 v1 v2 v3 r1 r2 hv1 hv2 hq hg m0 hp hpd hpy ht0 hr hopen
  show Code.wp _ _ _ _ _
  rw [f0, f3]
  obtain ⟨w2, hrange, ⟨cnt, hR⟩, hgr, hsz2⟩ := hC.xs.map.range und_int und_works
  obtain ⟨cx, hcx, hrx⟩ := hC.xs.cell
  have hcell := row_map hrx
  have hC2 : Clos w x m S L y my w2 L (fun _ => none) (fun k => (L k).isSome) := by
    refine hC.kept (fun k hk => ?_) (fun k hk => ?_) ?_
    · exact hgr.block k (hC.xs.lt hk) (by simp)
    · exact hgr.block k (hC.ys.lt hk) (by simp)
    · exact hC.but.trans (But.new ⟨hgr.os, hgr.tape, hgr.output, hgr.size, fun k hk => hgr.block k hk (by simp)⟩)
  have hrn : ∀ k, ownBlk x m L k ∨ ownBlk y my (fun _ => none) k → k ≠ w1.heap.size := fun k hk e => by
    rcases hk with hk | hk
    · have := hC.xs.lt hk
      omega
    · have := hC.ys.lt hk
      omega
  have hrw : w.heap.size ≤ w1.heap.size := hC.but.size
  generalize w1.heap.size = r at *
  clear hgr hsz2
  go_wp2_with fail
  have hrn0 : ∀ k, (L k).isSome = ((fun n => (L n).map (·.1)) k).isSome := fun k => by simp
  have hR0 : RangeI elPtr Tryz.prog 3 w2 m r 4096 (fun n => (L n).map (·.1)) (fun k => (L k).isSome) cnt := by
    rw [show (fun k => (L k).isSome) = fun k => ((fun n => (L n).map (·.1)) k).isSome from funext hrn0]
    exact hR
  refine wp_loop (fun a wr => ∃ g : Nat → Value, a = ⟨(g 0 :: g 1 :: g 2 :: g 3 :: g 4 :: g 5 :: g 6 :: g 7 :: g 8 :: g 9 :: g 10 :: g 11 :: g 12 :: g 13 :: g 14 :: g 15 :: g 16 :: g 17 :: g 18 :: g 19 :: g 20 :: g 21 :: g 22 :: g 23 :: g 24 :: g 25 :: g 26 :: g 27 :: g 28 :: g 29 :: g 30 :: g 31 :: g 32 :: g 33 :: g 34 :: g 35 :: g 36 :: []).toArray, []⟩ ∧ g 3 = .pointer (some ⟨y, 0, none⟩) ∧ g 17 = .pointer (some ⟨r, 0, none⟩) ∧ ∃ Lx Ly left cnt, Clos w x m S L y my wr Lx Ly left ∧ RangeI elPtr Tryz.prog 3 wr m r 4096 (fun n => (L n).map (·.1)) left cnt ∧ (∀ k, ownBlk x m Lx k ∨ ownBlk y my Ly k → k ≠ r) ∧ w.heap.size ≤ r)
    (fun _ wr => wr.rangeLeft m r) ⟨fun i => ((Value.pointer (some ⟨x, 0, none⟩)) :: g 1 :: g 2 :: (Value.pointer (some ⟨y, 0, none⟩)) :: g 4 :: g 5 :: g 6 :: g 7 :: g 8 :: g 9 :: g 10 :: g 11 :: g 12 :: (Value.pointer (some ⟨x, 0, none⟩)) :: (Value.pointer (some ⟨x, 0, none⟩)) :: (Value.pointer (some ⟨x, 36, none⟩)) :: (Value.map (some m)) :: (Value.pointer (some ⟨r, 0, none⟩)) :: g 18 :: g 19 :: g 20 :: g 21 :: g 22 :: g 23 :: g 24 :: g 25 :: g 26 :: g 27 :: g 28 :: g 29 :: g 30 :: g 31 :: g 32 :: g 33 :: g 34 :: g 35 :: g 36 :: []).getD i undef, rfl, rfl, rfl, L, _, _, cnt, hC2, hR0, hrn, hrw⟩ ?_
  clear hR hR0 hrn hC2 hC hrange hcell hrx hcx f0 f3
  clear g cnt w2 w1
  rintro _ wr ⟨g, rfl, f3, f17, Lx, Ly, left, cnt, hC, hR, hrn, hrw⟩
  rw [f3, f17]
  rcases hR.next und_int 0 with ⟨h0, hall, hnext⟩ | ⟨i, a, w3, cnt', hl, ha, hnext, hR3, hlt, hgr, hsz, hentry⟩
  · go_wp2_with fail
    go_ret
    have hS : seenS S Ly = S := by
      funext k
      have h1 := hC.seen k
      rw [hall k] at h1
      unfold seenS
      cases hL : L k with
      | some t => rw [hL] at h1; rw [if_pos (by simpa using h1)]
      | none => rw [hL] at h1; rw [if_neg (by rw [h1]; simp), h.off k hL]
    have hy2 := hC.ys
    rw [hS] at hy2
    refine ⟨y, rfl, ⟨m, Lx, hC.xs⟩, fun k hk => ?_, ⟨my, Ly, hy2⟩, hy, fun k hk => ⟨?_, fun ho => ?_⟩, ?_⟩
    · exact (hC.xown k ((ownD_ino hC.xs k).1 hk)).imp (fun ho => (ownD_ino h k).2 ho) id
    · exact (hC.yown k ((ownD_ino hy2 k).1 hk)).1.imp (fun ho => (ownD_ino h k).2 ho) id
    · exact (hC.yown k ((ownD_ino hy2 k).1 hk)).2 ((ownD_ino hC.xs k).1 ho)
    · exact hC.but.mono fun k _ ho => (ownD_ino h k).2 ho
  · have ha : (L i).map (·.1) = some a := ha
    rw [← hC.same i] at ha
    obtain ⟨t, ht, rfl⟩ := Option.map_eq_some_iff.1 ha
    have hC3 : Clos w x m S L y my w3 Lx Ly left := by
      refine hC.kept (fun k hk => ?_) (fun k hk => ?_) ?_
      · exact hgr.block k (hC.xs.lt hk) (fun e => hrn k (.inl hk) (Option.some.inj e))
      · exact hgr.block k (hC.ys.lt hk) (fun e => hrn k (.inr hk) (Option.some.inj e))
      · refine ⟨hgr.os.trans hC.but.os, hgr.tape.trans hC.but.tape, hgr.output.trans hC.but.output, Nat.le_trans hC.but.size hgr.size, fun k hk hn => ?_⟩
        rw [← hC.but.block k hk hn]
        refine hgr.block k (Nat.lt_of_lt_of_le hk hC.but.size) fun e => ?_
        obtain rfl := Option.some.inj e
        omega
    go_wp2_with fail
    refine clo_round hC3 ht hl rfl rfl rfl rfl (Nat.le_refl _) _ fun a4 w4 Lx' Ly' hsz4 hdf4 q3 q17 hC4 hno4 hfr4 => ?_
    have nr : ¬ ownBlk x m Lx r ∧ ¬ ownBlk y my Ly r := ⟨fun ho => hrn r (.inl ho) rfl, fun ho => hrn r (.inr ho) rfl⟩
    have hml : m < w3.heap.size := hC3.xs.lt (.inr (.inl rfl))
    have hR4 := hR3.kept (hfr4 m hml (.inl rfl)) (hfr4 r hR3.lt (.inr nr))
    obtain ⟨tm4, df4⟩ := a4
    have hdf4 : df4 = [] := hdf4
    subst hdf4
    obtain ⟨g4, hg4, hte4⟩ := arr37 (t := tm4) hsz4
    have k3 : g4 3 = .pointer (some ⟨y, 0, none⟩) := (hg4 3).symm.trans q3
    have k17 : g4 17 = .pointer (some ⟨r, 0, none⟩) := (hg4 17).symm.trans q17
    refine And.intro ⟨g4, by rw [hte4], k3, k17, Lx', Ly', _, cnt', hC4, hR4, fun k hk e => ?_, hrw⟩ ?_
    · subst e
      have := hno4 k hR3.lt nr.1 nr.2
      exact hk.elim this.1 this.2
    · rw [hR4.left_eq, hR.left_eq]
      exact hlt
end Go.Proofs.YtcnimekhpnejlaaGreat.Ev

/- file.whole, walked. -/
namespace Go.Proofs.YtcnimekhpnejlaaGreat.Ev
open Go Go.RowKit
set_option linter.unusedVariables false
set_option linter.unusedSimpArgs false
set_option maxRecDepth 100000

theorem run_loadVar_pre {P : Program} (w : World) (g : Nat) (ty : TypeId) (vs : List Value) (d : TypeDesc) (hc : ∀ (j : Nat) v, vs[j]? = some v → w.cell? ⟨g, j, none⟩ = some v)
    (hu : P.underlying ty = some d) (hd : (match d with | .struct _ | .array _ _ => true | _ => false) = true) (hi : (P.info? ty).map (·.size) = some vs.length) :
    (loadVar ty ⟨g, 0, none⟩).run P w = .ok (.agg vs.toArray) w := by
  have hl : (loadCells ⟨g, 0, none⟩ vs.length).run P w = .ok vs.toArray w :=
    run_loadCells_list (P := P) w ⟨g, 0, none⟩ vs (fun j v hv => by
      have hadd : (⟨g, 0, none⟩ : Addr).add j = ⟨g, j, none⟩ := by unfold Addr.add; split <;> simp_all
      rw [hadd]
      exact hc j v hv)
  cases hq : P.info? ty with
  | none => simp [hq] at hi
  | some i =>
    have hs : i.size = vs.length := by simpa [hq] using hi
    have hagg : (isAgg ty).run P w = .ok true w := by
      unfold isAgg
      rw [Sem.run_bind, run_underlying hu w]
      cases d <;> simp_all
    simp [loadVar, hagg, Go.sizeOf, typeInfo, hq, hs, hl]
theorem wpList_load_pre {P : Program} {ops : Array Oper} {rest : List Oper} {o : Oper} {a : Act} {w : World} {Q : Exit → Act → World → Prop} (hgd : o.guard = none) (ty : TypeId) (x : Operand) (ho : o.op = .load ty x)
    (g : Nat) (hx : a.eval x = .pointer (some ⟨g, 0, none⟩)) (vs : List Value) (d : TypeDesc) (hc : ∀ (j : Nat) v, vs[j]? = some v → w.cell? ⟨g, j, none⟩ = some v)
    (hu : P.underlying ty = some d) (hd : (match d with | .struct _ | .array _ _ => true | _ => false) = true) (hi : (P.info? ty).map (·.size) = some vs.length)
    (h : wpList P ops Q rest (a.put o.dst (.agg vs.toArray)) w) : wpList P ops Q (o :: rest) a w :=
  wpList_plain hgd fun K hK => by
    unfold Oper.wp execOp
    simp only [ho, hx, Instr.loadAt, Instr.sureAddr, Sem.run_bind, Sem.run_pure, Result.andThen_ok, run_loadVar_pre w g ty vs d hc hu hd hi]
    exact hK _ _ h
theorem inoCells_len (c : Value) (m : Nat) : (inoCells c m).length = 37 := rfl
theorem inoCells_one {c : Value} (hc : c.oneCell' = true) (m : Nat) : ∀ v ∈ inoCells c m, v.oneCell' = true := fun v hv => by
  unfold inoCells treeZ sumZ at hv
  simp only [List.mem_cons, List.mem_append, List.mem_replicate, List.not_mem_nil, or_false] at hv
  rcases hv with rfl | (rfl | rfl | ⟨_, rfl⟩) | rfl | rfl
  · exact hc
  all_goals rfl
theorem info_ino : (Tryz.prog.info? 107).map (·.size) = some 37 := by kernel_rfl
set_option maxHeartbeats 4000000 in
theorem whole_any (x f : Nat) (cb : Array Value) (w : World) (R : Ending → World → Prop) (eg : ∀ args w, (callFunc f args).run Tryz.prog w = .ok (.enter f args) w)
    (h : Calls Tryz.prog 19 #[.pointer (some ⟨x, 0, none⟩)] w fun en w1 => ∃ a, en = .returned (.pointer (some ⟨a, 0, none⟩)) ∧ Calls Tryz.prog f (#[.pointer (some ⟨a, 0, none⟩)] ++ cb) w1 fun en2 w2 => ∃ n : Int, en2 = .returned (.int .i64 n) ∧
      (n ≠ 0 → R (.returned (.int .i64 n)) w2) ∧
      (n = 0 → ∃ cx cy mx my, cx.oneCell' = true ∧ cy.oneCell' = true ∧ Row w2 x 107 (inoCells cx mx) ∧ Row w2 a 107 (inoCells cy my) ∧ x ≠ a ∧ ∀ w3, Touch x w2 w3 → Row w3 x 107 (inoCells cy my) → R (.returned (.int .i64 0)) w3)) :
    Calls Tryz.prog 33 #[.pointer (some ⟨x, 0, none⟩), .func (.func f) #[] cb] w R := by
  have H : Aside _ := h
  clear h
  go_enter Tryz.func33, Tryz.ntmps33
  go_wp2_with fail
  refine Calls.mono H.out ?_
  rintro en w1 ⟨a, rfl, hf⟩
  have HF : Aside _ := hf
  clear hf H
  go_wp2_with fail
  refine Calls.mono HF.out ?_
  rintro en w2 ⟨n, rfl, hn1, hn2⟩
  have HN1 : Aside _ := hn1
  have HN2 : Aside _ := hn2
  clear hn1 hn2 HF
  by_cases hn : n = 0
  · obtain ⟨cx, cy, mx, my, hcx, hcy, rx, ry, hne, hR⟩ := HN2.out hn
    have HR : Aside _ := hR
    clear HN1 HN2 hR
    subst hn
    obtain ⟨csx, hbx, hpx⟩ := rx
    have hl := inoCells_len cy my
    have hsz : 37 ≤ csx.size := (Array.getElem?_eq_some_iff.1 (hpx 36 (.map (some mx)) rfl)).1
    obtain ⟨w3, cs', hst, ht, hg3, hs3, hget⟩ := run_puts Tryz.prog x 0 107 0 0 (inoCells cy my) 0 csx w2 hbx (by rw [hl]; omega) (fun j _ => by omega) (inoCells_one hcy my)
    have hcell : ∀ (j : Nat) v, (inoCells cy my)[j]? = some v → w2.cell? ⟨a, j, none⟩ = some v := fun j v hv => row_cell ry hv
    have hrow : Row w3 x 107 (inoCells cy my) := ⟨cs', hg3, fun j v hv => by
      have hj : j < 37 := by rw [← hl]; exact (List.getElem?_eq_some_iff.1 hv).1
      rw [hget, if_pos (by rw [hl]; omega)]
      simpa using hv⟩
    have HRow : Aside _ := hrow
    have HCell : Aside _ := hcell
    have hinf : (Tryz.prog.info? 107).map (·.size) = some (inoCells cy my).length := info_ino.trans (congrArg some hl.symm)
    have HInf : Aside _ := hinf
    clear hrow hcell hget hbx hpx hg3 hs3 hsz hinf ry
    generalize hv : inoCells cy my = vs at *
    clear hv
    go_wp2_with (refine wpList_load_pre rfl 107 _ rfl a rfl vs _ HCell.out Tryz.underlying107 rfl HInf.out ?_)
    exact HR.out w3 ht HRow.out
  · have hb : (n != 0) = true := by simpa using hn
    have hd : decide (n = 0) = false := decide_eq_false hn
    go_wp2_with fail
    exact HN1.out hn
end Go.Proofs.YtcnimekhpnejlaaGreat.Ev

/- file.whole: a closure does something with a copy of inodes; if all is well, the copy is what there is. -/
namespace Go.Proofs.YtcnimekhpnejlaaGreat.Ev
open Go Go.RowKit
set_option linter.unusedVariables false
set_option linter.unusedSimpArgs false
set_option maxRecDepth 10000

/-- Inodes whose head was written over by the head of others. -/
theorem Inos.moved {w2 w3 : World} {x a my : Nat} {S : Int → Nd} {Ly : LL} (h : Inos Tryz.prog w2 a S my Ly) (ht : Touch x w2 w3) (hx : ¬ ownBlk a my Ly x) {c : Value} (hc : c.oneCell' = true) (hrow : Row w3 x 107 (inoCells c my)) :
    Inos Tryz.prog w3 x S my Ly ∧ ∀ k, ownBlk x my Ly k → k = x ∨ ownBlk a my Ly k := by
  have keep : ∀ k, ownBlk a my Ly k → w3.heap[k]? = w2.heap[k]? := fun k hk => ht.other k fun e => hx (e ▸ hk)
  refine ⟨⟨⟨c, hc, hrow⟩, h.map.kept (keep my (.inr (.inl rfl))), fun n t hn => (h.work n t hn).kept (keep _ (.inr (.inr ⟨n, t, hn, .inl rfl⟩))) (keep _ (.inr (.inr ⟨n, t, hn, .inr (.inl rfl)⟩))) (keep _ (.inr (.inr ⟨n, t, hn, .inr (.inr rfl)⟩))), h.off, h.inj, h.map_ne, h.ok, h.num⟩, fun k hk => ?_⟩
  rcases hk with rfl | rfl | hk
  · exact .inl rfl
  · exact .inr (.inr (.inl rfl))
  · exact .inr (.inr (.inr hk))

theorem sumWhole_ok {v : Nat → D} {o : Nat → Value} {pc : List (X × Bool)} (hpc : Told (rhoI v o) pc) {R : Rules} {call : Call} (hcall : CallOk (ctx R (rhoI v o) pc) call) : CallOk (ctx R (rhoI v o) pc) (sumWhole (fun f => (funT.get f).isSome) pc call) := by
  intro g args h nx r he E w vs hr hρ hf hargs
  replace hρ : E.ρ = rhoI v o := hρ
  have hA : ∀ b W k, E.ρ.A.own b W k ↔ ownD Tryz.prog b W k := fun b W k => by rw [hρ]; rfl
  have hI : ∀ d b W, E.ρ.A.is d b W ↔ isD Tryz.prog d b W := fun d b W => by rw [hρ]; rfl
  unfold sumWhole at he
  split at he
  · rename_i hg
    subst hg
    split at he
    · rename_i i f cs
      split at he
      · rename_i e hi
        split at he
        · rename_i hcond
          obtain ⟨h57, hfun⟩ := hcond
          obtain ⟨S, hS⟩ := told57 hpc h57
          obtain ⟨fn, hfn⟩ := Option.isSome_iff_exists.1 hfun
          obtain ⟨r0, hr0, he⟩ := Option.bind_eq_some_iff.1 he
          split at he
          · rename_i n e1 e2 hr1 hgi hgx
            match vs, hargs with
            | [u1, u2], hargs =>
              obtain ⟨⟨p, hp, rfl⟩, ⟨cb, rfl, hcb⟩, _⟩ := hargs
              have his := hr.abs.ab i e p hi hp
              have his2 := (hI _ _ _).1 his
              rw [hρ, hS] at his2
              have hd : p.dl = 0 := by
                obtain ⟨o2, _, h2⟩ := hr.blk hi hp
                exact h2
              rw [hd]
              have efn := funs_ok (C := ctx R (rhoI v o) pc) rfl f fn hfn
              obtain ⟨bd, hbd⟩ : ∃ bd, fn.body = some bd := by
                cases hb : fn.body with
                | some bd => exact ⟨bd, rfl⟩
                | none =>
                  have := efn.2.2
                  rw [hb] at this
                  cases this
              refine whole_any p.blk f cb.toArray w _ (enters_of efn.1 efn.2.1 hbd) ((ino_clone his2).mono fun en w1 ⟨a, h1, h2, h3, h4, h5, h6, h7⟩ => ⟨a, h1, ?_⟩)
              -- the copy
              have hg1 := Goes.acall (nx := nx) hr hi hp (e' := e) (w' := w1) ((hI _ _ _).2 (by rw [hρ, hS]; exact h2)) (fun k hk => (h3 k ((hA _ _ _).1 hk)).imp (fun h => (hA _ _ _).2 h) id) h7.os h7.tape h7.output h7.size (fun k hk hn => h7.block k hk fun ho => hn ((hA _ _ _).2 ho))
              have hown : ∀ k, E.ρ.A.own a w1 k → Owned E h w k ∨ w.heap.size ≤ k := fun k hk => by
                rcases (h6 k ((hA _ _ _).1 hk)).1 with h8 | h8
                · exact .inl (Owned.abs hi hp ((hA _ _ _).2 h8))
                · exact .inr h8
              have hdis : ∀ k, E.ρ.A.own a w1 k → ¬ Owned E (h.set i (.abs e)) w1 k := fun k hk ho => by
                obtain ⟨hk1, hk2⟩ := h6 k ((hA _ _ _).1 hk)
                rcases ho with ⟨j, cc, q, hj, hq, rfl⟩ | ⟨j, e2, q, hj, hq, ho⟩
                · by_cases hji : j = i
                  · subst hji
                    rw [hp] at hq
                    obtain rfl := Option.some.inj hq
                    exact hk2 ((hA _ _ _).1 (E.ρ.A.self _ _ _ ((hI _ _ _).2 h2)))
                  · rw [T.get_set, if_neg hji] at hj
                    obtain ⟨o2, ho2, _⟩ := hr.blk hj hq
                    have := lt_of_heap ho2
                    rcases hk1 with h8 | h8
                    · exact hr.abs.far i e p j cc q hi hp hj hq hji ((hA _ _ _).2 h8)
                    · omega
                · by_cases hji : j = i
                  · subst hji
                    rw [hp] at hq
                    obtain rfl := Option.some.inj hq
                    exact hk2 ((hA _ _ _).1 ho)
                  · rw [T.get_set, if_neg hji] at hj
                    have hB := hr.abs.ab j e2 q hj hq
                    have h9 := E.ρ.A.keep _ _ w w1 hB (fun k hk => h7.block k (E.ρ.A.lt _ _ _ hB k hk) fun ho => hr.abs.apart j e2 q i e p hj hq hi hp (fun e3 => hji e3.symm) k hk ((hA _ _ _).2 ho)) h7.size
                    have ho := (h9.2 k).1 ho
                    have := E.ρ.A.lt _ _ _ hB k ho
                    rcases hk1 with h8 | h8
                    · exact hr.abs.apart j e2 q i e p hj hq hi hp (fun e3 => hji e3.symm) k ho ((hA _ _ _).2 h8)
                    · omega
              have hg2 := Goes.adopt2 hg1 (hf nx (Nat.le_refl _)) (a := a) (e := e) ((hI _ _ _).2 (by rw [hρ, hS]; exact h4)) h5 hown hdis
              have hg3 : Goes E h nx w (E.put nx ⟨a, 0, 0⟩) (h.set nx (.abs e)) (nx + 1) w1 := hg2.sub fun j b hb => by
                rw [T.get_set] at hb ⊢
                split at hb
                · rw [if_pos ‹_›]; exact hb
                · rw [if_neg ‹_›, T.get_set]
                  by_cases e3 : j = i
                  · subst e3
                    rw [if_pos rfl]
                    rw [hi] at hb
                    exact hb
                  · rw [if_neg e3]
                    exact hb
              have hf2 : FreshU (E.put nx ⟨a, 0, 0⟩) (nx + 1) := fun j hj => by
                rw [Env.put_ne E _ (by omega)]
                exact hf j (by omega)
              have hrel2 : Rels (EV.rel (E.put nx ⟨a, 0, 0⟩)) (.a (.s (.ptr nx 0)) :: ptrs cs) (.pointer (some ⟨a, 0, none⟩) :: cb) :=
                ⟨⟨⟨a, 0, 0⟩, Env.put_at _ _ _, rfl⟩, ptrs_rel (Rels.imp (fun _ _ => relP.ext hg3.ext) hcb)⟩
              have hc := hcall f _ _ _ r0 hr0 _ w1 _ hg3.rel hρ hf2 hrel2
              have hvs : ((.pointer (some ⟨a, 0, none⟩) :: cb : List Value)).toArray = #[.pointer (some ⟨a, 0, none⟩)] ++ cb.toArray := by simp
              rw [hvs] at hc
              refine hc.mono fun en2 w2 ⟨v2, E2, q1, q2, q3⟩ => ?_
              rw [hr1] at q3
              have q3 : v2 = .int .i64 n := q3
              subst q3
              have hG := hg3.trans q2
              have hρ2 : E2.ρ = rhoI v o := hG.ext.ρ.trans hρ
              refine ⟨n, q1, fun hn => ?_, fun hn => ?_⟩
              · rw [if_neg hn] at he
                obtain rfl := Option.some.inj he
                exact ⟨_, E2, rfl, hG, rfl⟩
              · rw [if_pos hn] at he
                split at he
                · rename_i h57b
                  obtain ⟨S1, hS1⟩ := told57 hpc h57b.1
                  obtain ⟨S2, hS2⟩ := told57 hpc h57b.2
                  obtain rfl := Option.some.inj he
                  have hne : i ≠ nx := fun e3 => by
                    rw [e3, hf nx (Nat.le_refl _)] at hp
                    cases hp
                  have hp2 : E2.m i = some p := hG.ext.m _ _ hp
                  have hq2 : E2.m nx = some ⟨a, 0, 0⟩ := q2.ext.m _ _ (Env.put_at _ _ _)
                  have hA2 : ∀ b W k, E2.ρ.A.own b W k ↔ ownD Tryz.prog b W k := fun b W k => by rw [hρ2]; rfl
                  have hI2 : ∀ d b W, E2.ρ.A.is d b W ↔ isD Tryz.prog d b W := fun d b W => by rw [hρ2]; rfl
                  have a1 := (hI2 _ _ _).1 (hG.rel.abs.ab i e1 p hgi hp2)
                  have a2 := (hI2 _ _ _).1 (hG.rel.abs.ab nx e2 _ hgx hq2)
                  rw [hρ2, hS1] at a1
                  rw [hρ2, hS2] at a2
                  obtain ⟨mx, Lx, hx⟩ := a1
                  obtain ⟨my, Ly, hy⟩ := a2
                  obtain ⟨cx, hcx, rx⟩ := hx.cell
                  obtain ⟨cy, hcy, ry⟩ := hy.cell
                  have hfar : ¬ ownBlk a my Ly p.blk := fun ho => hG.rel.abs.far nx e2 _ i _ p hgx hq2 hgi hp2 hne ((hA2 _ _ _).2 ((ownD_ino hy _).2 ho))
                  refine ⟨cx, cy, mx, my, hcx, hcy, rx, ry, fun e3 => hfar (e3 ▸ .inl rfl), fun w3 ht hrow => ?_⟩
                  obtain ⟨hI3, ho3⟩ := Inos.moved hy ht hfar hcy hrow
                  refine ⟨_, E2, rfl, Goes.moved hG hgi hgx hne hp2 hq2 ht ((hI2 _ _ _).2 (by rw [hρ2, hS2]; exact ⟨my, Ly, hI3⟩)) (fun k hk => ?_), rfl⟩
                  rcases ho3 k ((ownD_ino hI3 k).1 ((hA2 _ _ _).1 hk)) with h8 | h8
                  · exact .inl h8
                  · exact .inr ((hA2 _ _ _).2 ((ownD_ino hy k).2 h8))
                · cases he
          · cases he
        · cases he
      · cases he
    · cases he
  · cases he
end Go.Proofs.YtcnimekhpnejlaaGreat.Ev

/- What calls come to, on all their ways (written by wip/tools/tabs.py). -/
namespace Go.Proofs.YtcnimekhpnejlaaGreat.Ev
open Go
def wrtT : PT := (.node (.app 57 (.va 0)) (.node (.app 902 (.va 1)) (.node (.lt (.va 1) (.li 1)) .dead (.node (.lt (.li 4096) (.va 1)) .dead (.node (.eq (.app 50 (.cons (.va 0) (.va 1))) (.li 0)) .dead (.node (.eq (.app 50 (.cons (.va 0) (.va 1))) (.li 2)) .dead (.node (.lt (.va 2) (.li 0)) .leaf (.node (.lt (.li 1048576) (.va 2)) .leaf (.node (.lt (.bin .sub .i64 (.li 1048576) (.va 2)) (.len (.va 3))) .leaf (.node (.seq (.va 3) (.ls ⟨#[]⟩)) .leaf (.node (.lt (.app 52 (.cons (.va 0) (.va 1))) (.bin .add .i64 (.va 2) (.len (.va 3)))) (.node (.app 59 (.va 4)) (.node (.lt (.bin .add .i64 (.va 2) (.len (.va 3))) (.li 0)) .dead (.node (.lt (.li 1048576) (.bin .add .i64 (.va 2) (.len (.va 3)))) .dead (.node (.app 57 (.app 56 (.cons (.va 0) (.cons (.va 1) (.cons (.bin .add .i64 (.va 2) (.len (.va 3))) (.va 4)))))) (.node (.eq (.app 50 (.cons (.app 56 (.cons (.va 0) (.cons (.va 1) (.cons (.bin .add .i64 (.va 2) (.len (.va 3))) (.va 4))))) (.va 1))) (.li 0)) .dead (.node (.app 62 (.cons (.app 56 (.cons (.va 0) (.cons (.va 1) (.cons (.bin .add .i64 (.va 2) (.len (.va 3))) (.va 4))))) (.cons (.va 1) (.cons (.va 2) (.va 3))))) (.node (.app 57 (.app 60 (.cons (.app 56 (.cons (.va 0) (.cons (.va 1) (.cons (.bin .add .i64 (.va 2) (.len (.va 3))) (.va 4))))) (.cons (.va 1) (.cons (.va 2) (.cons (.va 3) (.va 4))))))) .leaf .dead) .dead)) .dead))) .dead) (.node (.app 59 (.va 4)) (.node (.app 62 (.cons (.va 0) (.cons (.va 1) (.cons (.va 2) (.va 3))))) (.node (.app 57 (.app 60 (.cons (.va 0) (.cons (.va 1) (.cons (.va 2) (.cons (.va 3) (.va 4))))))) .leaf .dead) .dead) .dead)))))))))) .dead) .dead)
def wrtL : List (List (X × Bool) × Option (EV × List (Option BV))) := [
  ([((.lt (.va 1) (.li 1)), true), ((.app 902 (.va 1)), true), ((.app 57 (.va 0)), true)], none),
  ([((.lt (.li 4096) (.va 1)), true), ((.lt (.va 1) (.li 1)), false), ((.app 902 (.va 1)), true), ((.app 57 (.va 0)), true)], none),
  ([((.eq (.app 50 (.cons (.va 0) (.va 1))) (.li 0)), true), ((.lt (.li 4096) (.va 1)), false), ((.lt (.va 1) (.li 1)), false), ((.app 902 (.va 1)), true), ((.app 57 (.va 0)), true)], none),
  ([((.eq (.app 50 (.cons (.va 0) (.va 1))) (.li 2)), true), ((.eq (.app 50 (.cons (.va 0) (.va 1))) (.li 0)), false), ((.lt (.li 4096) (.va 1)), false), ((.lt (.va 1) (.li 1)), false), ((.app 902 (.va 1)), true), ((.app 57 (.va 0)), true)], none),
  ([((.lt (.va 2) (.li 0)), true), ((.eq (.app 50 (.cons (.va 0) (.va 1))) (.li 2)), false), ((.eq (.app 50 (.cons (.va 0) (.va 1))) (.li 0)), false), ((.lt (.li 4096) (.va 1)), false), ((.lt (.va 1) (.li 1)), false), ((.app 902 (.va 1)), true), ((.app 57 (.va 0)), true)], some ((.tup [(.s (.int .i64 0)), (.s (.int .i64 1))]), [some (.abs (.va 0))])),
  ([((.lt (.li 1048576) (.va 2)), true), ((.lt (.va 2) (.li 0)), false), ((.eq (.app 50 (.cons (.va 0) (.va 1))) (.li 2)), false), ((.eq (.app 50 (.cons (.va 0) (.va 1))) (.li 0)), false), ((.lt (.li 4096) (.va 1)), false), ((.lt (.va 1) (.li 1)), false), ((.app 902 (.va 1)), true), ((.app 57 (.va 0)), true)], some ((.tup [(.s (.int .i64 0)), (.s (.int .i64 160))]), [some (.abs (.va 0))])),
  ([((.lt (.bin .sub .i64 (.li 1048576) (.va 2)) (.len (.va 3))), true), ((.lt (.li 1048576) (.va 2)), false), ((.lt (.va 2) (.li 0)), false), ((.eq (.app 50 (.cons (.va 0) (.va 1))) (.li 2)), false), ((.eq (.app 50 (.cons (.va 0) (.va 1))) (.li 0)), false), ((.lt (.li 4096) (.va 1)), false), ((.lt (.va 1) (.li 1)), false), ((.app 902 (.va 1)), true), ((.app 57 (.va 0)), true)], some ((.tup [(.s (.int .i64 0)), (.s (.int .i64 160))]), [some (.abs (.va 0))])),
  ([((.seq (.va 3) (.ls ⟨#[]⟩)), true), ((.lt (.bin .sub .i64 (.li 1048576) (.va 2)) (.len (.va 3))), false), ((.lt (.li 1048576) (.va 2)), false), ((.lt (.va 2) (.li 0)), false), ((.eq (.app 50 (.cons (.va 0) (.va 1))) (.li 2)), false), ((.eq (.app 50 (.cons (.va 0) (.va 1))) (.li 0)), false), ((.lt (.li 4096) (.va 1)), false), ((.lt (.va 1) (.li 1)), false), ((.app 902 (.va 1)), true), ((.app 57 (.va 0)), true)], some ((.tup [(.s (.xi .i64 (.va 2))), (.s (.int .i64 0))]), [some (.abs (.va 0))])),
  ([((.lt (.bin .add .i64 (.va 2) (.len (.va 3))) (.li 0)), true), ((.app 59 (.va 4)), true), ((.lt (.app 52 (.cons (.va 0) (.va 1))) (.bin .add .i64 (.va 2) (.len (.va 3)))), true), ((.seq (.va 3) (.ls ⟨#[]⟩)), false), ((.lt (.bin .sub .i64 (.li 1048576) (.va 2)) (.len (.va 3))), false), ((.lt (.li 1048576) (.va 2)), false), ((.lt (.va 2) (.li 0)), false), ((.eq (.app 50 (.cons (.va 0) (.va 1))) (.li 2)), false), ((.eq (.app 50 (.cons (.va 0) (.va 1))) (.li 0)), false), ((.lt (.li 4096) (.va 1)), false), ((.lt (.va 1) (.li 1)), false), ((.app 902 (.va 1)), true), ((.app 57 (.va 0)), true)], none),
  ([((.lt (.li 1048576) (.bin .add .i64 (.va 2) (.len (.va 3)))), true), ((.lt (.bin .add .i64 (.va 2) (.len (.va 3))) (.li 0)), false), ((.app 59 (.va 4)), true), ((.lt (.app 52 (.cons (.va 0) (.va 1))) (.bin .add .i64 (.va 2) (.len (.va 3)))), true), ((.seq (.va 3) (.ls ⟨#[]⟩)), false), ((.lt (.bin .sub .i64 (.li 1048576) (.va 2)) (.len (.va 3))), false), ((.lt (.li 1048576) (.va 2)), false), ((.lt (.va 2) (.li 0)), false), ((.eq (.app 50 (.cons (.va 0) (.va 1))) (.li 2)), false), ((.eq (.app 50 (.cons (.va 0) (.va 1))) (.li 0)), false), ((.lt (.li 4096) (.va 1)), false), ((.lt (.va 1) (.li 1)), false), ((.app 902 (.va 1)), true), ((.app 57 (.va 0)), true)], none),
  ([((.eq (.app 50 (.cons (.app 56 (.cons (.va 0) (.cons (.va 1) (.cons (.bin .add .i64 (.va 2) (.len (.va 3))) (.va 4))))) (.va 1))) (.li 0)), true), ((.app 57 (.app 56 (.cons (.va 0) (.cons (.va 1) (.cons (.bin .add .i64 (.va 2) (.len (.va 3))) (.va 4)))))), true), ((.lt (.li 1048576) (.bin .add .i64 (.va 2) (.len (.va 3)))), false), ((.lt (.bin .add .i64 (.va 2) (.len (.va 3))) (.li 0)), false), ((.app 59 (.va 4)), true), ((.lt (.app 52 (.cons (.va 0) (.va 1))) (.bin .add .i64 (.va 2) (.len (.va 3)))), true), ((.seq (.va 3) (.ls ⟨#[]⟩)), false), ((.lt (.bin .sub .i64 (.li 1048576) (.va 2)) (.len (.va 3))), false), ((.lt (.li 1048576) (.va 2)), false), ((.lt (.va 2) (.li 0)), false), ((.eq (.app 50 (.cons (.va 0) (.va 1))) (.li 2)), false), ((.eq (.app 50 (.cons (.va 0) (.va 1))) (.li 0)), false), ((.lt (.li 4096) (.va 1)), false), ((.lt (.va 1) (.li 1)), false), ((.app 902 (.va 1)), true), ((.app 57 (.va 0)), true)], none),
  ([((.app 57 (.app 60 (.cons (.app 56 (.cons (.va 0) (.cons (.va 1) (.cons (.bin .add .i64 (.va 2) (.len (.va 3))) (.va 4))))) (.cons (.va 1) (.cons (.va 2) (.cons (.va 3) (.va 4))))))), true), ((.app 62 (.cons (.app 56 (.cons (.va 0) (.cons (.va 1) (.cons (.bin .add .i64 (.va 2) (.len (.va 3))) (.va 4))))) (.cons (.va 1) (.cons (.va 2) (.va 3))))), true), ((.eq (.app 50 (.cons (.app 56 (.cons (.va 0) (.cons (.va 1) (.cons (.bin .add .i64 (.va 2) (.len (.va 3))) (.va 4))))) (.va 1))) (.li 0)), false), ((.app 57 (.app 56 (.cons (.va 0) (.cons (.va 1) (.cons (.bin .add .i64 (.va 2) (.len (.va 3))) (.va 4)))))), true), ((.lt (.li 1048576) (.bin .add .i64 (.va 2) (.len (.va 3)))), false), ((.lt (.bin .add .i64 (.va 2) (.len (.va 3))) (.li 0)), false), ((.app 59 (.va 4)), true), ((.lt (.app 52 (.cons (.va 0) (.va 1))) (.bin .add .i64 (.va 2) (.len (.va 3)))), true), ((.seq (.va 3) (.ls ⟨#[]⟩)), false), ((.lt (.bin .sub .i64 (.li 1048576) (.va 2)) (.len (.va 3))), false), ((.lt (.li 1048576) (.va 2)), false), ((.lt (.va 2) (.li 0)), false), ((.eq (.app 50 (.cons (.va 0) (.va 1))) (.li 2)), false), ((.eq (.app 50 (.cons (.va 0) (.va 1))) (.li 0)), false), ((.lt (.li 4096) (.va 1)), false), ((.lt (.va 1) (.li 1)), false), ((.app 902 (.va 1)), true), ((.app 57 (.va 0)), true)], some ((.tup [(.s (.xi .i64 (.bin .add .i64 (.va 2) (.len (.va 3))))), (.s (.int .i64 0))]), [some (.abs (.app 60 (.cons (.app 56 (.cons (.va 0) (.cons (.va 1) (.cons (.bin .add .i64 (.va 2) (.len (.va 3))) (.va 4))))) (.cons (.va 1) (.cons (.va 2) (.cons (.va 3) (.va 4)))))))])),
  ([((.app 57 (.app 60 (.cons (.app 56 (.cons (.va 0) (.cons (.va 1) (.cons (.bin .add .i64 (.va 2) (.len (.va 3))) (.va 4))))) (.cons (.va 1) (.cons (.va 2) (.cons (.va 3) (.va 4))))))), false), ((.app 62 (.cons (.app 56 (.cons (.va 0) (.cons (.va 1) (.cons (.bin .add .i64 (.va 2) (.len (.va 3))) (.va 4))))) (.cons (.va 1) (.cons (.va 2) (.va 3))))), true), ((.eq (.app 50 (.cons (.app 56 (.cons (.va 0) (.cons (.va 1) (.cons (.bin .add .i64 (.va 2) (.len (.va 3))) (.va 4))))) (.va 1))) (.li 0)), false), ((.app 57 (.app 56 (.cons (.va 0) (.cons (.va 1) (.cons (.bin .add .i64 (.va 2) (.len (.va 3))) (.va 4)))))), true), ((.lt (.li 1048576) (.bin .add .i64 (.va 2) (.len (.va 3)))), false), ((.lt (.bin .add .i64 (.va 2) (.len (.va 3))) (.li 0)), false), ((.app 59 (.va 4)), true), ((.lt (.app 52 (.cons (.va 0) (.va 1))) (.bin .add .i64 (.va 2) (.len (.va 3)))), true), ((.seq (.va 3) (.ls ⟨#[]⟩)), false), ((.lt (.bin .sub .i64 (.li 1048576) (.va 2)) (.len (.va 3))), false), ((.lt (.li 1048576) (.va 2)), false), ((.lt (.va 2) (.li 0)), false), ((.eq (.app 50 (.cons (.va 0) (.va 1))) (.li 2)), false), ((.eq (.app 50 (.cons (.va 0) (.va 1))) (.li 0)), false), ((.lt (.li 4096) (.va 1)), false), ((.lt (.va 1) (.li 1)), false), ((.app 902 (.va 1)), true), ((.app 57 (.va 0)), true)], none),
  ([((.app 62 (.cons (.app 56 (.cons (.va 0) (.cons (.va 1) (.cons (.bin .add .i64 (.va 2) (.len (.va 3))) (.va 4))))) (.cons (.va 1) (.cons (.va 2) (.va 3))))), false), ((.eq (.app 50 (.cons (.app 56 (.cons (.va 0) (.cons (.va 1) (.cons (.bin .add .i64 (.va 2) (.len (.va 3))) (.va 4))))) (.va 1))) (.li 0)), false), ((.app 57 (.app 56 (.cons (.va 0) (.cons (.va 1) (.cons (.bin .add .i64 (.va 2) (.len (.va 3))) (.va 4)))))), true), ((.lt (.li 1048576) (.bin .add .i64 (.va 2) (.len (.va 3)))), false), ((.lt (.bin .add .i64 (.va 2) (.len (.va 3))) (.li 0)), false), ((.app 59 (.va 4)), true), ((.lt (.app 52 (.cons (.va 0) (.va 1))) (.bin .add .i64 (.va 2) (.len (.va 3)))), true), ((.seq (.va 3) (.ls ⟨#[]⟩)), false), ((.lt (.bin .sub .i64 (.li 1048576) (.va 2)) (.len (.va 3))), false), ((.lt (.li 1048576) (.va 2)), false), ((.lt (.va 2) (.li 0)), false), ((.eq (.app 50 (.cons (.va 0) (.va 1))) (.li 2)), false), ((.eq (.app 50 (.cons (.va 0) (.va 1))) (.li 0)), false), ((.lt (.li 4096) (.va 1)), false), ((.lt (.va 1) (.li 1)), false), ((.app 902 (.va 1)), true), ((.app 57 (.va 0)), true)], none),
  ([((.app 57 (.app 56 (.cons (.va 0) (.cons (.va 1) (.cons (.bin .add .i64 (.va 2) (.len (.va 3))) (.va 4)))))), false), ((.lt (.li 1048576) (.bin .add .i64 (.va 2) (.len (.va 3)))), false), ((.lt (.bin .add .i64 (.va 2) (.len (.va 3))) (.li 0)), false), ((.app 59 (.va 4)), true), ((.lt (.app 52 (.cons (.va 0) (.va 1))) (.bin .add .i64 (.va 2) (.len (.va 3)))), true), ((.seq (.va 3) (.ls ⟨#[]⟩)), false), ((.lt (.bin .sub .i64 (.li 1048576) (.va 2)) (.len (.va 3))), false), ((.lt (.li 1048576) (.va 2)), false), ((.lt (.va 2) (.li 0)), false), ((.eq (.app 50 (.cons (.va 0) (.va 1))) (.li 2)), false), ((.eq (.app 50 (.cons (.va 0) (.va 1))) (.li 0)), false), ((.lt (.li 4096) (.va 1)), false), ((.lt (.va 1) (.li 1)), false), ((.app 902 (.va 1)), true), ((.app 57 (.va 0)), true)], none),
  ([((.app 59 (.va 4)), false), ((.lt (.app 52 (.cons (.va 0) (.va 1))) (.bin .add .i64 (.va 2) (.len (.va 3)))), true), ((.seq (.va 3) (.ls ⟨#[]⟩)), false), ((.lt (.bin .sub .i64 (.li 1048576) (.va 2)) (.len (.va 3))), false), ((.lt (.li 1048576) (.va 2)), false), ((.lt (.va 2) (.li 0)), false), ((.eq (.app 50 (.cons (.va 0) (.va 1))) (.li 2)), false), ((.eq (.app 50 (.cons (.va 0) (.va 1))) (.li 0)), false), ((.lt (.li 4096) (.va 1)), false), ((.lt (.va 1) (.li 1)), false), ((.app 902 (.va 1)), true), ((.app 57 (.va 0)), true)], none),
  ([((.app 57 (.app 60 (.cons (.va 0) (.cons (.va 1) (.cons (.va 2) (.cons (.va 3) (.va 4))))))), true), ((.app 62 (.cons (.va 0) (.cons (.va 1) (.cons (.va 2) (.va 3))))), true), ((.app 59 (.va 4)), true), ((.lt (.app 52 (.cons (.va 0) (.va 1))) (.bin .add .i64 (.va 2) (.len (.va 3)))), false), ((.seq (.va 3) (.ls ⟨#[]⟩)), false), ((.lt (.bin .sub .i64 (.li 1048576) (.va 2)) (.len (.va 3))), false), ((.lt (.li 1048576) (.va 2)), false), ((.lt (.va 2) (.li 0)), false), ((.eq (.app 50 (.cons (.va 0) (.va 1))) (.li 2)), false), ((.eq (.app 50 (.cons (.va 0) (.va 1))) (.li 0)), false), ((.lt (.li 4096) (.va 1)), false), ((.lt (.va 1) (.li 1)), false), ((.app 902 (.va 1)), true), ((.app 57 (.va 0)), true)], some ((.tup [(.s (.xi .i64 (.bin .add .i64 (.va 2) (.len (.va 3))))), (.s (.int .i64 0))]), [some (.abs (.app 60 (.cons (.va 0) (.cons (.va 1) (.cons (.va 2) (.cons (.va 3) (.va 4)))))))])),
  ([((.app 57 (.app 60 (.cons (.va 0) (.cons (.va 1) (.cons (.va 2) (.cons (.va 3) (.va 4))))))), false), ((.app 62 (.cons (.va 0) (.cons (.va 1) (.cons (.va 2) (.va 3))))), true), ((.app 59 (.va 4)), true), ((.lt (.app 52 (.cons (.va 0) (.va 1))) (.bin .add .i64 (.va 2) (.len (.va 3)))), false), ((.seq (.va 3) (.ls ⟨#[]⟩)), false), ((.lt (.bin .sub .i64 (.li 1048576) (.va 2)) (.len (.va 3))), false), ((.lt (.li 1048576) (.va 2)), false), ((.lt (.va 2) (.li 0)), false), ((.eq (.app 50 (.cons (.va 0) (.va 1))) (.li 2)), false), ((.eq (.app 50 (.cons (.va 0) (.va 1))) (.li 0)), false), ((.lt (.li 4096) (.va 1)), false), ((.lt (.va 1) (.li 1)), false), ((.app 902 (.va 1)), true), ((.app 57 (.va 0)), true)], none),
  ([((.app 62 (.cons (.va 0) (.cons (.va 1) (.cons (.va 2) (.va 3))))), false), ((.app 59 (.va 4)), true), ((.lt (.app 52 (.cons (.va 0) (.va 1))) (.bin .add .i64 (.va 2) (.len (.va 3)))), false), ((.seq (.va 3) (.ls ⟨#[]⟩)), false), ((.lt (.bin .sub .i64 (.li 1048576) (.va 2)) (.len (.va 3))), false), ((.lt (.li 1048576) (.va 2)), false), ((.lt (.va 2) (.li 0)), false), ((.eq (.app 50 (.cons (.va 0) (.va 1))) (.li 2)), false), ((.eq (.app 50 (.cons (.va 0) (.va 1))) (.li 0)), false), ((.lt (.li 4096) (.va 1)), false), ((.lt (.va 1) (.li 1)), false), ((.app 902 (.va 1)), true), ((.app 57 (.va 0)), true)], none),
  ([((.app 59 (.va 4)), false), ((.lt (.app 52 (.cons (.va 0) (.va 1))) (.bin .add .i64 (.va 2) (.len (.va 3)))), false), ((.seq (.va 3) (.ls ⟨#[]⟩)), false), ((.lt (.bin .sub .i64 (.li 1048576) (.va 2)) (.len (.va 3))), false), ((.lt (.li 1048576) (.va 2)), false), ((.lt (.va 2) (.li 0)), false), ((.eq (.app 50 (.cons (.va 0) (.va 1))) (.li 2)), false), ((.eq (.app 50 (.cons (.va 0) (.va 1))) (.li 0)), false), ((.lt (.li 4096) (.va 1)), false), ((.lt (.va 1) (.li 1)), false), ((.app 902 (.va 1)), true), ((.app 57 (.va 0)), true)], none),
  ([((.app 902 (.va 1)), false), ((.app 57 (.va 0)), true)], none),
  ([((.app 57 (.va 0)), false)], none)]
def rdtT : PT := (.node (.app 57 (.va 0)) (.node (.app 902 (.va 1)) (.node (.lt (.va 1) (.li 1)) .dead (.node (.lt (.li 4096) (.va 1)) .dead (.node (.eq (.app 50 (.cons (.va 0) (.va 1))) (.li 0)) .dead (.node (.eq (.app 50 (.cons (.va 0) (.va 1))) (.li 2)) .dead (.node (.lt (.va 2) (.li 0)) .leaf (.node (.lt (.va 3) (.li 0)) .leaf (.node (.lt (.va 2) (.app 52 (.cons (.va 0) (.va 1)))) (.node (.lt (.li 1048576) (.bin .add .i64 (.va 2) (.mn (.va 3) (.bin .sub .i64 (.app 52 (.cons (.va 0) (.va 1))) (.va 2))))) .dead .leaf) .leaf))))))) .dead) .dead)
def rdtL : List (List (X × Bool) × Option (EV × List (Option BV))) := [
  ([((.lt (.va 1) (.li 1)), true), ((.app 902 (.va 1)), true), ((.app 57 (.va 0)), true)], none),
  ([((.lt (.li 4096) (.va 1)), true), ((.lt (.va 1) (.li 1)), false), ((.app 902 (.va 1)), true), ((.app 57 (.va 0)), true)], none),
  ([((.eq (.app 50 (.cons (.va 0) (.va 1))) (.li 0)), true), ((.lt (.li 4096) (.va 1)), false), ((.lt (.va 1) (.li 1)), false), ((.app 902 (.va 1)), true), ((.app 57 (.va 0)), true)], none),
  ([((.eq (.app 50 (.cons (.va 0) (.va 1))) (.li 2)), true), ((.eq (.app 50 (.cons (.va 0) (.va 1))) (.li 0)), false), ((.lt (.li 4096) (.va 1)), false), ((.lt (.va 1) (.li 1)), false), ((.app 902 (.va 1)), true), ((.app 57 (.va 0)), true)], none),
  ([((.lt (.va 2) (.li 0)), true), ((.eq (.app 50 (.cons (.va 0) (.va 1))) (.li 2)), false), ((.eq (.app 50 (.cons (.va 0) (.va 1))) (.li 0)), false), ((.lt (.li 4096) (.va 1)), false), ((.lt (.va 1) (.li 1)), false), ((.app 902 (.va 1)), true), ((.app 57 (.va 0)), true)], some ((.tup [(.s (.str ⟨#[]⟩)), (.s (.int .i64 1))]), [some (.abs (.va 0))])),
  ([((.lt (.va 3) (.li 0)), true), ((.lt (.va 2) (.li 0)), false), ((.eq (.app 50 (.cons (.va 0) (.va 1))) (.li 2)), false), ((.eq (.app 50 (.cons (.va 0) (.va 1))) (.li 0)), false), ((.lt (.li 4096) (.va 1)), false), ((.lt (.va 1) (.li 1)), false), ((.app 902 (.va 1)), true), ((.app 57 (.va 0)), true)], some ((.tup [(.s (.str ⟨#[]⟩)), (.s (.int .i64 1))]), [some (.abs (.va 0))])),
  ([((.lt (.li 1048576) (.bin .add .i64 (.va 2) (.mn (.va 3) (.bin .sub .i64 (.app 52 (.cons (.va 0) (.va 1))) (.va 2))))), true), ((.lt (.va 2) (.app 52 (.cons (.va 0) (.va 1)))), true), ((.lt (.va 3) (.li 0)), false), ((.lt (.va 2) (.li 0)), false), ((.eq (.app 50 (.cons (.va 0) (.va 1))) (.li 2)), false), ((.eq (.app 50 (.cons (.va 0) (.va 1))) (.li 0)), false), ((.lt (.li 4096) (.va 1)), false), ((.lt (.va 1) (.li 1)), false), ((.app 902 (.va 1)), true), ((.app 57 (.va 0)), true)], none),
  ([((.lt (.li 1048576) (.bin .add .i64 (.va 2) (.mn (.va 3) (.bin .sub .i64 (.app 52 (.cons (.va 0) (.va 1))) (.va 2))))), false), ((.lt (.va 2) (.app 52 (.cons (.va 0) (.va 1)))), true), ((.lt (.va 3) (.li 0)), false), ((.lt (.va 2) (.li 0)), false), ((.eq (.app 50 (.cons (.va 0) (.va 1))) (.li 2)), false), ((.eq (.app 50 (.cons (.va 0) (.va 1))) (.li 0)), false), ((.lt (.li 4096) (.va 1)), false), ((.lt (.va 1) (.li 1)), false), ((.app 902 (.va 1)), true), ((.app 57 (.va 0)), true)], some ((.tup [(.s (.xs (.app 61 (.cons (.va 0) (.cons (.va 1) (.cons (.va 2) (.bin .add .i64 (.va 2) (.mn (.va 3) (.bin .sub .i64 (.app 52 (.cons (.va 0) (.va 1))) (.va 2)))))))))), (.s (.int .i64 0))]), [some (.abs (.va 0))])),
  ([((.lt (.va 2) (.app 52 (.cons (.va 0) (.va 1)))), false), ((.lt (.va 3) (.li 0)), false), ((.lt (.va 2) (.li 0)), false), ((.eq (.app 50 (.cons (.va 0) (.va 1))) (.li 2)), false), ((.eq (.app 50 (.cons (.va 0) (.va 1))) (.li 0)), false), ((.lt (.li 4096) (.va 1)), false), ((.lt (.va 1) (.li 1)), false), ((.app 902 (.va 1)), true), ((.app 57 (.va 0)), true)], some ((.tup [(.s (.str ⟨#[]⟩)), (.s (.int .i64 0))]), [some (.abs (.va 0))])),
  ([((.app 902 (.va 1)), false), ((.app 57 (.va 0)), true)], none),
  ([((.app 57 (.va 0)), false)], none)]
def trtT : PT := (.node (.app 57 (.va 0)) (.node (.app 902 (.va 1)) (.node (.lt (.va 1) (.li 1)) .dead (.node (.lt (.li 4096) (.va 1)) .dead (.node (.eq (.app 50 (.cons (.va 0) (.va 1))) (.li 0)) .dead (.node (.eq (.app 50 (.cons (.va 0) (.va 1))) (.li 2)) .dead (.node (.lt (.va 2) (.li 0)) .leaf (.node (.lt (.li 1048576) (.va 2)) .leaf (.node (.app 59 (.va 4)) .leaf .dead))))))) .dead) .dead)
def trtL : List (List (X × Bool) × Option (EV × List (Option BV))) := [
  ([((.lt (.va 1) (.li 1)), true), ((.app 902 (.va 1)), true), ((.app 57 (.va 0)), true)], none),
  ([((.lt (.li 4096) (.va 1)), true), ((.lt (.va 1) (.li 1)), false), ((.app 902 (.va 1)), true), ((.app 57 (.va 0)), true)], none),
  ([((.eq (.app 50 (.cons (.va 0) (.va 1))) (.li 0)), true), ((.lt (.li 4096) (.va 1)), false), ((.lt (.va 1) (.li 1)), false), ((.app 902 (.va 1)), true), ((.app 57 (.va 0)), true)], none),
  ([((.eq (.app 50 (.cons (.va 0) (.va 1))) (.li 2)), true), ((.eq (.app 50 (.cons (.va 0) (.va 1))) (.li 0)), false), ((.lt (.li 4096) (.va 1)), false), ((.lt (.va 1) (.li 1)), false), ((.app 902 (.va 1)), true), ((.app 57 (.va 0)), true)], none),
  ([((.lt (.va 2) (.li 0)), true), ((.eq (.app 50 (.cons (.va 0) (.va 1))) (.li 2)), false), ((.eq (.app 50 (.cons (.va 0) (.va 1))) (.li 0)), false), ((.lt (.li 4096) (.va 1)), false), ((.lt (.va 1) (.li 1)), false), ((.app 902 (.va 1)), true), ((.app 57 (.va 0)), true)], some ((.a (.s (.int .i64 1))), [some (.abs (.va 0))])),
  ([((.lt (.li 1048576) (.va 2)), true), ((.lt (.va 2) (.li 0)), false), ((.eq (.app 50 (.cons (.va 0) (.va 1))) (.li 2)), false), ((.eq (.app 50 (.cons (.va 0) (.va 1))) (.li 0)), false), ((.lt (.li 4096) (.va 1)), false), ((.lt (.va 1) (.li 1)), false), ((.app 902 (.va 1)), true), ((.app 57 (.va 0)), true)], some ((.a (.s (.int .i64 160))), [some (.abs (.va 0))])),
  ([((.app 59 (.va 4)), true), ((.lt (.li 1048576) (.va 2)), false), ((.lt (.va 2) (.li 0)), false), ((.eq (.app 50 (.cons (.va 0) (.va 1))) (.li 2)), false), ((.eq (.app 50 (.cons (.va 0) (.va 1))) (.li 0)), false), ((.lt (.li 4096) (.va 1)), false), ((.lt (.va 1) (.li 1)), false), ((.app 902 (.va 1)), true), ((.app 57 (.va 0)), true)], some ((.a (.s (.int .i64 0))), [some (.abs (.app 56 (.cons (.va 0) (.cons (.va 1) (.cons (.va 2) (.va 4))))))])),
  ([((.app 59 (.va 4)), false), ((.lt (.li 1048576) (.va 2)), false), ((.lt (.va 2) (.li 0)), false), ((.eq (.app 50 (.cons (.va 0) (.va 1))) (.li 2)), false), ((.eq (.app 50 (.cons (.va 0) (.va 1))) (.li 0)), false), ((.lt (.li 4096) (.va 1)), false), ((.lt (.va 1) (.li 1)), false), ((.app 902 (.va 1)), true), ((.app 57 (.va 0)), true)], none),
  ([((.app 902 (.va 1)), false), ((.app 57 (.va 0)), true)], none),
  ([((.app 57 (.va 0)), false)], none)]
def smtT : PT := (.node (.app 57 (.va 0)) (.node (.app 902 (.va 1)) (.node (.lt (.va 1) (.li 1)) .dead (.node (.lt (.li 4096) (.va 1)) .dead (.node (.eq (.app 50 (.cons (.va 0) (.va 1))) (.li 0)) .dead (.node (.app 902 (.va 5)) (.node (.lt (.va 5) (.li 1)) .dead (.node (.lt (.li 4096) (.va 5)) .dead (.node (.eq (.app 50 (.cons (.va 0) (.va 5))) (.li 0)) .dead (.node (.eq (.app 50 (.cons (.va 0) (.va 1))) (.li 2)) .dead (.node (.eq (.app 50 (.cons (.va 0) (.va 5))) (.li 2)) .dead (.node (.eq (.app 52 (.cons (.va 0) (.va 1))) (.app 52 (.cons (.va 0) (.va 5)))) (.node (.lt (.li 1048576) (.app 52 (.cons (.va 0) (.va 1)))) .dead (.node (.lt (.li 1048576) (.app 52 (.cons (.va 0) (.va 5)))) .dead .leaf)) .leaf)))))) .dead)))) .dead) .dead)
def smtL : List (List (X × Bool) × Option (EV × List (Option BV))) := [
  ([((.lt (.va 1) (.li 1)), true), ((.app 902 (.va 1)), true), ((.app 57 (.va 0)), true)], none),
  ([((.lt (.li 4096) (.va 1)), true), ((.lt (.va 1) (.li 1)), false), ((.app 902 (.va 1)), true), ((.app 57 (.va 0)), true)], none),
  ([((.eq (.app 50 (.cons (.va 0) (.va 1))) (.li 0)), true), ((.lt (.li 4096) (.va 1)), false), ((.lt (.va 1) (.li 1)), false), ((.app 902 (.va 1)), true), ((.app 57 (.va 0)), true)], none),
  ([((.lt (.va 5) (.li 1)), true), ((.app 902 (.va 5)), true), ((.eq (.app 50 (.cons (.va 0) (.va 1))) (.li 0)), false), ((.lt (.li 4096) (.va 1)), false), ((.lt (.va 1) (.li 1)), false), ((.app 902 (.va 1)), true), ((.app 57 (.va 0)), true)], none),
  ([((.lt (.li 4096) (.va 5)), true), ((.lt (.va 5) (.li 1)), false), ((.app 902 (.va 5)), true), ((.eq (.app 50 (.cons (.va 0) (.va 1))) (.li 0)), false), ((.lt (.li 4096) (.va 1)), false), ((.lt (.va 1) (.li 1)), false), ((.app 902 (.va 1)), true), ((.app 57 (.va 0)), true)], none),
  ([((.eq (.app 50 (.cons (.va 0) (.va 5))) (.li 0)), true), ((.lt (.li 4096) (.va 5)), false), ((.lt (.va 5) (.li 1)), false), ((.app 902 (.va 5)), true), ((.eq (.app 50 (.cons (.va 0) (.va 1))) (.li 0)), false), ((.lt (.li 4096) (.va 1)), false), ((.lt (.va 1) (.li 1)), false), ((.app 902 (.va 1)), true), ((.app 57 (.va 0)), true)], none),
  ([((.eq (.app 50 (.cons (.va 0) (.va 1))) (.li 2)), true), ((.eq (.app 50 (.cons (.va 0) (.va 5))) (.li 0)), false), ((.lt (.li 4096) (.va 5)), false), ((.lt (.va 5) (.li 1)), false), ((.app 902 (.va 5)), true), ((.eq (.app 50 (.cons (.va 0) (.va 1))) (.li 0)), false), ((.lt (.li 4096) (.va 1)), false), ((.lt (.va 1) (.li 1)), false), ((.app 902 (.va 1)), true), ((.app 57 (.va 0)), true)], none),
  ([((.eq (.app 50 (.cons (.va 0) (.va 5))) (.li 2)), true), ((.eq (.app 50 (.cons (.va 0) (.va 1))) (.li 2)), false), ((.eq (.app 50 (.cons (.va 0) (.va 5))) (.li 0)), false), ((.lt (.li 4096) (.va 5)), false), ((.lt (.va 5) (.li 1)), false), ((.app 902 (.va 5)), true), ((.eq (.app 50 (.cons (.va 0) (.va 1))) (.li 0)), false), ((.lt (.li 4096) (.va 1)), false), ((.lt (.va 1) (.li 1)), false), ((.app 902 (.va 1)), true), ((.app 57 (.va 0)), true)], none),
  ([((.lt (.li 1048576) (.app 52 (.cons (.va 0) (.va 1)))), true), ((.eq (.app 52 (.cons (.va 0) (.va 1))) (.app 52 (.cons (.va 0) (.va 5)))), true), ((.eq (.app 50 (.cons (.va 0) (.va 5))) (.li 2)), false), ((.eq (.app 50 (.cons (.va 0) (.va 1))) (.li 2)), false), ((.eq (.app 50 (.cons (.va 0) (.va 5))) (.li 0)), false), ((.lt (.li 4096) (.va 5)), false), ((.lt (.va 5) (.li 1)), false), ((.app 902 (.va 5)), true), ((.eq (.app 50 (.cons (.va 0) (.va 1))) (.li 0)), false), ((.lt (.li 4096) (.va 1)), false), ((.lt (.va 1) (.li 1)), false), ((.app 902 (.va 1)), true), ((.app 57 (.va 0)), true)], none),
  ([((.lt (.li 1048576) (.app 52 (.cons (.va 0) (.va 5)))), true), ((.lt (.li 1048576) (.app 52 (.cons (.va 0) (.va 1)))), false), ((.eq (.app 52 (.cons (.va 0) (.va 1))) (.app 52 (.cons (.va 0) (.va 5)))), true), ((.eq (.app 50 (.cons (.va 0) (.va 5))) (.li 2)), false), ((.eq (.app 50 (.cons (.va 0) (.va 1))) (.li 2)), false), ((.eq (.app 50 (.cons (.va 0) (.va 5))) (.li 0)), false), ((.lt (.li 4096) (.va 5)), false), ((.lt (.va 5) (.li 1)), false), ((.app 902 (.va 5)), true), ((.eq (.app 50 (.cons (.va 0) (.va 1))) (.li 0)), false), ((.lt (.li 4096) (.va 1)), false), ((.lt (.va 1) (.li 1)), false), ((.app 902 (.va 1)), true), ((.app 57 (.va 0)), true)], none),
  ([((.lt (.li 1048576) (.app 52 (.cons (.va 0) (.va 5)))), false), ((.lt (.li 1048576) (.app 52 (.cons (.va 0) (.va 1)))), false), ((.eq (.app 52 (.cons (.va 0) (.va 1))) (.app 52 (.cons (.va 0) (.va 5)))), true), ((.eq (.app 50 (.cons (.va 0) (.va 5))) (.li 2)), false), ((.eq (.app 50 (.cons (.va 0) (.va 1))) (.li 2)), false), ((.eq (.app 50 (.cons (.va 0) (.va 5))) (.li 0)), false), ((.lt (.li 4096) (.va 5)), false), ((.lt (.va 5) (.li 1)), false), ((.app 902 (.va 5)), true), ((.eq (.app 50 (.cons (.va 0) (.va 1))) (.li 0)), false), ((.lt (.li 4096) (.va 1)), false), ((.lt (.va 1) (.li 1)), false), ((.app 902 (.va 1)), true), ((.app 57 (.va 0)), true)], some ((.tup [(.s (.xb (.seq (.app 61 (.cons (.va 0) (.cons (.va 1) (.cons (.li 0) (.app 52 (.cons (.va 0) (.va 1))))))) (.app 61 (.cons (.va 0) (.cons (.va 5) (.cons (.li 0) (.app 52 (.cons (.va 0) (.va 5)))))))))), (.s (.int .i64 0))]), [some (.abs (.va 0))])),
  ([((.eq (.app 52 (.cons (.va 0) (.va 1))) (.app 52 (.cons (.va 0) (.va 5)))), false), ((.eq (.app 50 (.cons (.va 0) (.va 5))) (.li 2)), false), ((.eq (.app 50 (.cons (.va 0) (.va 1))) (.li 2)), false), ((.eq (.app 50 (.cons (.va 0) (.va 5))) (.li 0)), false), ((.lt (.li 4096) (.va 5)), false), ((.lt (.va 5) (.li 1)), false), ((.app 902 (.va 5)), true), ((.eq (.app 50 (.cons (.va 0) (.va 1))) (.li 0)), false), ((.lt (.li 4096) (.va 1)), false), ((.lt (.va 1) (.li 1)), false), ((.app 902 (.va 1)), true), ((.app 57 (.va 0)), true)], some ((.tup [(.s (.bool false)), (.s (.int .i64 0))]), [some (.abs (.va 0))])),
  ([((.app 902 (.va 5)), false), ((.eq (.app 50 (.cons (.va 0) (.va 1))) (.li 0)), false), ((.lt (.li 4096) (.va 1)), false), ((.lt (.va 1) (.li 1)), false), ((.app 902 (.va 1)), true), ((.app 57 (.va 0)), true)], none),
  ([((.app 902 (.va 1)), false), ((.app 57 (.va 0)), true)], none),
  ([((.app 57 (.va 0)), false)], none)]
end Go.Proofs.YtcnimekhpnejlaaGreat.Ev

/- Files: Write, Read, Truncate, Same. -/
namespace Go.Proofs.YtcnimekhpnejlaaGreat.Ev
open Go Go.RowKit
set_option linter.unusedVariables false
set_option linter.unusedSimpArgs false
set_option maxRecDepth 10000

noncomputable def sumW (ρ : Rho) (pc : List (X × Bool)) : Call := sumOr (sumWhole (fun f => (funT.get f).isSome) pc (evCall (ctx rules0 ρ pc) funT.get (sumFi pc) 100000 1000)) (sumFi pc)
theorem sumW_ok {v : Nat → D} {o : Nat → Value} {pc : List (X × Bool)} (hpc : Told (rhoI v o) pc) : CallOk (ctx rules0 (rhoI v o) pc) (sumW (rhoI v o) pc) :=
  sumOr_ok (sumWhole_ok hpc (evCall_ok (rules0_ok _ pc hpc) (show (ctx rules0 (rhoI v o) pc).P.follows .mixedOrders = true from mixed) (funs_ok (C := ctx rules0 (rhoI v o) pc) rfl) (sumFi_ok hpc) 1000)) (sumFi_ok hpc)
theorem wrt_ev (ρ : Rho) : ways (fun pc => (evCall (ctx rules0 ρ pc) funT.get (sumW ρ pc) 100000 1000 10 [.a (.s (.ptr 0 0)), .a (.s (.xi .i64 (.va 1))), .a (.s (.xi .i64 (.va 2))), .a (.s (.xs (.va 3))), .a (.s (.xi .u64 (.va 4)))] oneM 1).map (view [0])) wrtT [] = some wrtL := by kernel_rfl
theorem rdt_ev (ρ : Rho) : ways (fun pc => (evCall (ctx rules0 ρ pc) funT.get (sumFi pc) 100000 1000 11 [.a (.s (.ptr 0 0)), .a (.s (.xi .i64 (.va 1))), .a (.s (.xi .i64 (.va 2))), .a (.s (.xi .i64 (.va 3)))] oneM 1).map (view [0])) rdtT [] = some rdtL := by kernel_rfl
theorem trt_ev (ρ : Rho) : ways (fun pc => (evCall (ctx rules0 ρ pc) funT.get (sumFi pc) 100000 1000 12 [.a (.s (.ptr 0 0)), .a (.s (.xi .i64 (.va 1))), .a (.s (.xi .i64 (.va 2))), .a (.s (.xi .u64 (.va 4)))] oneM 1).map (view [0])) trtT [] = some trtL := by kernel_rfl
theorem smt_ev (ρ : Rho) : ways (fun pc => (evCall (ctx rules0 ρ pc) funT.get (sumFi pc) 100000 1000 13 [.a (.s (.ptr 0 0)), .a (.s (.xi .i64 (.va 1))), .a (.s (.xi .i64 (.va 5)))] oneM 1).map (view [0])) smtT [] = some smtL := by kernel_rfl
end Go.Proofs.YtcnimekhpnejlaaGreat.Ev
