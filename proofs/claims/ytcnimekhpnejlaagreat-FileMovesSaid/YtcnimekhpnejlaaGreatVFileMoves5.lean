/- Texts of this seat joined into one: Zg, Pe, Pf, Ph, Dc, Ma. -/
import Derived.Test.YtcnimekhpnejlaaGreatVFileMoves4
import Derived.Test.YtcnimekhpnejlaaGreatVFileMoves0
import Derived.Test.YtcnimekhpnejlaaGreatVFileMoves3
import Derived.Test.YtcnimekhpnejlaaGreatVFileMoves2
import Derived.Test.YtcnimekhpnejlaaGreatVB10

/- The rule of the function within Zero holds. -/
namespace Go.Proofs.YtcnimekhpnejlaaGreat.Ev
open Go Go.RowKit
set_option linter.unusedVariables false
set_option linter.unusedSimpArgs false
set_option maxRecDepth 10000
/-- The first cell of a block of cells. -/
theorem HRel.first {E : Env} {h : T Blk} {w : World} (hr : HRel E h w) {j : Nat} {t : TypeId} {c : Cells} (hj : h.get j = some (.cells t none c false)) (hn : 1 ≤ c.n) : ∃ q v, E.m j = some q ∧ q.dl = 0 ∧ w.cell? ⟨q.blk, 0, none⟩ = some v ∧ (c.get 0).rel E v := by
  obtain ⟨q, hq⟩ := hr.pl hj
  obtain ⟨o, ho, hrel⟩ := hr.blk hj hq
  obtain ⟨cs, lo, hi, rfl, hc⟩ := hrel
  have hd := hc.dl rfl
  obtain ⟨vs, hl, hvs, hcell⟩ := hr.read hj hq 0 1 (by omega)
  match vs, hl with
  | [v], _ =>
    have h1 := hcell 0 v rfl
    rw [hd] at h1
    have h2 := Rels.get hvs 0 (c.get 0) (by rw [Cells.list_get c 1 0 0 (by omega)])
    obtain ⟨b, hb, h3⟩ := h2
    obtain rfl : v = b := by simpa using hb
    exact ⟨q, v, hq, hd, h1, h3⟩
theorem sumZ1_ok {v : Nat → D} {o : Nat → Value} {pc : List (X × Bool)} (hpc : Told (rhoI v o) pc) {R : Rules} : CallOk (ctx R (rhoI v o) pc) (sumZ1 pc) := by
  intro g args h nx r he E w vs hr hρ hf hargs
  replace hρ : E.ρ = rhoI v o := hρ
  unfold sumZ1 at he
  split at he
  · rename_i hg
    subst hg
    split at he
    · rename_i i j1 j2 j3 j4
      split at he
      · rename_i e t1 c1 t2 c2 t3 c3 t4 c4 hi h1 h2 h3 h4
        split at he
        · rename_i hc
          obtain ⟨n1, n2, n3, n4, d1, d2, d3, d4, h57⟩ := hc
          obtain ⟨⟨k1, n⟩, hn, he⟩ := Option.bind_eq_some_iff.1 he
          obtain ⟨⟨k2, a⟩, ha, he⟩ := Option.bind_eq_some_iff.1 he
          obtain ⟨⟨k3, m⟩, hm, he⟩ := Option.bind_eq_some_iff.1 he
          obtain ⟨⟨k4, st⟩, hst, he⟩ := Option.bind_eq_some_iff.1 he
          split at he
          · rename_i hk
            obtain ⟨e1, e2, e3, e4, c59, cn, cu, cm, c62⟩ := hk
            have e1 : k1 = .i64 := e1
            have e2 : k2 = .i64 := e2
            have e3 : k3 = .i64 := e3
            have e4 : k4 = .u64 := e4
            subst e1 e2 e3 e4
            obtain rfl := Option.some.inj he
            obtain ⟨S, hS⟩ := told57 hpc h57
            obtain ⟨q1, v1, m1, l1, w1, r1⟩ := hr.first h1 n1
            obtain ⟨q2, v2, m2, l2, w2, r2⟩ := hr.first h2 n2
            obtain ⟨q3, v3, m3, l3, w3, r3⟩ := hr.first h3 n3
            obtain ⟨q4, v4, m4, l4, w4, r4⟩ := hr.first h4 n4
            have r1 : v1 = .int .i64 (n.int (rhoI v o)) := by rw [← hρ]; exact asI_rel hn r1
            have r2 : v2 = .int .i64 (a.int (rhoI v o)) := by rw [← hρ]; exact asI_rel ha r2
            have r3 : v3 = .int .i64 (m.int (rhoI v o)) := by rw [← hρ]; exact asI_rel hm r3
            have r4 : v4 = .int .u64 (st.int (rhoI v o)) := by rw [← hρ]; exact asI_rel hst r4
            subst r1 r2 r3 r4
            obtain ⟨p, ob, hp, hob, hd0⟩ := hr.at_ i _ hi
            have hd : p.dl = 0 := hd0
            have his := hr.abs.ab i e p hi hp
            have his2 : isD Tryz.prog (e.val (rhoI v o)) p.blk w := by rw [hρ] at his; exact his
            rw [hS] at his2
            have hnum : 1 ≤ n.int (rhoI v o) ∧ n.int (rhoI v o) ≤ 4096 := of_decide_eq_true (rNum_ok hpc cn).symm
            have hkd : (S (n.int (rhoI v o))).kind ≠ 0 := fun h0 => by
              have := rUsed_ok hpc hS cu
              rw [if_pos h0] at this
              omega
            have hm0 : decide (m.int (rhoI v o) < 0) = false := truL_ok hpc cm
            have hm0 := of_decide_eq_false hm0
            have c62 : X.bool (rhoI v o) (.app 62 (.cons e (.cons n (.cons a (.app 69 m))))) = true := truL_ok hpc c62
            have f62 : X.bool (rhoI v o) (.app 62 (.cons e (.cons n (.cons a (.app 69 m))))) = decide (0 ≤ a.int (rhoI v o) ∧ a.int (rhoI v o) + ((X.str (rhoI v o) (.app 69 m)).size : Nat) ≤ ((S (n.int (rhoI v o))).bytes.length : Nat)) := by
              show (FNi 62 (.p (e.val (rhoI v o)) (.p (n.val (rhoI v o)) (.p (a.val (rhoI v o)) ((X.app 69 m).val (rhoI v o)))))).bool = _
              rw [hS]; rfl
            rw [f62] at c62
            have c62 := of_decide_eq_true c62
            have z69 : X.str (rhoI v o) (.app 69 m) = ⟨(zeros (m.int (rhoI v o)).toNat).toArray⟩ := rfl
            have zs : (X.str (rhoI v o) (.app 69 m)).size = (m.int (rhoI v o)).toNat := by
              rw [z69]
              show (zeros (m.int (rhoI v o)).toNat).toArray.size = _
              rw [List.size_toArray, zeros_length]
            rw [zs] at c62
            obtain ⟨aN, haN⟩ : ∃ k : Nat, a.int (rhoI v o) = k := ⟨(a.int (rhoI v o)).toNat, by omega⟩
            obtain ⟨mN, hmN⟩ : ∃ k : Nat, m.int (rhoI v o) = k := ⟨(m.int (rhoI v o)).toNat, by omega⟩
            have far : ∀ j b q, h.get j = some b → E.m j = some q → i ≠ j → ¬ ownD Tryz.prog p.blk w q.blk := fun j b q hj hq hne ho => hr.abs.far i e p j b q hi hp hj hq (Ne.symm hne) (by rw [hρ]; exact ho)
            match vs, hargs with
            | [u0, u1, u2, u3, u4], hargs =>
              obtain ⟨⟨x0, y0, f0⟩, ⟨x1, y1, f1⟩, ⟨x2, y2, f2⟩, ⟨x3, y3, f3⟩, ⟨x4, y4, f4⟩, _⟩ := hargs
              rw [hp] at y0; obtain rfl := Option.some.inj y0
              rw [m1] at y1; obtain rfl := Option.some.inj y1
              rw [m2] at y2; obtain rfl := Option.some.inj y2
              rw [m3] at y3; obtain rfl := Option.some.inj y3
              rw [m4] at y4; obtain rfl := Option.some.inj y4
              rw [hd] at f0; rw [l1] at f1; rw [l2] at f2; rw [l3] at f3; rw [l4] at f4
              subst f0 f1 f2 f3 f4
              rw [haN] at w2 c62
              rw [hmN] at w3 c62
              rw [Int.toNat_natCast] at c62
              refine (zero1_any his2 hnum hkd (a := aN) (m := mN) (by omega) (inU64_oki hpc c59) w1 w2 w3 w4 (far j1 _ _ h1 m1 d1) (far j2 _ _ h2 m2 d2) (far j3 _ _ h3 m3 d3) (far j4 _ _ h4 m4 d4)).mono fun en w' ⟨he, hK⟩ => ?_
              refine ⟨_, E, he, Goes.acall hr hi hp (e' := .app 60 (.cons e (.cons n (.cons a (.cons (.app 69 m) st))))) (w' := w') ?_ (fun k hk => ?_) hK.but.os hK.but.tape hK.but.output hK.but.size (fun k hk hn => hK.but.block k hk fun ho => hn (by rw [hρ]; exact ho)), rfl⟩
              · rw [hρ]
                have hv60 : X.val (rhoI v o) (.app 60 (.cons e (.cons n (.cons a (.cons (.app 69 m) st))))) = .st (.ino (updS S (n.int (rhoI v o)) (layN (S (n.int (rhoI v o))) aN (zeros mN) (st.int (rhoI v o))))) := by
                  show FNi 60 (.p (e.val (rhoI v o)) (.p (n.val (rhoI v o)) (.p (a.val (rhoI v o)) (.p ((X.app 69 m).val (rhoI v o)) (st.val (rhoI v o)))))) = _
                  rw [hS]
                  show D.st (.ino (updS S (n.int (rhoI v o)) (layN (S (n.int (rhoI v o))) (a.int (rhoI v o)).toNat (zeros (m.int (rhoI v o)).toNat) (st.int (rhoI v o))))) = _
                  rw [haN, hmN, Int.toNat_natCast, Int.toNat_natCast]
                show isD Tryz.prog _ _ _
                rw [hv60]
                exact hK.is
              · rw [hρ] at hk ⊢
                exact hK.own k hk
          · cases he
        · cases he
      · cases he
    · cases he
  · cases he
end Go.Proofs.YtcnimekhpnejlaaGreat.Ev

/- The statements of files: what is done. -/
namespace Go.Proofs.YtcnimekhpnejlaaGreat.Ev
open Go Go.RowKit
set_option linter.unusedVariables false
set_option linter.unusedSimpArgs false
set_option maxRecDepth 10000
noncomputable def sumDD (ρ : Rho) (pc : List (X × Bool)) : Call := sumDid (fun f => (funT.get f).isSome) pc (evCall (ctx rules0 ρ pc) funT.get (sumOr (sumZ1 pc) (sumFi pc)) 100000 1000)
theorem sumDD_ok {v : Nat → D} {o : Nat → Value} {pc : List (X × Bool)} (hpc : Told (rhoI v o) pc) : CallOk (ctx rules0 (rhoI v o) pc) (sumDD (rhoI v o) pc) :=
  sumOr_ok (sumWhole_ok hpc (evCall_ok (rules0_ok _ pc hpc) (show (ctx rules0 (rhoI v o) pc).P.follows .mixedOrders = true from mixed) (funs_ok (C := ctx rules0 (rhoI v o) pc) rfl) (sumOr_ok (sumZ1_ok hpc) (sumFi_ok hpc)) 1000)) (sumOr_ok (sumA_ok (rLaw_ok hpc)) (sumFi_ok hpc))
def didArgs : List EV := [.a (.s (.ptr 0 0)), .a (.s (.xi .i64 (.va 1))), .a (.agg [.xi .i64 (.va 2), .xi .i64 (.va 3), .xi .i64 (.va 4), .xs (.va 5), .xi .u64 (.va 6)])]
theorem did_ev0 (ρ : Rho) : (evCall (ctx rules0 ρ didP0) funT.get (sumDD ρ didP0) 100000 1000 17 didArgs oneM 1).map (view [0]) = some didR0 := by kernel_rfl
theorem did_ev1 (ρ : Rho) : (evCall (ctx rules0 ρ didP1) funT.get (sumDD ρ didP1) 100000 1000 17 didArgs oneM 1).map (view [0]) = some didR1 := by kernel_rfl
theorem did_ev2 (ρ : Rho) : (evCall (ctx rules0 ρ didP2) funT.get (sumDD ρ didP2) 100000 1000 17 didArgs oneM 1).map (view [0]) = some didR2 := by kernel_rfl
theorem did_ev3 (ρ : Rho) : (evCall (ctx rules0 ρ didP3) funT.get (sumDD ρ didP3) 100000 1000 17 didArgs oneM 1).map (view [0]) = some didR3 := by kernel_rfl
theorem did_ev4 (ρ : Rho) : (evCall (ctx rules0 ρ didP4) funT.get (sumDD ρ didP4) 100000 1000 17 didArgs oneM 1).map (view [0]) = some didR4 := by kernel_rfl
theorem did_ev5 (ρ : Rho) : (evCall (ctx rules0 ρ didP5) funT.get (sumDD ρ didP5) 100000 1000 17 didArgs oneM 1).map (view [0]) = some didR5 := by kernel_rfl
theorem did_ev6 (ρ : Rho) : (evCall (ctx rules0 ρ didP6) funT.get (sumDD ρ didP6) 100000 1000 17 didArgs oneM 1).map (view [0]) = some didR6 := by kernel_rfl
theorem did_ev7 (ρ : Rho) : (evCall (ctx rules0 ρ didP7) funT.get (sumDD ρ didP7) 100000 1000 17 didArgs oneM 1).map (view [0]) = some didR7 := by kernel_rfl
theorem did_ev8 (ρ : Rho) : (evCall (ctx rules0 ρ didP8) funT.get (sumDD ρ didP8) 100000 1000 17 didArgs oneM 1).map (view [0]) = some didR8 := by kernel_rfl
theorem did_ev9 (ρ : Rho) : (evCall (ctx rules0 ρ didP9) funT.get (sumDD ρ didP9) 100000 1000 17 didArgs oneM 1).map (view [0]) = some didR9 := by kernel_rfl
theorem did_ev10 (ρ : Rho) : (evCall (ctx rules0 ρ didP10) funT.get (sumDD ρ didP10) 100000 1000 17 didArgs oneM 1).map (view [0]) = some didR10 := by kernel_rfl
theorem did_ev11 (ρ : Rho) : (evCall (ctx rules0 ρ didP11) funT.get (sumDD ρ didP11) 100000 1000 17 didArgs oneM 1).map (view [0]) = some didR11 := by kernel_rfl
theorem did_ev12 (ρ : Rho) : (evCall (ctx rules0 ρ didP12) funT.get (sumDD ρ didP12) 100000 1000 17 didArgs oneM 1).map (view [0]) = some didR12 := by kernel_rfl
theorem did_fin {ρ : Rho} {a b : SV} {x y : Int} (ha : ∀ E u, E.ρ = ρ → a.rel E u → u = .int .i64 x) (hb : ∀ E u, E.ρ = ρ → b.rel E u → u = .int .i64 y) :
    ∀ E u, E.ρ = ρ → (EV.tup [.s a, .s b]).rel E u → u = .tuple #[.int .i64 x, .int .i64 y] := fun E u hE hu => tupV2 hu (ha E · hE) (hb E · hE)
set_option maxHeartbeats 4000000 in
theorem did_any {w : World} {x : Nat} {S : Int → Nd} (h : isD Tryz.prog (.st (.ino S)) x w) {n : Int} (hn : FileN S n) (k a m : Int) (ha : i64 a) (hm : i64 m) (t : ByteArray) {st : Int} (hst : 0 ≤ st ∧ st ≤ 18446744073709551615) :
    Acts Tryz.prog 17 x [.int .i64 n, actV k a m t st] w fun u d => d = .st (.ino (updS S n (doN (kindA k) (S n) a m t.data.toList st).2.2)) ∧ u = .tuple #[.int .i64 (doN (kindA k) (S n) a m t.data.toList st).1, .int .i64 (doN (kindA k) (S n) a m t.data.toList st).2.1] := by
  have hsz := size_le h n
  obtain ⟨hn1, hn2⟩ := hn
  unfold i64 at ha hm
  have lt := ba_size t
  obtain ⟨v, hv⟩ : ∃ v, v = ofL [.st (.ino S), .i n, .i k, .i a, .i m, .s t, .i st] := ⟨_, rfl⟩
  obtain ⟨o, ho⟩ : ∃ o : Nat → Value, o = fun _ => undef := ⟨_, rfl⟩
  have go : ∀ (pc : List (X × Bool)) (r : EV) (e : X) (y : Int × Int × Nd), Told (rhoI v o) pc → (∀ ρ, (evCall (ctx rules0 ρ pc) funT.get (sumDD ρ pc) 100000 1000 17 didArgs oneM 1).map (view [0]) = some (r, [some (.abs e)])) →
      (∀ E u, E.ρ = rhoI v o → r.rel E u → u = .tuple #[.int .i64 y.1, .int .i64 y.2.1]) → X.val (rhoI v o) e = .st (.ino (updS S n y.2.2)) → Acts Tryz.prog 17 x [.int .i64 n, actV k a m t st] w fun u d => d = .st (.ino (updS S n y.2.2)) ∧ u = .tuple #[.int .i64 y.1, .int .i64 y.2.1] := fun pc r e y hpc hev hb he => by
    have hr : HRel (envL [x] (rhoI v o)) oneM w := by rw [hv]; exact one_open h _ _
    have hrel : Rels (EV.rel (envL [x] (rhoI v o))) didArgs [.pointer (some ⟨x, 0, none⟩), .int .i64 n, actV k a m t st] := by
      rw [hv]
      exact ⟨⟨⟨x, 0, 0⟩, envL_at rfl, rfl⟩, rfl, ⟨_, rfl, rfl, rfl, rfl, rfl, rfl, trivial⟩, trivial⟩
    exact one_came h (call_at (rules0_ok _) hpc (sumDD_ok hpc) (hev _) hr rfl (envL_fresh _ _) hrel) fun E' u hE hu => ⟨he, hb E' u hE hu⟩
  have h0 : X.val (rhoI v o) (.va 0) = .st (.ino S) := by rw [hv]; rfl
  have i1 : X.int (rhoI v o) (.va 1) = n := by rw [hv]; rfl
  have i2 : X.int (rhoI v o) (.va 2) = k := by rw [hv]; rfl
  have i3 : X.int (rhoI v o) (.va 3) = a := by rw [hv]; rfl
  have i4 : X.int (rhoI v o) (.va 4) = m := by rw [hv]; rfl
  have s5 : X.str (rhoI v o) (.va 5) = t := by rw [hv]; rfl
  have i6 : X.int (rhoI v o) (.va 6) = st := by rw [hv]; rfl
  clear hv ho
  have l0 : X.int (rhoI v o) (.app 52 (.cons (.va 0) (.va 1))) = ((S n).bytes.length : Nat) := by rw [i52 h0, i1]
  have k0 : X.int (rhoI v o) (.app 50 (.cons (.va 0) (.va 1))) = 1 := by rw [i50 h0, i1, hn2]
  have q57 := b57 h0
  have q68 : X.bool (rhoI v o) (.app 68 (.cons (.va 0) (.va 1))) = true := by
    rw [b68 h0, i1]
    exact decide_eq_true ⟨hn1.1, hn1.2, hn2⟩
  have b902 := fun e => b902 (v := v) (o := o) (e := e)
  have b59 := fun e => b59 (v := v) (o := o) (e := e)
  have same : updS S n (S n) = S := updS_same S n
  have hk8 := tmod8 k
  have qk : X.int (rhoI v o) (.bin .rem .i64 didX2 (.li 8)) = kindA k := by
    unfold didX2 kindA
    rw [rem_int', add_int, rem_int', li_int, i2, wrap_i (by omega) (by omega)]
  obtain ⟨K, hK⟩ : ∃ K, K = kindA k := ⟨_, rfl⟩
  rw [← hK] at qk ⊢
  obtain ⟨T, hT⟩ : ∃ T, T = t.data.toList := ⟨_, rfl⟩
  have q64 : ∀ e, X.bool (rhoI v o) (.app 64 (.cons e (.va 5))) = decide (0 ≤ X.int (rhoI v o) e ∧ X.int (rhoI v o) e + ((T.length : Nat) : Int) ≤ 1048576) := fun e => by rw [b64, s5, hT, lt]
  have v65' : ∀ e, X.val (rhoI v o) (.app 65 (.cons (.va 0) (.cons (.va 1) (.cons e (.cons (.va 5) (.va 6)))))) = .st (.ino (updS S n (wrN (S n) (X.int (rhoI v o) e).toNat T st))) := fun e => by rw [v65 h0, i1, s5, i6, hT]
  have ln5 : X.int (rhoI v o) (.len (.va 5)) = ((T.length : Nat) : Int) := by rw [len_int, s5, hT, lt]
  rw [← hT]
  clear hT lt s5 i2 hK hk8
  obtain ⟨y, hy⟩ : ∃ y, doN K (S n) a m T st = y := ⟨_, rfl⟩
  rw [hy]
  by_cases c3 : K = 3
  · have e : (if ((S n).bytes.length : Int) + (T.length : Nat) ≤ 1048576 then ((((S n).bytes.length : Nat) : Int), (0 : Int), wrN (S n) (S n).bytes.length T st) else (0, 160, S n)) = y := by rw [← hy]; unfold doN; rw [if_pos c3]
    by_cases c : ((S n).bytes.length : Int) + (T.length : Nat) ≤ 1048576
    · rw [if_pos c] at e
      subst e
      exact go didP0 _ _ _ (by simp only [didP0, told_cons, told_nil, lt_true, lt_false, eq_true, eq_false, li_int, and_true, true_and, i1, i3, i4, l0, k0, q57, q68, b59, b902, i6, qk, didX0, didX1, q64, decide_eq_true_eq, decide_eq_false_iff_not]; omega) did_ev0 (did_fin (xi_fin l0) (int_fin rfl)) (by rw [v65', l0]; rfl)
    · rw [if_neg c] at e
      subst e
      exact go didP1 _ _ _ (by simp only [didP1, told_cons, told_nil, lt_true, lt_false, eq_true, eq_false, li_int, and_true, true_and, i1, i3, i4, l0, k0, q57, q68, b59, b902, i6, qk, didX0, didX1, q64, decide_eq_true_eq, decide_eq_false_iff_not]; omega) did_ev1 (did_fin (int_fin rfl) (int_fin rfl)) (by rw [same]; exact h0)
  by_cases c4 : K = 4
  · have e : (if a < 0 then ((0 : Int), (1 : Int), S n) else if 1048576 < a then (0, 160, S n) else (0, 0, resN (S n) a.toNat st)) = y := by rw [← hy]; unfold doN; rw [if_neg c3, if_pos c4]
    by_cases c : a < 0
    · rw [if_pos c] at e
      subst e
      exact go didP2 _ _ _ (by simp only [didP2, told_cons, told_nil, lt_true, lt_false, eq_true, eq_false, li_int, and_true, true_and, i1, i3, i4, l0, k0, q57, q68, b59, b902, i6, qk, decide_eq_true_eq, decide_eq_false_iff_not]; omega) did_ev2 (did_fin (int_fin rfl) (int_fin rfl)) (by rw [same]; exact h0)
    rw [if_neg c] at e
    by_cases c2 : 1048576 < a
    · rw [if_pos c2] at e
      subst e
      exact go didP3 _ _ _ (by simp only [didP3, told_cons, told_nil, lt_true, lt_false, eq_true, eq_false, li_int, and_true, true_and, i1, i3, i4, l0, k0, q57, q68, b59, b902, i6, qk, decide_eq_true_eq, decide_eq_false_iff_not]; omega) did_ev3 (did_fin (int_fin rfl) (int_fin rfl)) (by rw [same]; exact h0)
    rw [if_neg c2] at e
    subst e
    exact go didP4 _ _ _ (by simp only [didP4, told_cons, told_nil, lt_true, lt_false, eq_true, eq_false, li_int, and_true, true_and, i1, i3, i4, l0, k0, q57, q68, b59, b902, i6, qk, decide_eq_true_eq, decide_eq_false_iff_not]; omega) did_ev4 (did_fin (int_fin rfl) (int_fin rfl)) (by rw [v56 h0, i1, i3, i6])
  by_cases c5 : K = 5
  · have e : (if a < 0 ∨ m < 0 then ((0 : Int), (1 : Int), S n) else if ((S n).bytes.length : Int) ≤ a ∨ m = 0 then (0, 0, S n) else (0, 0, zeroN (S n) a.toNat m.toNat st)) = y := by rw [← hy]; unfold doN; rw [if_neg c3, if_neg c4, if_pos c5]
    by_cases c : a < 0
    · rw [if_pos (.inl c)] at e
      subst e
      exact go didP5 _ _ _ (by simp only [didP5, told_cons, told_nil, lt_true, lt_false, eq_true, eq_false, li_int, and_true, true_and, i1, i3, i4, l0, k0, q57, q68, b59, b902, i6, qk, decide_eq_true_eq, decide_eq_false_iff_not]; omega) did_ev5 (did_fin (int_fin rfl) (int_fin rfl)) (by rw [same]; exact h0)
    by_cases c2 : m < 0
    · rw [if_pos (.inr c2)] at e
      subst e
      exact go didP6 _ _ _ (by simp only [didP6, told_cons, told_nil, lt_true, lt_false, eq_true, eq_false, li_int, and_true, true_and, i1, i3, i4, l0, k0, q57, q68, b59, b902, i6, qk, decide_eq_true_eq, decide_eq_false_iff_not]; omega) did_ev6 (did_fin (int_fin rfl) (int_fin rfl)) (by rw [same]; exact h0)
    rw [if_neg (by omega)] at e
    by_cases c6 : ((S n).bytes.length : Int) ≤ a
    · rw [if_pos (.inl c6)] at e
      subst e
      exact go didP9 _ _ _ (by simp only [didP9, told_cons, told_nil, lt_true, lt_false, eq_true, eq_false, li_int, and_true, true_and, i1, i3, i4, l0, k0, q57, q68, b59, b902, i6, qk, decide_eq_true_eq, decide_eq_false_iff_not]; omega) did_ev9 (did_fin (int_fin rfl) (int_fin rfl)) (by rw [same]; exact h0)
    by_cases c7 : m = 0
    · rw [if_pos (.inr c7)] at e
      subst e
      exact go didP7 _ _ _ (by simp only [didP7, told_cons, told_nil, lt_true, lt_false, eq_true, eq_false, li_int, and_true, true_and, i1, i3, i4, l0, k0, q57, q68, b59, b902, i6, qk, decide_eq_true_eq, decide_eq_false_iff_not]; omega) did_ev7 (did_fin (int_fin rfl) (int_fin rfl)) (by rw [same]; exact h0)
    rw [if_neg (by omega)] at e
    subst e
    have x3 : X.int (rhoI v o) didX3 = ((S n).bytes.length : Nat) - a := by
      unfold didX3
      rw [sub_int, l0, i3, wrap_i (by omega) (by omega)]
    have xm : X.int (rhoI v o) (.mn (.va 4) didX3) = ((min m.toNat ((S n).bytes.length - a.toNat) : Nat) : Int) := by
      rw [mn_int, i4, x3]
      split <;> omega
    have z69 : X.str (rhoI v o) (.app 69 (.mn (.va 4) didX3)) = ⟨(zeros (min m.toNat ((S n).bytes.length - a.toNat))).toArray⟩ := by rw [s69, xm, Int.toNat_natCast]
    have q62 : X.bool (rhoI v o) (.app 62 (.cons (.va 0) (.cons (.va 1) (.cons (.va 3) (.app 69 (.mn (.va 4) didX3)))))) = true := by
      rw [b62 h0, i1, i3, z69, size_bs, zeros_length]
      exact decide_eq_true (by omega)
    have x4 : X.val (rhoI v o) didX4 = .st (.ino (updS S n (zeroN (S n) a.toNat m.toNat st))) := by
      unfold didX4
      rw [v60 h0, i1, i3, z69, i6]
      rfl
    have q57b := b57 x4
    exact go didP8 _ _ _ (by simp only [didP8, told_cons, told_nil, lt_true, lt_false, eq_true, eq_false, li_int, and_true, true_and, i1, i3, i4, l0, k0, q57, q68, b59, b902, i6, qk, q57b, q62, xm, decide_eq_true_eq, decide_eq_false_iff_not]; omega) did_ev8 (did_fin (int_fin rfl) (int_fin rfl)) x4
  have e : (if 0 ≤ a ∧ a + (T.length : Nat) ≤ 1048576 then (a + (T.length : Nat), (0 : Int), wrN (S n) a.toNat T st) else (0, (if a < 0 then 1 else 160), S n)) = y := by rw [← hy]; unfold doN; rw [if_neg c3, if_neg c4, if_neg c5]
  by_cases c : 0 ≤ a ∧ a + (T.length : Nat) ≤ 1048576
  · rw [if_pos c] at e
    subst e
    exact go didP10 _ _ _ (by simp only [didP10, told_cons, told_nil, lt_true, lt_false, eq_true, eq_false, li_int, and_true, true_and, i1, i3, i4, l0, k0, q57, q68, b59, b902, i6, qk, q64, decide_eq_true_eq, decide_eq_false_iff_not]; omega) did_ev10 (did_fin (xi_fin (by rw [add_int, i3, ln5, wrap_i (by omega) (by omega)])) (int_fin rfl)) (by rw [v65', i3])
  rw [if_neg c] at e
  by_cases c2 : a < 0
  · rw [if_pos c2] at e
    subst e
    exact go didP11 _ _ _ (by simp only [didP11, told_cons, told_nil, lt_true, lt_false, eq_true, eq_false, li_int, and_true, true_and, i1, i3, i4, l0, k0, q57, q68, b59, b902, i6, qk, q64, decide_eq_true_eq, decide_eq_false_iff_not]; omega) did_ev11 (did_fin (int_fin rfl) (int_fin rfl)) (by rw [same]; exact h0)
  · rw [if_neg c2] at e
    subst e
    exact go didP12 _ _ _ (by simp only [didP12, told_cons, told_nil, lt_true, lt_false, eq_true, eq_false, li_int, and_true, true_and, i1, i3, i4, l0, k0, q57, q68, b59, b902, i6, qk, q64, decide_eq_true_eq, decide_eq_false_iff_not]; omega) did_ev12 (did_fin (int_fin rfl) (int_fin rfl)) (by rw [same]; exact h0)
end Go.Proofs.YtcnimekhpnejlaaGreat.Ev

/- The statements of files: does a file stand so? -/
namespace Go.Proofs.YtcnimekhpnejlaaGreat.Ev
open Go Go.RowKit
set_option linter.unusedVariables false
set_option linter.unusedSimpArgs false
set_option maxRecDepth 10000
def stdArgs : List EV := [.a (.s (.ptr 0 0)), .a (.s (.xi .i64 (.va 1))), .a (.agg [.xs (.va 2), .xi .u64 (.va 3)]), .a (.s (.xi .i64 (.va 4))), .a (.s (.xi .i64 (.va 5)))]
theorem std_ev0 (ρ : Rho) : (evCall (ctx rules0 ρ stdP0) funT.get (sumOr (sumA (rLaw stdP0)) (sumFi stdP0)) 100000 1000 20 stdArgs oneM 1).map (view [0]) = some stdR0 := by kernel_rfl
theorem std_ev1 (ρ : Rho) : (evCall (ctx rules0 ρ stdP1) funT.get (sumOr (sumA (rLaw stdP1)) (sumFi stdP1)) 100000 1000 20 stdArgs oneM 1).map (view [0]) = some stdR1 := by kernel_rfl
theorem std_ev2 (ρ : Rho) : (evCall (ctx rules0 ρ stdP2) funT.get (sumOr (sumA (rLaw stdP2)) (sumFi stdP2)) 100000 1000 20 stdArgs oneM 1).map (view [0]) = some stdR2 := by kernel_rfl
theorem std_ev3 (ρ : Rho) : (evCall (ctx rules0 ρ stdP3) funT.get (sumOr (sumA (rLaw stdP3)) (sumFi stdP3)) 100000 1000 20 stdArgs oneM 1).map (view [0]) = some stdR3 := by kernel_rfl
theorem std_ev4 (ρ : Rho) : (evCall (ctx rules0 ρ stdP4) funT.get (sumOr (sumA (rLaw stdP4)) (sumFi stdP4)) 100000 1000 20 stdArgs oneM 1).map (view [0]) = some stdR4 := by kernel_rfl
theorem i51 {v : Nat → D} {o : Nat → Value} {S : Int → Nd} {e n : X} (h : X.val (rhoI v o) e = .st (.ino S)) : X.int (rhoI v o) (.app 51 (.cons e n)) = (S (X.int (rhoI v o) n)).links := by
  show (FNi 51 (.p (X.val (rhoI v o) e) (X.val (rhoI v o) n))).int = _
  rw [h]; rfl
theorem i53 {v : Nat → D} {o : Nat → Value} {S : Int → Nd} {e n : X} (h : X.val (rhoI v o) e = .st (.ino S)) : X.int (rhoI v o) (.app 53 (.cons e n)) = (S (X.int (rhoI v o) n)).stamp := by
  show (FNi 53 (.p (X.val (rhoI v o) e) (X.val (rhoI v o) n))).int = _
  rw [h]; rfl
set_option maxHeartbeats 4000000 in
theorem stands_true {w : World} {x : Nat} {S : Int → Nd} (h : isD Tryz.prog (.st (.ino S)) x w) {n : Int} (hn : FileN S n) (hl : (S n).links = 1) {a m : Int} (ha : i64 a) (hm : i64 m) :
    Acts Tryz.prog 20 x [.int .i64 n, mdV (S n), .int .i64 a, .int .i64 m] w fun u d => d = .st (.ino S) ∧ u = .bool true := by
  have hsz := size_le h n
  obtain ⟨hn1, hn2⟩ := hn
  unfold i64 at ha hm
  obtain ⟨B, hB⟩ : ∃ B, (S n).bytes = B := ⟨_, rfl⟩
  obtain ⟨v, hv⟩ : ∃ v, v = ofL [.st (.ino S), .i n, .s ⟨B.toArray⟩, .i (S n).stamp, .i a, .i m] := ⟨_, rfl⟩
  obtain ⟨o, ho⟩ : ∃ o : Nat → Value, o = fun _ => undef := ⟨_, rfl⟩
  have go : ∀ (pc : List (X × Bool)) (r : EV), Told (rhoI v o) pc → (∀ ρ, (evCall (ctx rules0 ρ pc) funT.get (sumOr (sumA (rLaw pc)) (sumFi pc)) 100000 1000 20 stdArgs oneM 1).map (view [0]) = some (r, [some (.abs (.va 0))])) →
      (∀ E u, E.ρ = rhoI v o → r.rel E u → u = .bool true) → Acts Tryz.prog 20 x [.int .i64 n, mdV (S n), .int .i64 a, .int .i64 m] w fun u d => d = .st (.ino S) ∧ u = .bool true := fun pc r hpc hev hb => by
    have hr : HRel (envL [x] (rhoI v o)) oneM w := by rw [hv]; exact one_open h _ _
    have hrel : Rels (EV.rel (envL [x] (rhoI v o))) stdArgs [.pointer (some ⟨x, 0, none⟩), .int .i64 n, mdV (S n), .int .i64 a, .int .i64 m] := by
      rw [hv]
      unfold mdV
      rw [hB]
      exact ⟨⟨⟨x, 0, 0⟩, envL_at rfl, rfl⟩, rfl, ⟨_, rfl, rfl, rfl, trivial⟩, rfl, rfl, trivial⟩
    exact one_came h (call_at (rules0_ok _) hpc (sumOr_ok (sumA_ok (rLaw_ok hpc)) (sumFi_ok hpc)) (hev _) hr rfl (envL_fresh _ _) hrel) fun E' u hE hu => ⟨by rw [hv]; rfl, hb E' u hE hu⟩
  have h0 : X.val (rhoI v o) (.va 0) = .st (.ino S) := by rw [hv]; rfl
  have i1 : X.int (rhoI v o) (.va 1) = n := by rw [hv]; rfl
  have s2 : X.str (rhoI v o) (.va 2) = ⟨B.toArray⟩ := by rw [hv]; rfl
  have i3 : X.int (rhoI v o) (.va 3) = (S n).stamp := by rw [hv]; rfl
  have i4 : X.int (rhoI v o) (.va 4) = a := by rw [hv]; rfl
  have i5 : X.int (rhoI v o) (.va 5) = m := by rw [hv]; rfl
  clear hv ho
  have l0 : X.int (rhoI v o) (.app 52 (.cons (.va 0) (.va 1))) = (B.length : Nat) := by rw [i52 h0, i1, hB]
  have l2 : X.int (rhoI v o) (.len (.va 2)) = (B.length : Nat) := by rw [len_int, s2, size_bs]
  have k0 : X.int (rhoI v o) (.app 50 (.cons (.va 0) (.va 1))) = 1 := by rw [i50 h0, i1, hn2]
  have k1 : X.int (rhoI v o) (.app 51 (.cons (.va 0) (.va 1))) = 1 := by rw [i51 h0, i1, hl]
  have k3 : X.int (rhoI v o) (.app 53 (.cons (.va 0) (.va 1))) = (S n).stamp := by rw [i53 h0, i1]
  have q57 := b57 h0
  have q68 : X.bool (rhoI v o) (.app 68 (.cons (.va 0) (.va 1))) = true := by
    rw [b68 h0, i1]
    exact decide_eq_true ⟨hn1.1, hn1.2, hn2⟩
  have b902 := fun e => b902 (v := v) (o := o) (e := e)
  have r66 : ∀ a m : X, X.str (rhoI v o) (.app 66 (.cons (.va 0) (.cons (.va 1) (.cons a m)))) = ⟨(readB B (X.int (rhoI v o) a).toNat (X.int (rhoI v o) m).toNat).toArray⟩ := fun a m => by rw [s66 h0, i1, hB]
  rw [hB] at hsz
  have r0 : X.bool (rhoI v o) (.seq stdX0 (.va 2)) = true := by
    refine bool_ls ?_
    unfold stdX0
    rw [r66, s2, li_int, li_int]
    refine tl_eq ?_
    exact List.take_of_length_le (by rw [List.length_drop]; show B.length - 0 ≤ 1048577; omega)
  by_cases c : a < 0
  · exact go stdP0 _ (by simp only [stdP0, told_cons, told_nil, lt_true, lt_false, eq_true, eq_false, li_int, and_true, true_and, i1, i3, i4, i5, l0, l2, k0, k1, k3, q57, q68, b902, r0, decide_eq_true_eq, decide_eq_false_iff_not]; omega) std_ev0 fun E u _ h => h
  by_cases c2 : m < 0
  · exact go stdP1 _ (by simp only [stdP1, told_cons, told_nil, lt_true, lt_false, eq_true, eq_false, li_int, and_true, true_and, i1, i3, i4, i5, l0, l2, k0, k1, k3, q57, q68, b902, r0, decide_eq_true_eq, decide_eq_false_iff_not]; omega) std_ev1 fun E u _ h => h
  have r1 : X.str (rhoI v o) stdX1 = ⟨(readB B a.toNat m.toNat).toArray⟩ := by
    unfold stdX1
    rw [r66, i4, i5]
  by_cases c3 : a < (B.length : Nat)
  · have x2 : X.str (rhoI v o) stdX2 = ⟨(B.drop a.toNat).toArray⟩ := by
      unfold stdX2
      rw [sub_st, s2, i4, l2, ext_bs, Int.toNat_natCast, List.take_length]
    have l3 : X.int (rhoI v o) (.len stdX2) = (B.length : Nat) - a := by
      rw [len_int, x2, size_bs, List.length_drop]
      omega
    by_cases c4 : m < (B.length : Nat) - a
    · have r2 : X.bool (rhoI v o) (.seq stdX1 (.sub stdX2 (.li 0) (.va 5))) = true := by
        refine bool_ls ?_
        rw [r1, sub_st, x2, li_int, i5, ext_bs]
        rfl
      exact go stdP2 _ (by simp only [stdP2, told_cons, told_nil, lt_true, lt_false, eq_true, eq_false, li_int, and_true, true_and, i1, i3, i4, i5, l0, l2, k0, k1, k3, q57, q68, b902, r0, l3, r2, decide_eq_true_eq, decide_eq_false_iff_not]; omega) std_ev2 fun E u _ h => h
    · have r2 : X.bool (rhoI v o) (.seq stdX1 stdX2) = true := by
        refine bool_ls ?_
        rw [r1, x2]
        exact tl_eq (List.take_of_length_le (by rw [List.length_drop]; omega))
      exact go stdP3 _ (by simp only [stdP3, told_cons, told_nil, lt_true, lt_false, eq_true, eq_false, li_int, and_true, true_and, i1, i3, i4, i5, l0, l2, k0, k1, k3, q57, q68, b902, r0, l3, r2, decide_eq_true_eq, decide_eq_false_iff_not]; omega) std_ev3 fun E u _ h => h
  · have r2 : X.bool (rhoI v o) (.seq stdX1 (.ls ⟨#[]⟩)) = true := by
      refine bool_ls ?_
      rw [r1, ls_str, readB_past (by omega)]
    exact go stdP4 _ (by simp only [stdP4, told_cons, told_nil, lt_true, lt_false, eq_true, eq_false, li_int, and_true, true_and, i1, i3, i4, i5, l0, l2, k0, k1, k3, q57, q68, b902, r0, r2, decide_eq_true_eq, decide_eq_false_iff_not]; omega) std_ev4 fun E u _ h => h
end Go.Proofs.YtcnimekhpnejlaaGreat.Ev

/- The rules of plays on files hold. -/
namespace Go.Proofs.YtcnimekhpnejlaaGreat.Ev
open Go Go.RowKit
set_option linter.unusedVariables false
set_option linter.unusedSimpArgs false
set_option maxRecDepth 10000
theorem told68 {v : Nat → D} {o : Nat → Value} {pc : List (X × Bool)} (hpc : Told (rhoI v o) pc) {e n : X} (h : truL pc (.app 68 (.cons e n)) = some true) : ∃ S, e.val (rhoI v o) = .st (.ino S) ∧ FileN S (n.int (rhoI v o)) := by
  have h1 : (FNi 68 (.p (e.val (rhoI v o)) (n.val (rhoI v o)))).bool = true := truL_ok hpc h
  generalize e.val (rhoI v o) = d at h1 ⊢
  cases d with
  | st x =>
    cases x with
    | ino S =>
      have h1 := of_decide_eq_true h1
      exact ⟨S, rfl, ⟨h1.1, h1.2.1⟩, h1.2.2⟩
    | grow => cases h1
    | works => cases h1
    | leaves => cases h1
  | _ => cases h1
theorem told87 {v : Nat → D} {o : Nat → Value} {pc : List (X × Bool)} (hpc : Told (rhoI v o) pc) {e n s p : X} (h : truL pc (.app 87 (.cons e (.cons n (.cons s p)))) = some true) :
    ∃ S, e.val (rhoI v o) = .st (.ino S) ∧ (S (n.int (rhoI v o))).bytes = (s.str (rhoI v o)).data.toList ∧ (S (n.int (rhoI v o))).stamp = p.int (rhoI v o) ∧ (S (n.int (rhoI v o))).links = 1 ∧ (S (n.int (rhoI v o))).kind = 1 := by
  have h1 : (FNi 87 (.p (e.val (rhoI v o)) (.p (n.val (rhoI v o)) (.p (s.val (rhoI v o)) (p.val (rhoI v o)))))).bool = true := truL_ok hpc h
  generalize e.val (rhoI v o) = d at h1 ⊢
  cases d with
  | st x =>
    cases x with
    | ino S => exact ⟨S, rfl, of_decide_eq_true h1⟩
    | grow => cases h1
    | works => cases h1
    | leaves => cases h1
  | _ => cases h1
theorem act_inv {E : Env} {k a m t st : SV} {k' a' m' t' st' : X} {v : Value} (hv : (AV.agg [k, a, m, t, st]).rel E v) (hk : asI k = some (.i64, k')) (ha : asI a = some (.i64, a')) (hm : asI m = some (.i64, m')) (ht : asS t = some t') (hst : asI st = some (.u64, st')) :
    v = actV (k'.int E.ρ) (a'.int E.ρ) (m'.int E.ρ) (t'.str E.ρ) (st'.int E.ρ) := by
  obtain ⟨vs, rfl, hvs⟩ := hv
  match vs, hvs with
  | [v1, v2, v3, v4, v5], hvs =>
    obtain ⟨h1, h2, h3, h4, h5, _⟩ := hvs
    rw [asI_rel hk h1, asI_rel ha h2, asI_rel hm h3, asS_rel ht h4, asI_rel hst h5]
    rfl
theorem md_inv {E : Env} {s p : SV} {s' p' : X} {v : Value} (hv : (AV.agg [s, p]).rel E v) (hs : asS s = some s') (hp : asI p = some (.u64, p')) : v = .agg #[.string (s'.str E.ρ), .int .u64 (p'.int E.ρ)] := by
  obtain ⟨vs, rfl, hvs⟩ := hv
  match vs, hvs with
  | [v1, v2], hvs =>
    obtain ⟨h1, h2, _⟩ := hvs
    rw [asS_rel hs h1, asI_rel hp h2]
theorem rPlay_did {v : Nat → D} {o : Nat → Value} {pc : List (X × Bool)} (hpc : Told (rhoI v o) pc) {e : X} {args : List EV} {r : EV × X} (h : rPlay pc 17 e args = some r) : AOk Tryz.prog (rhoI v o) 17 e args r.1 r.2 := by
  intro E hρ a w vs his hargs
  unfold rPlay at h
  rw [if_pos rfl] at h
  split at h
  · rename_i y k0 a0 m0 t0 st0
    obtain ⟨⟨q1, n⟩, hn, h⟩ := Option.bind_eq_some_iff.1 h
    obtain ⟨⟨q2, k⟩, hk, h⟩ := Option.bind_eq_some_iff.1 h
    obtain ⟨⟨q3, at_⟩, hat, h⟩ := Option.bind_eq_some_iff.1 h
    obtain ⟨⟨q4, m⟩, hm, h⟩ := Option.bind_eq_some_iff.1 h
    obtain ⟨t, ht, h⟩ := Option.bind_eq_some_iff.1 h
    obtain ⟨⟨q5, st⟩, hst, h⟩ := Option.bind_eq_some_iff.1 h
    split at h
    · rename_i hc
      obtain ⟨e1, e2, e3, e4, e5, c1, c2, c3, c4⟩ := hc
      have e1 : q1 = .i64 := e1
      have e2 : q2 = .i64 := e2
      have e3 : q3 = .i64 := e3
      have e4 : q4 = .i64 := e4
      have e5 : q5 = .u64 := e5
      subst e1 e2 e3 e4 e5
      obtain rfl := Option.some.inj h
      obtain ⟨S, he, hf⟩ := told68 hpc c4
      have his2 : isD Tryz.prog (e.val (rhoI v o)) a w := his
      rw [he] at his2
      match vs, hargs with
      | [u, u2], hargs =>
        have hu : u = .int .i64 (n.int (rhoI v o)) := by rw [← hρ]; exact asI_rel hn hargs.1
        have hu2 := act_inv hargs.2.1 hk hat hm ht hst
        rw [hρ] at hu2
        subst hu hu2
        refine acts_aoi (did_any his2 hf (k.int (rhoI v o)) (at_.int (rhoI v o)) (m.int (rhoI v o)) (inI64_oki hpc c1) (inI64_oki hpc c2) (t.str (rhoI v o)) (inU64_oki hpc c3)) fun u d ⟨q1, q2⟩ => ?_
        subst q1 q2
        refine ⟨tup2_mk ?_ ?_, ?_⟩
        · show _ = Value.int .i64 ((E.ρ.f 80 (.p (e.val E.ρ) (.p (n.val E.ρ) (.p (k.val E.ρ) (.p (at_.val E.ρ) (.p (m.val E.ρ) (.p (t.val E.ρ) (st.val E.ρ)))))))).int)
          rw [hρ, he]
          rfl
        · show _ = Value.int .i64 ((E.ρ.f 81 (.p (e.val E.ρ) (.p (n.val E.ρ) (.p (k.val E.ρ) (.p (at_.val E.ρ) (.p (m.val E.ρ) (.p (t.val E.ρ) (st.val E.ρ)))))))).int)
          rw [hρ, he]
          rfl
        · show _ = FNi 82 (.p (e.val (rhoI v o)) (.p (n.val (rhoI v o)) (.p (k.val (rhoI v o)) (.p (at_.val (rhoI v o)) (.p (m.val (rhoI v o)) (.p (t.val (rhoI v o)) (st.val (rhoI v o))))))))
          rw [he]
          rfl
    · cases h
  · cases h
theorem rPlay_stands {v : Nat → D} {o : Nat → Value} {pc : List (X × Bool)} (hpc : Told (rhoI v o) pc) {e : X} {args : List EV} {r : EV × X} (h : rPlay pc 20 e args = some r) : AOk Tryz.prog (rhoI v o) 20 e args r.1 r.2 := by
  intro E hρ a w vs his hargs
  unfold rPlay at h
  rw [if_neg (by decide), if_pos rfl] at h
  split at h
  · rename_i y s0 p0 a0 m0
    obtain ⟨⟨q1, n⟩, hn, h⟩ := Option.bind_eq_some_iff.1 h
    obtain ⟨s, hs, h⟩ := Option.bind_eq_some_iff.1 h
    obtain ⟨⟨q2, p⟩, hp, h⟩ := Option.bind_eq_some_iff.1 h
    obtain ⟨⟨q3, at_⟩, hat, h⟩ := Option.bind_eq_some_iff.1 h
    obtain ⟨⟨q4, m⟩, hm, h⟩ := Option.bind_eq_some_iff.1 h
    split at h
    · rename_i hc
      obtain ⟨e1, e2, e3, e4, c1, c2, c3⟩ := hc
      have e1 : q1 = .i64 := e1
      have e2 : q2 = .u64 := e2
      have e3 : q3 = .i64 := e3
      have e4 : q4 = .i64 := e4
      obtain rfl := Option.some.inj h
      subst e1 e2 e3 e4
      obtain ⟨S, he, hb, hst, hl, hkd⟩ := told87 hpc c3
      have his2 : isD Tryz.prog (e.val (rhoI v o)) a w := his
      rw [he] at his2
      match vs, hargs with
      | [u, u2, u3, u4], hargs =>
        have hu : u = .int .i64 (n.int (rhoI v o)) := by rw [← hρ]; exact asI_rel hn hargs.1
        have hu2 := md_inv hargs.2.1 hs hp
        have hu3 : u3 = .int .i64 (at_.int (rhoI v o)) := by rw [← hρ]; exact asI_rel hat hargs.2.2.1
        have hu4 : u4 = .int .i64 (m.int (rhoI v o)) := by rw [← hρ]; exact asI_rel hm hargs.2.2.2.1
        rw [hρ] at hu2
        have hu2 : u2 = mdV (S (n.int (rhoI v o))) := by
          rw [hu2]
          unfold mdV
          rw [hb, hst]
        subst hu hu2 hu3 hu4
        have hnum : 1 ≤ n.int (rhoI v o) ∧ n.int (rhoI v o) ≤ 4096 := by
          obtain ⟨mm, L, hI⟩ := his2
          cases hL : L (n.int (rhoI v o)) with
          | none => rw [hI.off _ hL] at hkd; cases hkd
          | some t => exact hI.num _ t hL
        refine acts_aoi (stands_true his2 ⟨hnum, hkd⟩ hl (inI64_oki hpc c1) (inI64_oki hpc c2)) fun u d ⟨q1, q2⟩ => ?_
        subst q1 q2
        exact ⟨rfl, he.symm⟩
    · cases h
  · cases h
theorem rPlay_same {v : Nat → D} {o : Nat → Value} {pc : List (X × Bool)} (hpc : Told (rhoI v o) pc) {e : X} {args : List EV} {r : EV × X} (h : rPlay pc 13 e args = some r) : AOk Tryz.prog (rhoI v o) 13 e args r.1 r.2 := by
  intro E hρ a w vs his hargs
  unfold rPlay at h
  rw [if_neg (by decide), if_neg (by decide), if_pos rfl] at h
  split at h
  · rename_i y z
    obtain ⟨⟨k, n⟩, hn, h⟩ := Option.bind_eq_some_iff.1 h
    obtain ⟨⟨k2, p⟩, hp, h⟩ := Option.bind_eq_some_iff.1 h
    split at h
    · rename_i hk
      obtain ⟨hk, hk2, c3, c4⟩ := hk
      have hk : k = .i64 := hk
      have hk2 : k2 = .i64 := hk2
      subst hk
      subst hk2
      obtain rfl := Option.some.inj h
      obtain ⟨S, he, hf⟩ := told68 hpc c3
      obtain ⟨S2, he2, hf2⟩ := told68 hpc c4
      rw [he] at he2
      obtain rfl : S = S2 := by injection he2 with e1; injection e1
      have his2 : isD Tryz.prog (e.val (rhoI v o)) a w := his
      rw [he] at his2
      match vs, hargs with
      | [u, u2], hargs =>
        have hu : u = .int .i64 (n.int (rhoI v o)) := by rw [← hρ]; exact asI_rel hn hargs.1
        have hu2 : u2 = .int .i64 (p.int (rhoI v o)) := by rw [← hρ]; exact asI_rel hp hargs.2.1
        subst hu
        subst hu2
        refine acts_aoi (file_same his2 hf hf2) fun u d ⟨hd, hq⟩ => ?_
        subst hd
        subst hq
        refine ⟨tup2_mk ?_ rfl, he.symm⟩
        show _ = Value.bool ((E.ρ.f 67 (.p (e.val E.ρ) (.p (n.val E.ρ) (p.val E.ρ)))).bool)
        rw [hρ, he]
        rfl
    · cases h
  · cases h
theorem rPlay_ok {v : Nat → D} {o : Nat → Value} {pc : List (X × Bool)} (hpc : Told (rhoI v o) pc) : ∀ g e args r, rPlay pc g e args = some r → AOk Tryz.prog (rhoI v o) g e args r.1 r.2 := by
  intro g e args r h
  by_cases h1 : g = 17
  · subst h1; exact rPlay_did hpc h
  by_cases h2 : g = 20
  · subst h2; exact rPlay_stands hpc h
  by_cases h3 : g = 13
  · subst h3; exact rPlay_same hpc h
  exfalso
  unfold rPlay at h
  rw [if_neg h1, if_neg h2, if_neg h3] at h
  cases h
theorem tup3_mk {E : Env} {a b c : AV} {va vb vc : Value} (ha : a.rel E va) (hb : b.rel E vb) (hc : c.rel E vc) : (EV.tup [a, b, c]).rel E (.tuple #[va, vb, vc]) := ⟨[va, vb, vc], rfl, ha, hb, hc, trivial⟩
theorem rDone_ok {v : Nat → D} {o : Nat → Value} {pc : List (X × Bool)} (hpc : Told (rhoI v o) pc) : ∀ g args r, rDone pc g args = some r → POk Tryz.prog (rhoI v o) g args r := by
  intro g args r h E hρ w vs hargs
  unfold rDone at h
  split at h
  · rename_i hg
    subst hg
    split at h
    · rename_i s0 p0 k0 a0 m0 t0 st0
      obtain ⟨s, hs, h⟩ := Option.bind_eq_some_iff.1 h
      obtain ⟨⟨q1, p⟩, hp, h⟩ := Option.bind_eq_some_iff.1 h
      obtain ⟨⟨q2, k⟩, hk, h⟩ := Option.bind_eq_some_iff.1 h
      obtain ⟨⟨q3, at_⟩, hat, h⟩ := Option.bind_eq_some_iff.1 h
      obtain ⟨⟨q4, m⟩, hm, h⟩ := Option.bind_eq_some_iff.1 h
      obtain ⟨t, ht, h⟩ := Option.bind_eq_some_iff.1 h
      obtain ⟨⟨q5, st⟩, hst, h⟩ := Option.bind_eq_some_iff.1 h
      split at h
      · rename_i hc
        obtain ⟨e1, e2, e3, e4, e5, c1, c2, c3⟩ := hc
        have e1 : q1 = .u64 := e1
        have e2 : q2 = .i64 := e2
        have e3 : q3 = .i64 := e3
        have e4 : q4 = .i64 := e4
        have e5 : q5 = .u64 := e5
        subst e1 e2 e3 e4 e5
        obtain rfl := Option.some.inj h
        have c3 : decide ((1048576 : Int) < (((s.str (rhoI v o)).size : Nat) : Int)) = false := truL_ok hpc c3
        have c3 := of_decide_eq_false c3
        match vs, hargs with
        | [u, u2], hargs =>
          have hu := md_inv hargs.1 hs hp
          have hu2 := act_inv hargs.2.1 hk hat hm ht hst
          rw [hρ] at hu hu2
          have hu : u = mdV (docN (s.val (rhoI v o)) (p.val (rhoI v o))) := hu
          subst hu hu2
          refine (done_any (docN (s.val (rhoI v o)) (p.val (rhoI v o))) (by
            have := ba_size (s.str (rhoI v o))
            show (s.str (rhoI v o)).data.toList.length ≤ 1048576
            omega) (k.int (rhoI v o)) (at_.int (rhoI v o)) (m.int (rhoI v o)) (inI64_oki hpc c1) (inI64_oki hpc c2) (t.str (rhoI v o)) (st.int (rhoI v o)) w).mono fun en w' ⟨he, hB⟩ => ⟨_, he, ?_, hB⟩
          refine tup3_mk ?_ ?_ ⟨_, rfl, ?_, ?_, trivial⟩
          · show _ = Value.int .i64 ((E.ρ.f 83 (.p (s.val E.ρ) (.p (p.val E.ρ) (.p (k.val E.ρ) (.p (at_.val E.ρ) (.p (m.val E.ρ) (.p (t.val E.ρ) (st.val E.ρ)))))))).int)
            rw [hρ]
            rfl
          · show _ = Value.int .i64 ((E.ρ.f 84 (.p (s.val E.ρ) (.p (p.val E.ρ) (.p (k.val E.ρ) (.p (at_.val E.ρ) (.p (m.val E.ρ) (.p (t.val E.ρ) (st.val E.ρ)))))))).int)
            rw [hρ]
            rfl
          · show _ = Value.string ((E.ρ.f 85 (.p (s.val E.ρ) (.p (p.val E.ρ) (.p (k.val E.ρ) (.p (at_.val E.ρ) (.p (m.val E.ρ) (.p (t.val E.ρ) (st.val E.ρ)))))))).str)
            rw [hρ]
            rfl
          · show _ = Value.int .u64 ((E.ρ.f 86 (.p (s.val E.ρ) (.p (p.val E.ρ) (.p (k.val E.ρ) (.p (at_.val E.ρ) (.p (m.val E.ρ) (.p (t.val E.ρ) (st.val E.ρ)))))))).int)
            rw [hρ]
            rfl
      · cases h
    · cases h
  · cases h
end Go.Proofs.YtcnimekhpnejlaaGreat.Ev

/- Files that are linked once, and their documents. -/
namespace Go.Proofs.YtcnimekhpnejlaaGreat.Ev
open Go Go.RowKit
set_option linter.unusedVariables false
set_option linter.unusedSimpArgs false
set_option maxRecDepth 10000
section
variable {v : Nat → D} {o : Nat → Value} {S : Int → Nd} {e n s t : X}
theorem b87 (h : X.val (rhoI v o) e = .st (.ino S)) : X.bool (rhoI v o) (.app 87 (.cons e (.cons n (.cons s t)))) = decide ((S (X.int (rhoI v o) n)).bytes = (X.str (rhoI v o) s).data.toList ∧ (S (X.int (rhoI v o) n)).stamp = X.int (rhoI v o) t ∧ (S (X.int (rhoI v o) n)).links = 1 ∧ (S (X.int (rhoI v o) n)).kind = 1) := by
  show (FNi 87 (.p (X.val (rhoI v o) e) (.p (X.val (rhoI v o) n) (.p (X.val (rhoI v o) s) (X.val (rhoI v o) t))))).bool = _
  rw [h]; rfl
end
/-- A file that is linked once. -/
def Doc (N : Nd) : Prop := N.kind = 1 ∧ N.links = 1
theorem doc_eq {N : Nd} (h : Doc N) : N = docN (.s ⟨N.bytes.toArray⟩) (.i N.stamp) := by
  obtain ⟨k, l, p, b⟩ := N
  obtain ⟨h1, h2⟩ := h
  simp only at h1 h2
  subst h1 h2
  rfl
theorem doc_do {N : Nd} (h : Doc N) (k a m : Int) (t : List UInt8) (st : Int) : Doc (doN k N a m t st).2.2 := by
  obtain ⟨h1, h2⟩ := doN_same k N a m t st
  exact ⟨h1.trans h.1, h2.trans h.2⟩
theorem upd_ne (S : Int → Nd) {n k : Int} (N : Nd) (h : k ≠ n) : updS S n N k = S k := if_neg h
def mdL (N : Nd) : List Value := [.string ⟨N.bytes.toArray⟩, .int .u64 N.stamp]
theorem beq_docs {ρ : Rho} {a s t : X} {l m : List UInt8} (h : X.bool ρ a = decide (l = m)) (hs : X.str ρ s = ⟨l.toArray⟩) (ht : X.str ρ t = ⟨m.toArray⟩) : X.bool ρ (.beq a (.seq s t)) = true := by
  show (X.bool ρ a == X.bool ρ (.seq s t)) = true
  rw [h, seq_bool hs ht]
  exact beq_self_eq_true (decide (l = m))
theorem eq_bool {ρ : Rho} {a b : X} (h : X.int ρ a = X.int ρ b) : X.bool ρ (.eq a b) = true := by
  show (X.int ρ a == X.int ρ b) = true
  rw [h]
  exact beq_self_eq_true _
end Go.Proofs.YtcnimekhpnejlaaGreat.Ev

/- The statements of files: bytes put in, taken out and copied, and the document's word for it. -/
namespace Go.Proofs.YtcnimekhpnejlaaGreat.Ev
open Go Go.RowKit
set_option linter.unusedVariables false
set_option linter.unusedSimpArgs false
set_option maxRecDepth 10000
def kindM (k : Int) : Int := ((k.tmod 6) + 6).tmod 6
theorem tmod6 (k : Int) : -6 < k.tmod 6 ∧ k.tmod 6 < 6 := by
  rcases Int.le_total 0 k with h | h
  · rw [Int.tmod_eq_emod_of_nonneg h]
    omega
  · obtain ⟨j, rfl⟩ : ∃ j, k = -j := ⟨-k, by omega⟩
    rw [Int.neg_tmod, Int.tmod_eq_emod_of_nonneg (by omega : 0 ≤ j)]
    omega
theorem kindM_at (k : Int) : kindM k = 0 ∨ kindM k = 1 ∨ kindM k = 2 ∨ kindM k = 3 ∨ kindM k = 4 ∨ kindM k = 5 := by
  have h1 := tmod6 k
  have h2 := tmod6 (k.tmod 6 + 6)
  have h3 : 0 ≤ (k.tmod 6 + 6).tmod 6 := Int.tmod_nonneg 6 (by omega)
  unfold kindM
  omega
/-- What moving makes of two files. -/
def movS (S : Int → Nd) (k a m pl : Int) (t : List UInt8) (st : Int) : Int → Nd :=
  if kindM k < 2 then updS S 2 (mvN 0 (S 2) a m t st).2.2
  else if kindM k = 2 then updS S 2 (mvN 2 (S 2) a m t st).2.2
  else if kindM k = 5 then updS S 2 (cpN (S 2) (S 2) a m pl st).2.2
  else updS S 3 (cpN (S 2) (S 3) a m pl st).2.2
def mvV (k a m pl : Int) (t : ByteArray) (st : Int) : Value := .agg #[.int .i64 k, .int .i64 a, .int .i64 m, .int .i64 pl, .string t, .int .u64 st]
noncomputable def sumMv (ρ : Rho) (pc : List (X × Bool)) : Call := sumOr (sumP (rDone pc)) (sumDid (fun f => (funT.get f).isSome) pc (evCall (ctx rules0 ρ pc) funT.get (sumFi pc) 100000 1000))
theorem sumMv_ok {v : Nat → D} {o : Nat → Value} {pc : List (X × Bool)} (hpc : Told (rhoI v o) pc) : CallOk (ctx rules0 (rhoI v o) pc) (sumMv (rhoI v o) pc) :=
  sumOr_ok (sumP_ok (rDone_ok hpc)) (sumOr_ok (sumWhole_ok hpc (evCall_ok (rules0_ok _ pc hpc) (show (ctx rules0 (rhoI v o) pc).P.follows .mixedOrders = true from mixed) (funs_ok (C := ctx rules0 (rhoI v o) pc) rfl) (sumFi_ok hpc) 1000)) (sumOr_ok (sumA_ok (rLaw_ok hpc)) (sumFi_ok hpc)))
def movArgs : List EV := [.a (.s (.ptr 0 0)), .a (.s (.int .i64 2)), .a (.s (.int .i64 3)), .a (.agg [.xs (.va 1), .xi .u64 (.va 2)]), .a (.agg [.xs (.va 3), .xi .u64 (.va 4)]), .a (.agg [.xi .i64 (.va 5), .xi .i64 (.va 6), .xi .i64 (.va 7), .xi .i64 (.va 8), .xs (.va 9), .xi .u64 (.va 10)])]
theorem mov_ev0 (ρ : Rho) : (evCall (ctx rules0 ρ movP0) funT.get (sumMv ρ movP0) 100000 1000 21 movArgs oneM 1).map (view [0]) = some movR0 := by kernel_rfl
theorem mov_ev1 (ρ : Rho) : (evCall (ctx rules0 ρ movP1) funT.get (sumMv ρ movP1) 100000 1000 21 movArgs oneM 1).map (view [0]) = some movR1 := by kernel_rfl
theorem mov_ev2 (ρ : Rho) : (evCall (ctx rules0 ρ movP2) funT.get (sumMv ρ movP2) 100000 1000 21 movArgs oneM 1).map (view [0]) = some movR2 := by kernel_rfl
theorem mov_ev3 (ρ : Rho) : (evCall (ctx rules0 ρ movP3) funT.get (sumMv ρ movP3) 100000 1000 21 movArgs oneM 1).map (view [0]) = some movR3 := by kernel_rfl
theorem mov_ev4 (ρ : Rho) : (evCall (ctx rules0 ρ movP4) funT.get (sumMv ρ movP4) 100000 1000 21 movArgs oneM 1).map (view [0]) = some movR4 := by kernel_rfl
theorem mov_ev5 (ρ : Rho) : (evCall (ctx rules0 ρ movP5) funT.get (sumMv ρ movP5) 100000 1000 21 movArgs oneM 1).map (view [0]) = some movR5 := by kernel_rfl
theorem mov_ev6 (ρ : Rho) : (evCall (ctx rules0 ρ movP6) funT.get (sumMv ρ movP6) 100000 1000 21 movArgs oneM 1).map (view [0]) = some movR6 := by kernel_rfl
theorem mov_ev7 (ρ : Rho) : (evCall (ctx rules0 ρ movP7) funT.get (sumMv ρ movP7) 100000 1000 21 movArgs oneM 1).map (view [0]) = some movR7 := by kernel_rfl
theorem mov_ev8 (ρ : Rho) : (evCall (ctx rules0 ρ movP8) funT.get (sumMv ρ movP8) 100000 1000 21 movArgs oneM 1).map (view [0]) = some movR8 := by kernel_rfl
theorem mov_ev9 (ρ : Rho) : (evCall (ctx rules0 ρ movP9) funT.get (sumMv ρ movP9) 100000 1000 21 movArgs oneM 1).map (view [0]) = some movR9 := by kernel_rfl
theorem mov_ev10 (ρ : Rho) : (evCall (ctx rules0 ρ movP10) funT.get (sumMv ρ movP10) 100000 1000 21 movArgs oneM 1).map (view [0]) = some movR10 := by kernel_rfl
theorem mov_ev11 (ρ : Rho) : (evCall (ctx rules0 ρ movP11) funT.get (sumMv ρ movP11) 100000 1000 21 movArgs oneM 1).map (view [0]) = some movR11 := by kernel_rfl
theorem mov_ev12 (ρ : Rho) : (evCall (ctx rules0 ρ movP12) funT.get (sumMv ρ movP12) 100000 1000 21 movArgs oneM 1).map (view [0]) = some movR12 := by kernel_rfl
theorem mov_ev13 (ρ : Rho) : (evCall (ctx rules0 ρ movP13) funT.get (sumMv ρ movP13) 100000 1000 21 movArgs oneM 1).map (view [0]) = some movR13 := by kernel_rfl
theorem mov_ev14 (ρ : Rho) : (evCall (ctx rules0 ρ movP14) funT.get (sumMv ρ movP14) 100000 1000 21 movArgs oneM 1).map (view [0]) = some movR14 := by kernel_rfl
theorem mov_ev15 (ρ : Rho) : (evCall (ctx rules0 ρ movP15) funT.get (sumMv ρ movP15) 100000 1000 21 movArgs oneM 1).map (view [0]) = some movR15 := by kernel_rfl
theorem mov_ev16 (ρ : Rho) : (evCall (ctx rules0 ρ movP16) funT.get (sumMv ρ movP16) 100000 1000 21 movArgs oneM 1).map (view [0]) = some movR16 := by kernel_rfl
theorem mov_ev17 (ρ : Rho) : (evCall (ctx rules0 ρ movP17) funT.get (sumMv ρ movP17) 100000 1000 21 movArgs oneM 1).map (view [0]) = some movR17 := by kernel_rfl
theorem mov_ev18 (ρ : Rho) : (evCall (ctx rules0 ρ movP18) funT.get (sumMv ρ movP18) 100000 1000 21 movArgs oneM 1).map (view [0]) = some movR18 := by kernel_rfl
theorem mov_ev19 (ρ : Rho) : (evCall (ctx rules0 ρ movP19) funT.get (sumMv ρ movP19) 100000 1000 21 movArgs oneM 1).map (view [0]) = some movR19 := by kernel_rfl
theorem mov_ev20 (ρ : Rho) : (evCall (ctx rules0 ρ movP20) funT.get (sumMv ρ movP20) 100000 1000 21 movArgs oneM 1).map (view [0]) = some movR20 := by kernel_rfl
theorem mov_ev21 (ρ : Rho) : (evCall (ctx rules0 ρ movP21) funT.get (sumMv ρ movP21) 100000 1000 21 movArgs oneM 1).map (view [0]) = some movR21 := by kernel_rfl
theorem mov_ev22 (ρ : Rho) : (evCall (ctx rules0 ρ movP22) funT.get (sumMv ρ movP22) 100000 1000 21 movArgs oneM 1).map (view [0]) = some movR22 := by kernel_rfl
theorem mov_ev23 (ρ : Rho) : (evCall (ctx rules0 ρ movP23) funT.get (sumMv ρ movP23) 100000 1000 21 movArgs oneM 1).map (view [0]) = some movR23 := by kernel_rfl
theorem mov_ev24 (ρ : Rho) : (evCall (ctx rules0 ρ movP24) funT.get (sumMv ρ movP24) 100000 1000 21 movArgs oneM 1).map (view [0]) = some movR24 := by kernel_rfl
theorem mov_ev25 (ρ : Rho) : (evCall (ctx rules0 ρ movP25) funT.get (sumMv ρ movP25) 100000 1000 21 movArgs oneM 1).map (view [0]) = some movR25 := by kernel_rfl
theorem mov_ev26 (ρ : Rho) : (evCall (ctx rules0 ρ movP26) funT.get (sumMv ρ movP26) 100000 1000 21 movArgs oneM 1).map (view [0]) = some movR26 := by kernel_rfl
theorem mov_ev27 (ρ : Rho) : (evCall (ctx rules0 ρ movP27) funT.get (sumMv ρ movP27) 100000 1000 21 movArgs oneM 1).map (view [0]) = some movR27 := by kernel_rfl
theorem mov_ev28 (ρ : Rho) : (evCall (ctx rules0 ρ movP28) funT.get (sumMv ρ movP28) 100000 1000 21 movArgs oneM 1).map (view [0]) = some movR28 := by kernel_rfl
theorem mov_ev29 (ρ : Rho) : (evCall (ctx rules0 ρ movP29) funT.get (sumMv ρ movP29) 100000 1000 21 movArgs oneM 1).map (view [0]) = some movR29 := by kernel_rfl
theorem mov_ev30 (ρ : Rho) : (evCall (ctx rules0 ρ movP30) funT.get (sumMv ρ movP30) 100000 1000 21 movArgs oneM 1).map (view [0]) = some movR30 := by kernel_rfl
theorem mov_ev31 (ρ : Rho) : (evCall (ctx rules0 ρ movP31) funT.get (sumMv ρ movP31) 100000 1000 21 movArgs oneM 1).map (view [0]) = some movR31 := by kernel_rfl
theorem mov_ev32 (ρ : Rho) : (evCall (ctx rules0 ρ movP32) funT.get (sumMv ρ movP32) 100000 1000 21 movArgs oneM 1).map (view [0]) = some movR32 := by kernel_rfl
theorem mov_ev33 (ρ : Rho) : (evCall (ctx rules0 ρ movP33) funT.get (sumMv ρ movP33) 100000 1000 21 movArgs oneM 1).map (view [0]) = some movR33 := by kernel_rfl
theorem ba_nil {t : ByteArray} (h : t.data.toList = []) : t = ⟨#[]⟩ := by
  apply ByteArray.ext
  apply Array.toList_inj.1
  exact h
theorem cut_out {B : List UInt8} {a g : Nat} (h : a + g ≤ B.length) : overB (resizeB B (B.length - g)) a (B.drop (a + g)) = B.take a ++ B.drop (a + g) := by
  have e : resizeB B (B.length - g) = B.take (B.length - g) := by
    unfold resizeB
    rw [show B.length - g - B.length = 0 by omega]
    simp [zeros]
  have e2 : (B.take (B.length - g)).drop (a + (B.drop (a + g)).length) = [] := List.drop_of_length_le (by rw [List.length_take, List.length_drop]; omega)
  rw [e]
  unfold overB
  rw [List.take_take, show min a (B.length - g) = a by omega, e2, List.append_nil]
theorem rdB_all {B : List UInt8} {a : Nat} : rdB B a B.length = B.drop a := by
  unfold rdB resizeB
  rw [List.take_length, Nat.sub_self]
  simp [zeros]
theorem doc_mv {N : Nd} (h : Doc N) (k a m : Int) (t : List UInt8) (st : Int) : Doc (mvN k N a m t st).2.2 := by
  unfold mvN
  repeat' split
  all_goals first | exact h | exact ⟨h.1, h.2⟩
theorem doc_cp {M N : Nd} (h : Doc N) (a m pl st : Int) : Doc (cpN M N a m pl st).2.2 := by
  unfold cpN
  split
  · exact h
  · split
    · exact doc_do h _ _ _ _ _
    · exact h
theorem movS_doc {S : Int → Nd} (d2 : Doc (S 2)) (d3 : Doc (S 3)) (k a m pl : Int) (t : List UInt8) (st : Int) : Doc (movS S k a m pl t st 2) ∧ Doc (movS S k a m pl t st 3) := by
  unfold movS
  split
  · exact ⟨by rw [updS_at]; exact doc_mv d2 _ _ _ _ _, by rw [upd_ne S _ (by decide)]; exact d3⟩
  split
  · exact ⟨by rw [updS_at]; exact doc_mv d2 _ _ _ _ _, by rw [upd_ne S _ (by decide)]; exact d3⟩
  split
  · exact ⟨by rw [updS_at]; exact doc_cp d2 _ _ _ _, by rw [upd_ne S _ (by decide)]; exact d3⟩
  · exact ⟨by rw [upd_ne S _ (by decide)]; exact d2, by rw [updS_at]; exact doc_cp d3 _ _ _ _⟩
/-- What a move answers, and what it makes. -/
def MovQ (S' : Int → Nd) (u : Value) (d : D) : Prop := d = .st (.ino S') ∧ u = .tuple #[mdV (S' 2), mdV (S' 3), .bool true]
set_option maxHeartbeats 8000000 in
theorem move_any {w : World} {x : Nat} {S : Int → Nd} (h : isD Tryz.prog (.st (.ino S)) x w) (d2 : Doc (S 2)) (d3 : Doc (S 3)) (k a m pl : Int) (ha : i64 a) (hm : i64 m) (hpl : i64 pl) (t : ByteArray) {st : Int} (hst : 0 ≤ st ∧ st ≤ 18446744073709551615) (hbig : t.size ≤ 9223372036853727231) :
    Acts Tryz.prog 21 x [.int .i64 2, .int .i64 3, mdV (S 2), mdV (S 3), mvV k a m pl t st] w (MovQ (movS S k a m pl t.data.toList st)) := by
  have z2 := size_le h 2
  have z3 := size_le h 3
  have e2 := doc_eq d2
  have e3 := doc_eq d3
  unfold i64 at ha hm hpl
  obtain ⟨B, hB⟩ : ∃ B, (S 2).bytes = B := ⟨_, rfl⟩
  obtain ⟨C, hC⟩ : ∃ C, (S 3).bytes = C := ⟨_, rfl⟩
  rw [hB] at e2 z2
  rw [hC] at e3 z3
  obtain ⟨v, hv⟩ : ∃ v, v = ofL [.st (.ino S), .s ⟨B.toArray⟩, .i (S 2).stamp, .s ⟨C.toArray⟩, .i (S 3).stamp, .i k, .i a, .i m, .i pl, .s t, .i st] := ⟨_, rfl⟩
  obtain ⟨o, ho⟩ : ∃ o : Nat → Value, o = fun _ => undef := ⟨_, rfl⟩
  have go : ∀ (pc : List (X × Bool)) (e s2 p2 s3 p3 : X) (b : SV) (S' : Int → Nd), Told (rhoI v o) pc →
      (∀ ρ, (evCall (ctx rules0 ρ pc) funT.get (sumMv ρ pc) 100000 1000 21 movArgs oneM 1).map (view [0]) = some ((.tup [(.agg [(.xs s2), (.xi .u64 p2)]), (.agg [(.xs s3), (.xi .u64 p3)]), (.s b)]), [some (.abs e)])) →
      X.val (rhoI v o) e = .st (.ino S') → (∀ E u, E.ρ = rhoI v o → b.rel E u → u = .bool true) → X.str (rhoI v o) s2 = ⟨(S' 2).bytes.toArray⟩ → X.int (rhoI v o) p2 = (S' 2).stamp → X.str (rhoI v o) s3 = ⟨(S' 3).bytes.toArray⟩ → X.int (rhoI v o) p3 = (S' 3).stamp → movS S k a m pl t.data.toList st = S' →
      Acts Tryz.prog 21 x [.int .i64 2, .int .i64 3, mdV (S 2), mdV (S 3), mvV k a m pl t st] w (MovQ (movS S k a m pl t.data.toList st)) := fun pc e s2 p2 s3 p3 b S' hpc hev he hb c1 c2 c3 c4 hS => by
    have hr : HRel (envL [x] (rhoI v o)) oneM w := by rw [hv]; exact one_open h _ _
    have hrel : Rels (EV.rel (envL [x] (rhoI v o))) movArgs [.pointer (some ⟨x, 0, none⟩), .int .i64 2, .int .i64 3, mdV (S 2), mdV (S 3), mvV k a m pl t st] := by
      rw [hv]
      unfold mdV mvV
      rw [hB, hC]
      exact ⟨⟨⟨x, 0, 0⟩, envL_at rfl, rfl⟩, rfl, rfl, ⟨_, rfl, rfl, rfl, trivial⟩, ⟨_, rfl, rfl, rfl, trivial⟩, ⟨_, rfl, rfl, rfl, rfl, rfl, rfl, rfl, trivial⟩, trivial⟩
    rw [hS]
    refine one_came h (call_at (rules0_ok _) hpc (sumMv_ok hpc) (hev _) hr rfl (envL_fresh _ _) hrel) fun E' u hE hu => ⟨he, tupV3 hu (fun y hy => ?_) (fun y hy => ?_) (fun y hy => hb E' y hE hy)⟩
    · rw [md_rel hy, hE, c1, c2]; rfl
    · rw [md_rel hy, hE, c3, c4]; rfl
  have h0 : X.val (rhoI v o) (.va 0) = .st (.ino S) := by rw [hv]; rfl
  have s1' : X.str (rhoI v o) (.va 1) = ⟨B.toArray⟩ := by rw [hv]; rfl
  have i2 : X.int (rhoI v o) (.va 2) = (S 2).stamp := by rw [hv]; rfl
  have s3' : X.str (rhoI v o) (.va 3) = ⟨C.toArray⟩ := by rw [hv]; rfl
  have i4 : X.int (rhoI v o) (.va 4) = (S 3).stamp := by rw [hv]; rfl
  have i6 : X.int (rhoI v o) (.va 6) = a := by rw [hv]; rfl
  have i7 : X.int (rhoI v o) (.va 7) = m := by rw [hv]; rfl
  have i8 : X.int (rhoI v o) (.va 8) = pl := by rw [hv]; rfl
  have s9 : X.str (rhoI v o) (.va 9) = t := by rw [hv]; rfl
  have i10 : X.int (rhoI v o) (.va 10) = st := by rw [hv]; rfl
  have s1 : X.str (rhoI v o) (.va 1) = ⟨(S 2).bytes.toArray⟩ := by rw [hB]; exact s1'
  have s3 : X.str (rhoI v o) (.va 3) = ⟨(S 3).bytes.toArray⟩ := by rw [hC]; exact s3'
  have hK : X.int (rhoI v o) (.bin .rem .i64 movX0 (.li 6)) = kindM k := by
    have := tmod6 k
    have e5 : X.int (rhoI v o) movX0 = k.tmod 6 + 6 := by
      rw [hv]
      show IntKind.i64.wrap (k.tmod 6 + 6) = _
      exact wrap_i (by omega) (by omega)
    rw [rem_int', e5]
    rfl
  have hc84 : ∀ s : X, X.int (rhoI v o) (.app 84 (.cons (.va 1) (.cons (.va 2) (.cons (.li 0) (.cons (.va 8) (.cons (.li 0) (.cons s (.va 10)))))))) = (doN 0 (S 2) pl 0 (X.str (rhoI v o) s).data.toList st).2.1 := fun s => by rw [hv, e2]; rfl
  have hc84k : ∀ s : X, X.int (rhoI v o) (.app 84 (.cons (.va 3) (.cons (.va 4) (.cons (.li 0) (.cons (.va 8) (.cons (.li 0) (.cons s (.va 10)))))))) = (doN 0 (S 3) pl 0 (X.str (rhoI v o) s).data.toList st).2.1 := fun s => by rw [hv, e3]; rfl
  have hc85 : ∀ s : X, X.str (rhoI v o) (.app 85 (.cons (.va 1) (.cons (.va 2) (.cons (.li 0) (.cons (.va 8) (.cons (.li 0) (.cons s (.va 10)))))))) = ⟨(doN 0 (S 2) pl 0 (X.str (rhoI v o) s).data.toList st).2.2.bytes.toArray⟩ := fun s => by rw [hv, e2]; rfl
  have hc85k : ∀ s : X, X.str (rhoI v o) (.app 85 (.cons (.va 3) (.cons (.va 4) (.cons (.li 0) (.cons (.va 8) (.cons (.li 0) (.cons s (.va 10)))))))) = ⟨(doN 0 (S 3) pl 0 (X.str (rhoI v o) s).data.toList st).2.2.bytes.toArray⟩ := fun s => by rw [hv, e3]; rfl
  have hc86 : ∀ s : X, X.int (rhoI v o) (.app 86 (.cons (.va 1) (.cons (.va 2) (.cons (.li 0) (.cons (.va 8) (.cons (.li 0) (.cons s (.va 10)))))))) = (doN 0 (S 2) pl 0 (X.str (rhoI v o) s).data.toList st).2.2.stamp := fun s => by rw [hv, e2]; rfl
  have hc86k : ∀ s : X, X.int (rhoI v o) (.app 86 (.cons (.va 3) (.cons (.va 4) (.cons (.li 0) (.cons (.va 8) (.cons (.li 0) (.cons s (.va 10)))))))) = (doN 0 (S 3) pl 0 (X.str (rhoI v o) s).data.toList st).2.2.stamp := fun s => by rw [hv, e3]; rfl
  clear hv ho
  have l52 : X.int (rhoI v o) (.app 52 (.cons (.va 0) (.li 2))) = (B.length : Nat) := by rw [i52 h0, li_int, hB]
  have k502 : X.int (rhoI v o) (.app 50 (.cons (.va 0) (.li 2))) = 1 := by rw [i50 h0]; exact d2.1
  have k503 : X.int (rhoI v o) (.app 50 (.cons (.va 0) (.li 3))) = 1 := by rw [i50 h0]; exact d3.1
  have q57 := b57 h0
  have q682 : X.bool (rhoI v o) (.app 68 (.cons (.va 0) (.li 2))) = true := by rw [b68 h0]; exact decide_eq_true ⟨by rw [li_int]; decide, by rw [li_int]; decide, d2.1⟩
  have q683 : X.bool (rhoI v o) (.app 68 (.cons (.va 0) (.li 3))) = true := by rw [b68 h0]; exact decide_eq_true ⟨by rw [li_int]; decide, by rw [li_int]; decide, d3.1⟩
  have q59 : X.bool (rhoI v o) (.app 59 (.va 10)) = true := by rw [b59, i10]; exact decide_eq_true hst
  have q6 : X.bool (rhoI v o) (.app 902 (.va 6)) = true := by rw [b902, i6]; exact decide_eq_true ha
  have q7 : X.bool (rhoI v o) (.app 902 (.va 7)) = true := by rw [b902, i7]; exact decide_eq_true hm
  have q8 : X.bool (rhoI v o) (.app 902 (.va 8)) = true := by rw [b902, i8]; exact decide_eq_true hpl
  have L1 : X.int (rhoI v o) (.len (.va 1)) = (B.length : Nat) := by rw [len_int, s1', size_bs]
  have lN : X.int (rhoI v o) (.len (.va 3)) = (C.length : Nat) := by rw [len_int, s3', size_bs]
  have T9 : X.int (rhoI v o) (.len (.va 9)) = (t.size : Nat) := by rw [len_int, s9]
  have x1 : X.int (rhoI v o) movX1 = 1048576 - (B.length : Nat) := by unfold movX1; rw [sub_int, li_int, l52, wrap_i (by omega) (by omega)]
  have x2 : X.int (rhoI v o) movX2 = 1048576 - (B.length : Nat) := by unfold movX2; rw [sub_int, li_int, L1, wrap_i (by omega) (by omega)]
  have lt := ba_size t
  have same2 : ∀ N, N = S 2 → updS S 2 N = S := fun N h => by rw [h]; exact updS_same S 2
  have same3 : ∀ N, N = S 3 → updS S 3 N = S := fun N h => by rw [h]; exact updS_same S 3
  have at2 : ∀ N, updS S 2 N 2 = N := fun N => updS_at S 2 N
  have at3 : ∀ N, updS S 2 N 3 = S 3 := fun N => upd_ne S N (by decide)
  have bt2 : ∀ N, updS S 3 N 2 = S 2 := fun N => upd_ne S N (by decide)
  have bt3 : ∀ N, updS S 3 N 3 = N := fun N => updS_at S 3 N
  have x6 : 0 ≤ a → a ≤ (B.length : Nat) → X.str (rhoI v o) movX6 = ⟨(B.drop a.toNat).toArray⟩ := fun h1 h2 => by
    unfold movX6
    rw [sub_st, s1', i6, L1, ext_bs, Int.toNat_natCast, List.take_length]
  rcases (show kindM k = 0 ∨ kindM k = 1 ∨ kindM k = 2 ∨ (kindM k = 3 ∨ kindM k = 4) ∨ kindM k = 5 by have := kindM_at k; omega) with hk | hk | hk | hk | hk
  · have hu : movS S k a m pl t.data.toList st = updS S 2 (mvN 0 (S 2) a m t.data.toList st).2.2 := if_pos (by omega)
    rw [hk] at hK
    by_cases c1 : a < 0
    · have hE : movS S k a m pl t.data.toList st = S := hu.trans (same2 _ (by unfold mvN; rw [if_neg (by decide), if_pos (.inl c1)]))
      exact go movP0 (.va 0) (.va 1) (.va 2) (.va 3) (.va 4) (.bool true) S (by simp only [movP0, told_cons, told_nil, lt_true, lt_false, eq_true, eq_false, li_int, and_true, true_and, i6, i7, i8, hK, l52, k502, k503, q57, q682, q683, q59, q6, q7, q8, L1, T9, x1, x2, lN]; omega) mov_ev0 h0 (fun E u _ h => h) s1 i2 s3 i4 hE
    by_cases c2 : ((B.length : Nat) : Int) < a
    · have hE : movS S k a m pl t.data.toList st = S := hu.trans (same2 _ (by unfold mvN; rw [if_neg (by decide), hB, if_pos (.inr c2)]))
      exact go movP1 (.va 0) (.va 1) (.va 2) (.va 3) (.va 4) (.bool true) S (by simp only [movP1, told_cons, told_nil, lt_true, lt_false, eq_true, eq_false, li_int, and_true, true_and, i6, i7, i8, hK, l52, k502, k503, q57, q682, q683, q59, q6, q7, q8, L1, T9, x1, x2, lN]; omega) mov_ev1 h0 (fun E u _ h => h) s1 i2 s3 i4 hE
    by_cases c3 : 1048576 - ((B.length : Nat) : Int) < (t.size : Nat)
    · have hE : movS S k a m pl t.data.toList st = S := hu.trans (same2 _ (by unfold mvN; rw [if_neg (by decide), hB, lt, if_neg (by omega), if_pos c3]))
      exact go movP2 (.va 0) (.va 1) (.va 2) (.va 3) (.va 4) (.bool true) S (by simp only [movP2, told_cons, told_nil, lt_true, lt_false, eq_true, eq_false, li_int, and_true, true_and, i6, i7, i8, hK, l52, k502, k503, q57, q682, q683, q59, q6, q7, q8, L1, T9, x1, x2, lN]; omega) mov_ev2 h0 (fun E u _ h => h) s1 i2 s3 i4 hE
    by_cases c4 : t.data.toList = []
    · have hE : movS S k a m pl t.data.toList st = S := hu.trans (same2 _ (by unfold mvN; rw [if_neg (by decide), hB, lt, if_neg (by omega), if_neg c3, if_pos c4]))
      have r9 : X.bool (rhoI v o) (.seq (.va 9) (.ls ⟨#[]⟩)) = true := bool_ls (by rw [s9, ls_str, ba_nil c4])
      exact go movP3 (.va 0) (.va 1) (.va 2) (.va 3) (.va 4) (.bool true) S (by simp only [movP3, told_cons, told_nil, lt_true, lt_false, eq_true, eq_false, li_int, and_true, true_and, i6, i7, i8, hK, l52, k502, k503, q57, q682, q683, q59, q6, q7, q8, L1, T9, x1, x2, lN, r9]; omega) mov_ev3 h0 (fun E u _ h => h) s1 i2 s3 i4 hE
    have r9 : X.bool (rhoI v o) (.seq (.va 9) (.ls ⟨#[]⟩)) = false := by
      rw [seq_bool s9 ls_str]
      exact decide_eq_false c4
    obtain ⟨aN, haN⟩ : ∃ n : Nat, a = n := ⟨a.toNat, by omega⟩
    have x6 := x6 (by omega) (by omega)
    rw [haN, Int.toNat_natCast] at x6
    have x3 : X.str (rhoI v o) movX3 = ⟨(rdB B aN B.length).toArray⟩ := by unfold movX3; rw [s61 h0, li_int, hB, i6, l52, haN, Int.toNat_natCast, Int.toNat_natCast]
    have xc : X.str (rhoI v o) (.cat (.va 9) movX3) = ⟨(t.data.toList ++ rdB B aN B.length).toArray⟩ := by rw [cat_str, s9, x3, ← cat_bs]
    have hrl := rdB_length B aN B.length
    have x4 : X.bool (rhoI v o) movX4 = true := by
      unfold movX4
      rw [b64, xc, size_bs, List.length_append, hrl, lt, i6]
      exact decide_eq_true ⟨by omega, by omega⟩
    have g1 : X.bool (rhoI v o) (.big (.va 9) movX3) = false := big_false (by rw [s9, x3, size_bs (rdB B aN B.length), hrl]; omega)
    have y0 : X.str (rhoI v o) (.sub (.va 1) (.li 0) (.va 6)) = ⟨(B.take aN).toArray⟩ := by rw [sub_st, s1', i6, li_int, haN, ext_bs]; rfl
    have x5 : X.str (rhoI v o) movX5 = ⟨(B.take aN ++ t.data.toList).toArray⟩ := by unfold movX5; rw [cat_str, y0, s9, ← cat_bs]
    have g2 : X.bool (rhoI v o) (.big (.sub (.va 1) (.li 0) (.va 6)) (.va 9)) = false := big_false (by rw [y0, s9, size_bs, List.length_take]; omega)
    have g3 : X.bool (rhoI v o) (.big movX5 movX6) = false := big_false (by rw [x5, x6, size_bs, size_bs, List.length_append, List.length_take, List.length_drop, lt]; omega)
    have hE : movS S k a m pl t.data.toList st = updS S 2 (wrN (S 2) aN (t.data.toList ++ rdB B aN B.length) st) := by
      rw [hu]
      congr 1
      unfold mvN wrN
      rw [if_neg (by decide), hB, lt, if_neg (by omega), if_neg c3, if_neg c4, if_neg (by simp [c4]), haN, Int.toNat_natCast, ins_write (by omega)]
    have hb : (wrN (S 2) aN (t.data.toList ++ rdB B aN B.length) st).bytes = B.take aN ++ t.data.toList ++ B.drop aN := by
      rw [wrN_bytes, hB, ins_write (by omega)]
      rfl
    have hs : (wrN (S 2) aN (t.data.toList ++ rdB B aN B.length) st).stamp = st := by
      unfold wrN
      rw [if_neg (by simp [c4])]
    refine go movP4 movX7 (.cat movX5 movX6) (.va 10) (.va 3) (.va 4) (.bool true) _ (by simp only [movP4, told_cons, told_nil, lt_true, lt_false, eq_true, eq_false, li_int, and_true, true_and, i6, i7, i8, hK, l52, k502, k503, q57, q682, q683, q59, q6, q7, q8, L1, T9, x1, x2, lN, r9, x4, g1, g2, g3]; omega) mov_ev4 (by unfold movX7; rw [v65 h0, li_int, i6, haN, xc, i10]; rfl) (fun E u _ h => h) ?_ ?_ ?_ ?_ hE
    · rw [at2, hb, cat_str, x5, x6, cat_bs]
    · rw [at2, hs, i10]
    · rw [at3]; exact s3
    · rw [at3]; exact i4
  · have hu : movS S k a m pl t.data.toList st = updS S 2 (mvN 0 (S 2) a m t.data.toList st).2.2 := if_pos (by omega)
    rw [hk] at hK
    by_cases c1 : a < 0
    · have hE : movS S k a m pl t.data.toList st = S := hu.trans (same2 _ (by unfold mvN; rw [if_neg (by decide), if_pos (.inl c1)]))
      exact go movP5 (.va 0) (.va 1) (.va 2) (.va 3) (.va 4) (.bool true) S (by simp only [movP5, told_cons, told_nil, lt_true, lt_false, eq_true, eq_false, li_int, and_true, true_and, i6, i7, i8, hK, l52, k502, k503, q57, q682, q683, q59, q6, q7, q8, L1, T9, x1, x2, lN]; omega) mov_ev5 h0 (fun E u _ h => h) s1 i2 s3 i4 hE
    by_cases c2 : ((B.length : Nat) : Int) < a
    · have hE : movS S k a m pl t.data.toList st = S := hu.trans (same2 _ (by unfold mvN; rw [if_neg (by decide), hB, if_pos (.inr c2)]))
      exact go movP6 (.va 0) (.va 1) (.va 2) (.va 3) (.va 4) (.bool true) S (by simp only [movP6, told_cons, told_nil, lt_true, lt_false, eq_true, eq_false, li_int, and_true, true_and, i6, i7, i8, hK, l52, k502, k503, q57, q682, q683, q59, q6, q7, q8, L1, T9, x1, x2, lN]; omega) mov_ev6 h0 (fun E u _ h => h) s1 i2 s3 i4 hE
    by_cases c3 : 1048576 - ((B.length : Nat) : Int) < (t.size : Nat)
    · have hE : movS S k a m pl t.data.toList st = S := hu.trans (same2 _ (by unfold mvN; rw [if_neg (by decide), hB, lt, if_neg (by omega), if_pos c3]))
      exact go movP7 (.va 0) (.va 1) (.va 2) (.va 3) (.va 4) (.bool true) S (by simp only [movP7, told_cons, told_nil, lt_true, lt_false, eq_true, eq_false, li_int, and_true, true_and, i6, i7, i8, hK, l52, k502, k503, q57, q682, q683, q59, q6, q7, q8, L1, T9, x1, x2, lN]; omega) mov_ev7 h0 (fun E u _ h => h) s1 i2 s3 i4 hE
    by_cases c4 : t.data.toList = []
    · have hE : movS S k a m pl t.data.toList st = S := hu.trans (same2 _ (by unfold mvN; rw [if_neg (by decide), hB, lt, if_neg (by omega), if_neg c3, if_pos c4]))
      have r9 : X.bool (rhoI v o) (.seq (.va 9) (.ls ⟨#[]⟩)) = true := bool_ls (by rw [s9, ls_str, ba_nil c4])
      exact go movP8 (.va 0) (.va 1) (.va 2) (.va 3) (.va 4) (.bool true) S (by simp only [movP8, told_cons, told_nil, lt_true, lt_false, eq_true, eq_false, li_int, and_true, true_and, i6, i7, i8, hK, l52, k502, k503, q57, q682, q683, q59, q6, q7, q8, L1, T9, x1, x2, lN, r9]; omega) mov_ev8 h0 (fun E u _ h => h) s1 i2 s3 i4 hE
    have r9 : X.bool (rhoI v o) (.seq (.va 9) (.ls ⟨#[]⟩)) = false := by
      rw [seq_bool s9 ls_str]
      exact decide_eq_false c4
    obtain ⟨aN, haN⟩ : ∃ n : Nat, a = n := ⟨a.toNat, by omega⟩
    have x6 := x6 (by omega) (by omega)
    rw [haN, Int.toNat_natCast] at x6
    have x3 : X.str (rhoI v o) movX3 = ⟨(rdB B aN B.length).toArray⟩ := by unfold movX3; rw [s61 h0, li_int, hB, i6, l52, haN, Int.toNat_natCast, Int.toNat_natCast]
    have xc : X.str (rhoI v o) (.cat (.va 9) movX3) = ⟨(t.data.toList ++ rdB B aN B.length).toArray⟩ := by rw [cat_str, s9, x3, ← cat_bs]
    have hrl := rdB_length B aN B.length
    have x4 : X.bool (rhoI v o) movX4 = true := by
      unfold movX4
      rw [b64, xc, size_bs, List.length_append, hrl, lt, i6]
      exact decide_eq_true ⟨by omega, by omega⟩
    have g1 : X.bool (rhoI v o) (.big (.va 9) movX3) = false := big_false (by rw [s9, x3, size_bs (rdB B aN B.length), hrl]; omega)
    have y0 : X.str (rhoI v o) (.sub (.va 1) (.li 0) (.va 6)) = ⟨(B.take aN).toArray⟩ := by rw [sub_st, s1', i6, li_int, haN, ext_bs]; rfl
    have x5 : X.str (rhoI v o) movX5 = ⟨(B.take aN ++ t.data.toList).toArray⟩ := by unfold movX5; rw [cat_str, y0, s9, ← cat_bs]
    have g2 : X.bool (rhoI v o) (.big (.sub (.va 1) (.li 0) (.va 6)) (.va 9)) = false := big_false (by rw [y0, s9, size_bs, List.length_take]; omega)
    have g3 : X.bool (rhoI v o) (.big movX5 movX6) = false := big_false (by rw [x5, x6, size_bs, size_bs, List.length_append, List.length_take, List.length_drop, lt]; omega)
    have hE : movS S k a m pl t.data.toList st = updS S 2 (wrN (S 2) aN (t.data.toList ++ rdB B aN B.length) st) := by
      rw [hu]
      congr 1
      unfold mvN wrN
      rw [if_neg (by decide), hB, lt, if_neg (by omega), if_neg c3, if_neg c4, if_neg (by simp [c4]), haN, Int.toNat_natCast, ins_write (by omega)]
    have hb : (wrN (S 2) aN (t.data.toList ++ rdB B aN B.length) st).bytes = B.take aN ++ t.data.toList ++ B.drop aN := by
      rw [wrN_bytes, hB, ins_write (by omega)]
      rfl
    have hs : (wrN (S 2) aN (t.data.toList ++ rdB B aN B.length) st).stamp = st := by
      unfold wrN
      rw [if_neg (by simp [c4])]
    refine go movP9 movX7 (.cat movX5 movX6) (.va 10) (.va 3) (.va 4) (.bool true) _ (by simp only [movP9, told_cons, told_nil, lt_true, lt_false, eq_true, eq_false, li_int, and_true, true_and, i6, i7, i8, hK, l52, k502, k503, q57, q682, q683, q59, q6, q7, q8, L1, T9, x1, x2, lN, r9, x4, g1, g2, g3]; omega) mov_ev9 (by unfold movX7; rw [v65 h0, li_int, i6, haN, xc, i10]; rfl) (fun E u _ h => h) ?_ ?_ ?_ ?_ hE
    · rw [at2, hb, cat_str, x5, x6, cat_bs]
    · rw [at2, hs, i10]
    · rw [at3]; exact s3
    · rw [at3]; exact i4
  · have hu : movS S k a m pl t.data.toList st = updS S 2 (mvN 2 (S 2) a m t.data.toList st).2.2 := (if_neg (by omega)).trans (if_pos hk)
    rw [hk] at hK
    by_cases c1 : a < 0
    · have hE : movS S k a m pl t.data.toList st = S := hu.trans (same2 _ (by unfold mvN; rw [if_pos rfl, if_pos (.inl c1)]))
      exact go movP10 (.va 0) (.va 1) (.va 2) (.va 3) (.va 4) (.bool true) S (by simp only [movP10, told_cons, told_nil, lt_true, lt_false, eq_true, eq_false, li_int, and_true, true_and, i6, i7, i8, hK, l52, k502, k503, q57, q682, q683, q59, q6, q7, q8, L1, T9, x1, x2, lN]; omega) mov_ev10 h0 (fun E u _ h => h) s1 i2 s3 i4 hE
    by_cases c2 : m < 0
    · have hE : movS S k a m pl t.data.toList st = S := hu.trans (same2 _ (by unfold mvN; rw [if_pos rfl, if_pos (.inr c2)]))
      exact go movP11 (.va 0) (.va 1) (.va 2) (.va 3) (.va 4) (.bool true) S (by simp only [movP11, told_cons, told_nil, lt_true, lt_false, eq_true, eq_false, li_int, and_true, true_and, i6, i7, i8, hK, l52, k502, k503, q57, q682, q683, q59, q6, q7, q8, L1, T9, x1, x2, lN]; omega) mov_ev11 h0 (fun E u _ h => h) s1 i2 s3 i4 hE
    by_cases c3 : ((B.length : Nat) : Int) ≤ a
    · have hE : movS S k a m pl t.data.toList st = S := hu.trans (same2 _ (by unfold mvN; rw [if_pos rfl, if_neg (by omega), hB, if_pos (.inl c3)]))
      exact go movP15 (.va 0) (.va 1) (.va 2) (.va 3) (.va 4) (.bool true) S (by simp only [movP15, told_cons, told_nil, lt_true, lt_false, eq_true, eq_false, li_int, and_true, true_and, i6, i7, i8, hK, l52, k502, k503, q57, q682, q683, q59, q6, q7, q8, L1, T9, x1, x2, lN]; omega) mov_ev15 h0 (fun E u _ h => h) s1 i2 s3 i4 hE
    obtain ⟨aN, haN⟩ : ∃ n : Nat, a = n := ⟨a.toNat, by omega⟩
    obtain ⟨mN, hmN⟩ : ∃ n : Nat, m = n := ⟨m.toNat, by omega⟩
    have x6 := x6 (by omega) (by omega)
    rw [haN, Int.toNat_natCast] at x6
    have ln6 : X.int (rhoI v o) (.len movX6) = (B.length : Nat) - a := by rw [len_int, x6, size_bs, List.length_drop]; omega
    have x8 : X.int (rhoI v o) movX8 = (min mN (B.length - aN) : Nat) := by
      unfold movX8
      rw [len_int, sub_st, x6, li_int, i7, hmN, ext_bs, size_bs, List.length_drop, List.length_take, List.length_drop]
      simp
    by_cases c4 : m = 0
    · have hE : movS S k a m pl t.data.toList st = S := hu.trans (same2 _ (by unfold mvN; rw [if_pos rfl, if_neg (by omega), hB, if_pos (.inr c4)]))
      exact go movP12 (.va 0) (.va 1) (.va 2) (.va 3) (.va 4) (.bool true) S (by simp only [movP12, told_cons, told_nil, lt_true, lt_false, eq_true, eq_false, li_int, and_true, true_and, i6, i7, i8, hK, l52, k502, k503, q57, q682, q683, q59, q6, q7, q8, L1, T9, x1, x2, lN, ln6, x8]; omega) mov_ev12 h0 (fun E u _ h => h) s1 i2 s3 i4 hE
    have x9 : X.int (rhoI v o) movX9 = (B.length : Nat) - a := by unfold movX9; rw [sub_int, l52, i6, wrap_i (by omega) (by omega)]
    obtain ⟨g, hg⟩ : ∃ g, g = min mN (B.length - aN) := ⟨_, rfl⟩
    have hmn : X.int (rhoI v o) (.mn (.va 7) movX9) = (g : Nat) := by rw [mn_int, x9, i7]; split <;> omega
    have x10 : X.int (rhoI v o) movX10 = (B.length - g : Nat) := by unfold movX10; rw [sub_int, l52, hmn, wrap_i (by omega) (by omega)]; omega
    have x12 : X.int (rhoI v o) movX12 = (aN + g : Nat) := by unfold movX12; rw [add_int, i6, hmn, haN, wrap_i (by omega) (by omega)]; omega
    have x13 : X.str (rhoI v o) movX13 = ⟨(B.drop (aN + g)).toArray⟩ := by unfold movX13; rw [s61 h0, li_int, hB, x12, l52, Int.toNat_natCast, Int.toNat_natCast, rdB_all]
    have v11 : X.val (rhoI v o) movX11 = .st (.ino (updS S 2 (resN (S 2) (B.length - g) st))) := by unfold movX11; rw [v56 h0, li_int, x10, Int.toNat_natCast, i10]
    have q11 := b57 v11
    have hres : (resN (S 2) (B.length - g) st).bytes = resizeB B (B.length - g) := by rw [← hB]; rfl
    have k11 : X.int (rhoI v o) (.app 50 (.cons movX11 (.li 2))) = 1 := by rw [i50 v11, li_int, at2]; exact d2.1
    have x15 : X.bool (rhoI v o) movX15 = true := by
      unfold movX15
      rw [b62 v11, li_int, at2, hres, resizeB_length, x13, size_bs, List.length_drop, i6]
      exact decide_eq_true ⟨by omega, by omega⟩
    have v14 : X.val (rhoI v o) movX14 = .st (.ino (updS (updS S 2 (resN (S 2) (B.length - g) st)) 2 (layN (resN (S 2) (B.length - g) st) aN (B.drop (aN + g)) st))) := by
      unfold movX14
      rw [v60 v11, li_int, at2, i6, haN, Int.toNat_natCast, x13, i10]
    have q14 := b57 v14
    rw [updS_two] at v14
    have y0 : X.str (rhoI v o) (.sub (.va 1) (.li 0) (.va 6)) = ⟨(B.take aN).toArray⟩ := by rw [sub_st, s1', i6, li_int, haN, ext_bs]; rfl
    have hb : (layN (resN (S 2) (B.length - g) st) aN (B.drop (aN + g)) st).bytes = B.take aN ++ B.drop (aN + g) := by
      rw [layN_bytes, hres, cut_out (by omega)]
    have hs : (layN (resN (S 2) (B.length - g) st) aN (B.drop (aN + g)) st).stamp = st := by
      unfold layN
      split <;> rfl
    have hE : movS S k a m pl t.data.toList st = updS S 2 (layN (resN (S 2) (B.length - g) st) aN (B.drop (aN + g)) st) := by
      rw [hu]
      congr 1
      have e5 : (mvN 2 (S 2) a m t.data.toList st).2.2 = { S 2 with bytes := B.take aN ++ B.drop (aN + g), stamp := st } := by
        unfold mvN
        rw [if_pos rfl, if_neg (by omega), hB, if_neg (by omega), haN, hmN, Int.toNat_natCast, Int.toNat_natCast, ← hg]
      rw [e5]
      have h1 := layN_kind (resN (S 2) (B.length - g) st) aN (B.drop (aN + g)) st
      have h2 := layN_links (resN (S 2) (B.length - g) st) aN (B.drop (aN + g)) st
      generalize layN (resN (S 2) (B.length - g) st) aN (B.drop (aN + g)) st = M at hb hs h1 h2 ⊢
      obtain ⟨q1, q2, q3, q4⟩ := M
      simp only at hb hs h1 h2
      rw [hb, hs, h1, h2]
      rfl
    by_cases c5 : m < (B.length : Nat) - a
    · have hgm : g = mN := by omega
      rw [← hg, hgm] at x8
      rw [hgm] at hmn
      have x16 : X.str (rhoI v o) movX16 = ⟨(B.drop (aN + g)).toArray⟩ := by
        unfold movX16
        rw [sub_st, s1', add_int, i6, x8, L1, haN, wrap_i (by omega) (by omega), ext_bs, Int.toNat_natCast, List.take_length, hgm]
        congr 1
      have w8 : X.int (rhoI v o) (.bin .add .i64 (.va 6) movX8) = (aN + mN : Nat) := by rw [add_int, i6, x8, haN, wrap_i (by omega) (by omega)]; omega
      have g1 : X.bool (rhoI v o) (.big (.sub (.va 1) (.li 0) (.va 6)) movX16) = false := big_false (by rw [y0, x16, size_bs, size_bs, List.length_take, List.length_drop]; omega)
      refine go movP13 movX14 (.cat (.sub (.va 1) (.li 0) (.va 6)) movX16) (.va 10) (.va 3) (.va 4) (.bool true) _ (by simp only [movP13, told_cons, told_nil, lt_true, lt_false, eq_true, eq_false, li_int, and_true, true_and, i6, i7, i8, hK, l52, k502, k503, q57, q682, q683, q59, q6, q7, q8, L1, T9, x1, x2, lN, ln6, x8, x9, x10, x12, x15, q11, q14, k11, hmn, w8, g1]; omega) mov_ev13 v14 (fun E u _ h => h) ?_ ?_ ?_ ?_ hE
      · rw [at2, hb, cat_str, y0, x16, cat_bs]
      · rw [at2, hs, i10]
      · rw [at3]; exact s3
      · rw [at3]; exact i4
    · have hgm : aN + g = B.length := by omega
      have x17 : X.int (rhoI v o) movX17 = (B.length : Nat) := by unfold movX17; rw [add_int, i6, ln6, wrap_i (by omega) (by omega)]; omega
      have x18 : X.str (rhoI v o) movX18 = ⟨(B.drop (aN + g)).toArray⟩ := by
        unfold movX18
        rw [sub_st, s1', x17, L1, ext_bs, Int.toNat_natCast, List.take_length, hgm]
      have g1 : X.bool (rhoI v o) (.big (.sub (.va 1) (.li 0) (.va 6)) movX18) = false := big_false (by rw [y0, x18, size_bs, size_bs, List.length_take, List.length_drop]; omega)
      refine go movP14 movX14 (.cat (.sub (.va 1) (.li 0) (.va 6)) movX18) (.va 10) (.va 3) (.va 4) (.bool true) _ (by simp only [movP14, told_cons, told_nil, lt_true, lt_false, eq_true, eq_false, li_int, and_true, true_and, i6, i7, i8, hK, l52, k502, k503, q57, q682, q683, q59, q6, q7, q8, L1, T9, x1, x2, lN, ln6, x9, x10, x12, x15, q11, q14, k11, hmn, x17, g1]; omega) mov_ev14 v14 (fun E u _ h => h) ?_ ?_ ?_ ?_ hE
      · rw [at2, hb, cat_str, y0, x18, cat_bs]
      · rw [at2, hs, i10]
      · rw [at3]; exact s3
      · rw [at3]; exact i4
  · have hu : movS S k a m pl t.data.toList st = updS S 3 (cpN (S 2) (S 3) a m pl st).2.2 := (if_neg (by omega)).trans ((if_neg (by omega)).trans (if_neg (by omega)))
    skip
    by_cases c1 : a < 0
    · have hE : movS S k a m pl t.data.toList st = S := hu.trans (same3 _ (by unfold cpN; rw [if_pos (.inl c1)]))
      exact go movP25 (.va 0) (.va 1) (.va 2) (.va 3) (.va 4) (.bool true) S (by simp only [movP25, told_cons, told_nil, lt_true, lt_false, eq_true, eq_false, li_int, and_true, true_and, i6, i7, i8, hK, l52, k502, k503, q57, q682, q683, q59, q6, q7, q8, L1, T9, x1, x2, lN]; omega) mov_ev25 h0 (fun E u _ h => h) s1 i2 s3 i4 hE
    by_cases c2 : m < 0
    · have hE : movS S k a m pl t.data.toList st = S := hu.trans (same3 _ (by unfold cpN; rw [if_pos (.inr (.inl c2))]))
      exact go movP26 (.va 0) (.va 1) (.va 2) (.va 3) (.va 4) (.bool true) S (by simp only [movP26, told_cons, told_nil, lt_true, lt_false, eq_true, eq_false, li_int, and_true, true_and, i6, i7, i8, hK, l52, k502, k503, q57, q682, q683, q59, q6, q7, q8, L1, T9, x1, x2, lN]; omega) mov_ev26 h0 (fun E u _ h => h) s1 i2 s3 i4 hE
    by_cases c3 : pl < 0
    · have hE : movS S k a m pl t.data.toList st = S := hu.trans (same3 _ (by unfold cpN; rw [if_pos (.inr (.inr c3))]))
      exact go movP27 (.va 0) (.va 1) (.va 2) (.va 3) (.va 4) (.bool true) S (by simp only [movP27, told_cons, told_nil, lt_true, lt_false, eq_true, eq_false, li_int, and_true, true_and, i6, i7, i8, hK, l52, k502, k503, q57, q682, q683, q59, q6, q7, q8, L1, T9, x1, x2, lN]; omega) mov_ev27 h0 (fun E u _ h => h) s1 i2 s3 i4 hE
    have x19 : X.str (rhoI v o) movX19 = ⟨(readB B a.toNat m.toNat).toArray⟩ := by unfold movX19; rw [s66 h0, li_int, hB, i6, i7]
    have ln19 : X.int (rhoI v o) (.len movX19) = ((readB B a.toNat m.toNat).length : Nat) := by rw [len_int, x19, size_bs]
    have hrl := readB_length B a.toNat m.toNat
    by_cases c4 : ((B.length : Nat) : Int) ≤ a
    · have hz : readB B a.toNat m.toNat = [] := readB_past (by omega)
      have hstr : (X.str (rhoI v o) (.ls ⟨#[]⟩)).data.toList = readB B a.toNat m.toNat := by rw [hz]; rfl
      by_cases cF : 0 ≤ pl ∧ pl + (((readB B a.toNat m.toNat).length : Nat) : Int) ≤ 1048576
      · have hF1 : doN 0 (S 3) pl 0 (readB B a.toNat m.toNat) st = (pl + ((readB B a.toNat m.toNat).length : Nat), 0, wrN (S 3) pl.toNat (readB B a.toNat m.toNat) st) := by
          unfold doN
          rw [if_neg (by decide), if_neg (by decide), if_neg (by decide), if_pos cF]
        have x84 : X.int (rhoI v o) movX27 = 0 := by unfold movX27; rw [hc84k, hstr, hF1]
        have q64 : X.bool (rhoI v o) (.app 64 (.cons (.va 8) movX19)) = true := by rw [b64, x19, size_bs, i8]; exact decide_eq_true cF
        have hE : movS S k a m pl t.data.toList st = updS S 3 (wrN (S 3) pl.toNat (readB B a.toNat m.toNat) st) := by
          rw [hu]
          congr 1
          unfold cpN
          rw [if_neg (by omega), hB, hF1]
          rfl
        refine go movP32 movX25 (.va 1) (.va 2) (.app 85 (.cons (.va 3) (.cons (.va 4) (.cons (.li 0) (.cons (.va 8) (.cons (.li 0) (.cons (.ls ⟨#[]⟩) (.va 10)))))))) (.app 86 (.cons (.va 3) (.cons (.va 4) (.cons (.li 0) (.cons (.va 8) (.cons (.li 0) (.cons (.ls ⟨#[]⟩) (.va 10)))))))) (.bool true) _ (by simp only [movP32, told_cons, told_nil, lt_true, lt_false, eq_true, eq_false, li_int, and_true, true_and, i6, i7, i8, hK, l52, k502, k503, q57, q682, q683, q59, q6, q7, q8, L1, T9, x1, x2, lN, ln19, hrl, x84, q64]; omega) mov_ev32 (by unfold movX25; rw [v65 h0, li_int, i8, x19, i10]) (fun E u _ h => h) ?_ ?_ ?_ ?_ hE
        · rw [bt2]; exact s1
        · rw [bt2]; exact i2
        · rw [bt3, hc85k, hstr, hF1]
        · rw [bt3, hc86k, hstr, hF1]
      · have hF1 : doN 0 (S 3) pl 0 (readB B a.toNat m.toNat) st = (0, 160, (S 3)) := by
          unfold doN
          rw [if_neg (by decide), if_neg (by decide), if_neg (by decide), if_neg cF, if_neg (by omega)]
        have x84 : X.int (rhoI v o) movX27 = 160 := by unfold movX27; rw [hc84k, hstr, hF1]
        have q64 : X.bool (rhoI v o) (.app 64 (.cons (.va 8) movX19)) = false := by rw [b64, x19, size_bs, i8]; exact decide_eq_false cF
        have hE : movS S k a m pl t.data.toList st = S := hu.trans (same3 _ (by unfold cpN; rw [if_neg (by omega), hB, hF1]; rfl))
        exact go movP33 (.va 0) (.va 1) (.va 2) (.va 3) (.va 4) (.xb (.eq (.li 160) movX27)) S (by simp only [movP33, told_cons, told_nil, lt_true, lt_false, eq_true, eq_false, li_int, and_true, true_and, i6, i7, i8, hK, l52, k502, k503, q57, q682, q683, q59, q6, q7, q8, L1, T9, x1, x2, lN, ln19, hrl, x84, q64]; omega) mov_ev33 h0 (fun E u hE hu => by rw [show u = .bool (X.bool E.ρ (.eq (.li 160) movX27)) from hu, hE, eq_bool (by rw [x84]; rfl)]) s1 i2 s3 i4 hE
    have x6 := x6 (by omega) (by omega)
    have ln6 : X.int (rhoI v o) (.len movX6) = (B.length : Nat) - a := by rw [len_int, x6, size_bs, List.length_drop]; omega
    by_cases c5 : m < (B.length : Nat) - a
    · have hsb : X.str (rhoI v o) (.sub movX6 (.li 0) (.va 7)) = ⟨(readB B a.toNat m.toNat).toArray⟩ := by
        rw [sub_st, x6, li_int, i7, ext_bs]
        rfl
      have hstr : (X.str (rhoI v o) (.sub movX6 (.li 0) (.va 7))).data.toList = readB B a.toNat m.toNat := by rw [hsb]
      have x8 : X.int (rhoI v o) movX8 = ((readB B a.toNat m.toNat).length : Nat) := by unfold movX8; rw [len_int, hsb, size_bs]
      by_cases cF : 0 ≤ pl ∧ pl + (((readB B a.toNat m.toNat).length : Nat) : Int) ≤ 1048576
      · have hF1 : doN 0 (S 3) pl 0 (readB B a.toNat m.toNat) st = (pl + ((readB B a.toNat m.toNat).length : Nat), 0, wrN (S 3) pl.toNat (readB B a.toNat m.toNat) st) := by
          unfold doN
          rw [if_neg (by decide), if_neg (by decide), if_neg (by decide), if_pos cF]
        have x84 : X.int (rhoI v o) movX24 = 0 := by unfold movX24; rw [hc84k, hstr, hF1]
        have q64 : X.bool (rhoI v o) (.app 64 (.cons (.va 8) movX19)) = true := by rw [b64, x19, size_bs, i8]; exact decide_eq_true cF
        have hE : movS S k a m pl t.data.toList st = updS S 3 (wrN (S 3) pl.toNat (readB B a.toNat m.toNat) st) := by
          rw [hu]
          congr 1
          unfold cpN
          rw [if_neg (by omega), hB, hF1]
          rfl
        refine go movP28 movX25 (.va 1) (.va 2) (.app 85 (.cons (.va 3) (.cons (.va 4) (.cons (.li 0) (.cons (.va 8) (.cons (.li 0) (.cons (.sub movX6 (.li 0) (.va 7)) (.va 10)))))))) (.app 86 (.cons (.va 3) (.cons (.va 4) (.cons (.li 0) (.cons (.va 8) (.cons (.li 0) (.cons (.sub movX6 (.li 0) (.va 7)) (.va 10)))))))) (.bool true) _ (by simp only [movP28, told_cons, told_nil, lt_true, lt_false, eq_true, eq_false, li_int, and_true, true_and, i6, i7, i8, hK, l52, k502, k503, q57, q682, q683, q59, q6, q7, q8, L1, T9, x1, x2, lN, ln19, ln6, x8, hrl, x84, q64]; omega) mov_ev28 (by unfold movX25; rw [v65 h0, li_int, i8, x19, i10]) (fun E u _ h => h) ?_ ?_ ?_ ?_ hE
        · rw [bt2]; exact s1
        · rw [bt2]; exact i2
        · rw [bt3, hc85k, hstr, hF1]
        · rw [bt3, hc86k, hstr, hF1]
      · have hF1 : doN 0 (S 3) pl 0 (readB B a.toNat m.toNat) st = (0, 160, (S 3)) := by
          unfold doN
          rw [if_neg (by decide), if_neg (by decide), if_neg (by decide), if_neg cF, if_neg (by omega)]
        have x84 : X.int (rhoI v o) movX24 = 160 := by unfold movX24; rw [hc84k, hstr, hF1]
        have q64 : X.bool (rhoI v o) (.app 64 (.cons (.va 8) movX19)) = false := by rw [b64, x19, size_bs, i8]; exact decide_eq_false cF
        have hE : movS S k a m pl t.data.toList st = S := hu.trans (same3 _ (by unfold cpN; rw [if_neg (by omega), hB, hF1]; rfl))
        exact go movP29 (.va 0) (.va 1) (.va 2) (.va 3) (.va 4) (.xb (.eq (.li 160) movX24)) S (by simp only [movP29, told_cons, told_nil, lt_true, lt_false, eq_true, eq_false, li_int, and_true, true_and, i6, i7, i8, hK, l52, k502, k503, q57, q682, q683, q59, q6, q7, q8, L1, T9, x1, x2, lN, ln19, ln6, x8, hrl, x84, q64]; omega) mov_ev29 h0 (fun E u hE hu => by rw [show u = .bool (X.bool E.ρ (.eq (.li 160) movX24)) from hu, hE, eq_bool (by rw [x84]; rfl)]) s1 i2 s3 i4 hE
    · have hz : readB B a.toNat m.toNat = B.drop a.toNat := List.take_of_length_le (by rw [List.length_drop]; omega)
      have hstr : (X.str (rhoI v o) movX6).data.toList = readB B a.toNat m.toNat := by rw [x6, hz]
      by_cases cF : 0 ≤ pl ∧ pl + (((readB B a.toNat m.toNat).length : Nat) : Int) ≤ 1048576
      · have hF1 : doN 0 (S 3) pl 0 (readB B a.toNat m.toNat) st = (pl + ((readB B a.toNat m.toNat).length : Nat), 0, wrN (S 3) pl.toNat (readB B a.toNat m.toNat) st) := by
          unfold doN
          rw [if_neg (by decide), if_neg (by decide), if_neg (by decide), if_pos cF]
        have x84 : X.int (rhoI v o) movX26 = 0 := by unfold movX26; rw [hc84k, hstr, hF1]
        have q64 : X.bool (rhoI v o) (.app 64 (.cons (.va 8) movX19)) = true := by rw [b64, x19, size_bs, i8]; exact decide_eq_true cF
        have hE : movS S k a m pl t.data.toList st = updS S 3 (wrN (S 3) pl.toNat (readB B a.toNat m.toNat) st) := by
          rw [hu]
          congr 1
          unfold cpN
          rw [if_neg (by omega), hB, hF1]
          rfl
        refine go movP30 movX25 (.va 1) (.va 2) (.app 85 (.cons (.va 3) (.cons (.va 4) (.cons (.li 0) (.cons (.va 8) (.cons (.li 0) (.cons movX6 (.va 10)))))))) (.app 86 (.cons (.va 3) (.cons (.va 4) (.cons (.li 0) (.cons (.va 8) (.cons (.li 0) (.cons movX6 (.va 10)))))))) (.bool true) _ (by simp only [movP30, told_cons, told_nil, lt_true, lt_false, eq_true, eq_false, li_int, and_true, true_and, i6, i7, i8, hK, l52, k502, k503, q57, q682, q683, q59, q6, q7, q8, L1, T9, x1, x2, lN, ln19, ln6, hrl, x84, q64]; omega) mov_ev30 (by unfold movX25; rw [v65 h0, li_int, i8, x19, i10]) (fun E u _ h => h) ?_ ?_ ?_ ?_ hE
        · rw [bt2]; exact s1
        · rw [bt2]; exact i2
        · rw [bt3, hc85k, hstr, hF1]
        · rw [bt3, hc86k, hstr, hF1]
      · have hF1 : doN 0 (S 3) pl 0 (readB B a.toNat m.toNat) st = (0, 160, (S 3)) := by
          unfold doN
          rw [if_neg (by decide), if_neg (by decide), if_neg (by decide), if_neg cF, if_neg (by omega)]
        have x84 : X.int (rhoI v o) movX26 = 160 := by unfold movX26; rw [hc84k, hstr, hF1]
        have q64 : X.bool (rhoI v o) (.app 64 (.cons (.va 8) movX19)) = false := by rw [b64, x19, size_bs, i8]; exact decide_eq_false cF
        have hE : movS S k a m pl t.data.toList st = S := hu.trans (same3 _ (by unfold cpN; rw [if_neg (by omega), hB, hF1]; rfl))
        exact go movP31 (.va 0) (.va 1) (.va 2) (.va 3) (.va 4) (.xb (.eq (.li 160) movX26)) S (by simp only [movP31, told_cons, told_nil, lt_true, lt_false, eq_true, eq_false, li_int, and_true, true_and, i6, i7, i8, hK, l52, k502, k503, q57, q682, q683, q59, q6, q7, q8, L1, T9, x1, x2, lN, ln19, ln6, hrl, x84, q64]; omega) mov_ev31 h0 (fun E u hE hu => by rw [show u = .bool (X.bool E.ρ (.eq (.li 160) movX26)) from hu, hE, eq_bool (by rw [x84]; rfl)]) s1 i2 s3 i4 hE
  · have hu : movS S k a m pl t.data.toList st = updS S 2 (cpN (S 2) (S 2) a m pl st).2.2 := (if_neg (by omega)).trans ((if_neg (by omega)).trans (if_pos hk))
    rw [hk] at hK
    by_cases c1 : a < 0
    · have hE : movS S k a m pl t.data.toList st = S := hu.trans (same2 _ (by unfold cpN; rw [if_pos (.inl c1)]))
      exact go movP16 (.va 0) (.va 1) (.va 2) (.va 3) (.va 4) (.bool true) S (by simp only [movP16, told_cons, told_nil, lt_true, lt_false, eq_true, eq_false, li_int, and_true, true_and, i6, i7, i8, hK, l52, k502, k503, q57, q682, q683, q59, q6, q7, q8, L1, T9, x1, x2, lN]; omega) mov_ev16 h0 (fun E u _ h => h) s1 i2 s3 i4 hE
    by_cases c2 : m < 0
    · have hE : movS S k a m pl t.data.toList st = S := hu.trans (same2 _ (by unfold cpN; rw [if_pos (.inr (.inl c2))]))
      exact go movP17 (.va 0) (.va 1) (.va 2) (.va 3) (.va 4) (.bool true) S (by simp only [movP17, told_cons, told_nil, lt_true, lt_false, eq_true, eq_false, li_int, and_true, true_and, i6, i7, i8, hK, l52, k502, k503, q57, q682, q683, q59, q6, q7, q8, L1, T9, x1, x2, lN]; omega) mov_ev17 h0 (fun E u _ h => h) s1 i2 s3 i4 hE
    by_cases c3 : pl < 0
    · have hE : movS S k a m pl t.data.toList st = S := hu.trans (same2 _ (by unfold cpN; rw [if_pos (.inr (.inr c3))]))
      exact go movP18 (.va 0) (.va 1) (.va 2) (.va 3) (.va 4) (.bool true) S (by simp only [movP18, told_cons, told_nil, lt_true, lt_false, eq_true, eq_false, li_int, and_true, true_and, i6, i7, i8, hK, l52, k502, k503, q57, q682, q683, q59, q6, q7, q8, L1, T9, x1, x2, lN]; omega) mov_ev18 h0 (fun E u _ h => h) s1 i2 s3 i4 hE
    have x19 : X.str (rhoI v o) movX19 = ⟨(readB B a.toNat m.toNat).toArray⟩ := by unfold movX19; rw [s66 h0, li_int, hB, i6, i7]
    have ln19 : X.int (rhoI v o) (.len movX19) = ((readB B a.toNat m.toNat).length : Nat) := by rw [len_int, x19, size_bs]
    have hrl := readB_length B a.toNat m.toNat
    by_cases c4 : ((B.length : Nat) : Int) ≤ a
    · have hz : readB B a.toNat m.toNat = [] := readB_past (by omega)
      have hstr : (X.str (rhoI v o) (.ls ⟨#[]⟩)).data.toList = readB B a.toNat m.toNat := by rw [hz]; rfl
      by_cases cF : 0 ≤ pl ∧ pl + (((readB B a.toNat m.toNat).length : Nat) : Int) ≤ 1048576
      · have hF1 : doN 0 (S 2) pl 0 (readB B a.toNat m.toNat) st = (pl + ((readB B a.toNat m.toNat).length : Nat), 0, wrN (S 2) pl.toNat (readB B a.toNat m.toNat) st) := by
          unfold doN
          rw [if_neg (by decide), if_neg (by decide), if_neg (by decide), if_pos cF]
        have x84 : X.int (rhoI v o) movX23 = 0 := by unfold movX23; rw [hc84, hstr, hF1]
        have q64 : X.bool (rhoI v o) (.app 64 (.cons (.va 8) movX19)) = true := by rw [b64, x19, size_bs, i8]; exact decide_eq_true cF
        have hE : movS S k a m pl t.data.toList st = updS S 2 (wrN (S 2) pl.toNat (readB B a.toNat m.toNat) st) := by
          rw [hu]
          congr 1
          unfold cpN
          rw [if_neg (by omega), hB, hF1]
          rfl
        refine go movP23 movX21 (.app 85 (.cons (.va 1) (.cons (.va 2) (.cons (.li 0) (.cons (.va 8) (.cons (.li 0) (.cons (.ls ⟨#[]⟩) (.va 10)))))))) (.app 86 (.cons (.va 1) (.cons (.va 2) (.cons (.li 0) (.cons (.va 8) (.cons (.li 0) (.cons (.ls ⟨#[]⟩) (.va 10)))))))) (.va 3) (.va 4) (.bool true) _ (by simp only [movP23, told_cons, told_nil, lt_true, lt_false, eq_true, eq_false, li_int, and_true, true_and, i6, i7, i8, hK, l52, k502, k503, q57, q682, q683, q59, q6, q7, q8, L1, T9, x1, x2, lN, ln19, hrl, x84, q64]; omega) mov_ev23 (by unfold movX21; rw [v65 h0, li_int, i8, x19, i10]) (fun E u _ h => h) ?_ ?_ ?_ ?_ hE
        · rw [at2, hc85, hstr, hF1]
        · rw [at2, hc86, hstr, hF1]
        · rw [at3]; exact s3
        · rw [at3]; exact i4
      · have hF1 : doN 0 (S 2) pl 0 (readB B a.toNat m.toNat) st = (0, 160, (S 2)) := by
          unfold doN
          rw [if_neg (by decide), if_neg (by decide), if_neg (by decide), if_neg cF, if_neg (by omega)]
        have x84 : X.int (rhoI v o) movX23 = 160 := by unfold movX23; rw [hc84, hstr, hF1]
        have q64 : X.bool (rhoI v o) (.app 64 (.cons (.va 8) movX19)) = false := by rw [b64, x19, size_bs, i8]; exact decide_eq_false cF
        have hE : movS S k a m pl t.data.toList st = S := hu.trans (same2 _ (by unfold cpN; rw [if_neg (by omega), hB, hF1]; rfl))
        exact go movP24 (.va 0) (.va 1) (.va 2) (.va 3) (.va 4) (.xb (.eq (.li 160) movX23)) S (by simp only [movP24, told_cons, told_nil, lt_true, lt_false, eq_true, eq_false, li_int, and_true, true_and, i6, i7, i8, hK, l52, k502, k503, q57, q682, q683, q59, q6, q7, q8, L1, T9, x1, x2, lN, ln19, hrl, x84, q64]; omega) mov_ev24 h0 (fun E u hE hu => by rw [show u = .bool (X.bool E.ρ (.eq (.li 160) movX23)) from hu, hE, eq_bool (by rw [x84]; rfl)]) s1 i2 s3 i4 hE
    have x6 := x6 (by omega) (by omega)
    have ln6 : X.int (rhoI v o) (.len movX6) = (B.length : Nat) - a := by rw [len_int, x6, size_bs, List.length_drop]; omega
    by_cases c5 : m < (B.length : Nat) - a
    · have hsb : X.str (rhoI v o) (.sub movX6 (.li 0) (.va 7)) = ⟨(readB B a.toNat m.toNat).toArray⟩ := by
        rw [sub_st, x6, li_int, i7, ext_bs]
        rfl
      have hstr : (X.str (rhoI v o) (.sub movX6 (.li 0) (.va 7))).data.toList = readB B a.toNat m.toNat := by rw [hsb]
      have x8 : X.int (rhoI v o) movX8 = ((readB B a.toNat m.toNat).length : Nat) := by unfold movX8; rw [len_int, hsb, size_bs]
      by_cases cF : 0 ≤ pl ∧ pl + (((readB B a.toNat m.toNat).length : Nat) : Int) ≤ 1048576
      · have hF1 : doN 0 (S 2) pl 0 (readB B a.toNat m.toNat) st = (pl + ((readB B a.toNat m.toNat).length : Nat), 0, wrN (S 2) pl.toNat (readB B a.toNat m.toNat) st) := by
          unfold doN
          rw [if_neg (by decide), if_neg (by decide), if_neg (by decide), if_pos cF]
        have x84 : X.int (rhoI v o) movX20 = 0 := by unfold movX20; rw [hc84, hstr, hF1]
        have q64 : X.bool (rhoI v o) (.app 64 (.cons (.va 8) movX19)) = true := by rw [b64, x19, size_bs, i8]; exact decide_eq_true cF
        have hE : movS S k a m pl t.data.toList st = updS S 2 (wrN (S 2) pl.toNat (readB B a.toNat m.toNat) st) := by
          rw [hu]
          congr 1
          unfold cpN
          rw [if_neg (by omega), hB, hF1]
          rfl
        refine go movP19 movX21 (.app 85 (.cons (.va 1) (.cons (.va 2) (.cons (.li 0) (.cons (.va 8) (.cons (.li 0) (.cons (.sub movX6 (.li 0) (.va 7)) (.va 10)))))))) (.app 86 (.cons (.va 1) (.cons (.va 2) (.cons (.li 0) (.cons (.va 8) (.cons (.li 0) (.cons (.sub movX6 (.li 0) (.va 7)) (.va 10)))))))) (.va 3) (.va 4) (.bool true) _ (by simp only [movP19, told_cons, told_nil, lt_true, lt_false, eq_true, eq_false, li_int, and_true, true_and, i6, i7, i8, hK, l52, k502, k503, q57, q682, q683, q59, q6, q7, q8, L1, T9, x1, x2, lN, ln19, ln6, x8, hrl, x84, q64]; omega) mov_ev19 (by unfold movX21; rw [v65 h0, li_int, i8, x19, i10]) (fun E u _ h => h) ?_ ?_ ?_ ?_ hE
        · rw [at2, hc85, hstr, hF1]
        · rw [at2, hc86, hstr, hF1]
        · rw [at3]; exact s3
        · rw [at3]; exact i4
      · have hF1 : doN 0 (S 2) pl 0 (readB B a.toNat m.toNat) st = (0, 160, (S 2)) := by
          unfold doN
          rw [if_neg (by decide), if_neg (by decide), if_neg (by decide), if_neg cF, if_neg (by omega)]
        have x84 : X.int (rhoI v o) movX20 = 160 := by unfold movX20; rw [hc84, hstr, hF1]
        have q64 : X.bool (rhoI v o) (.app 64 (.cons (.va 8) movX19)) = false := by rw [b64, x19, size_bs, i8]; exact decide_eq_false cF
        have hE : movS S k a m pl t.data.toList st = S := hu.trans (same2 _ (by unfold cpN; rw [if_neg (by omega), hB, hF1]; rfl))
        exact go movP20 (.va 0) (.va 1) (.va 2) (.va 3) (.va 4) (.xb (.eq (.li 160) movX20)) S (by simp only [movP20, told_cons, told_nil, lt_true, lt_false, eq_true, eq_false, li_int, and_true, true_and, i6, i7, i8, hK, l52, k502, k503, q57, q682, q683, q59, q6, q7, q8, L1, T9, x1, x2, lN, ln19, ln6, x8, hrl, x84, q64]; omega) mov_ev20 h0 (fun E u hE hu => by rw [show u = .bool (X.bool E.ρ (.eq (.li 160) movX20)) from hu, hE, eq_bool (by rw [x84]; rfl)]) s1 i2 s3 i4 hE
    · have hz : readB B a.toNat m.toNat = B.drop a.toNat := List.take_of_length_le (by rw [List.length_drop]; omega)
      have hstr : (X.str (rhoI v o) movX6).data.toList = readB B a.toNat m.toNat := by rw [x6, hz]
      by_cases cF : 0 ≤ pl ∧ pl + (((readB B a.toNat m.toNat).length : Nat) : Int) ≤ 1048576
      · have hF1 : doN 0 (S 2) pl 0 (readB B a.toNat m.toNat) st = (pl + ((readB B a.toNat m.toNat).length : Nat), 0, wrN (S 2) pl.toNat (readB B a.toNat m.toNat) st) := by
          unfold doN
          rw [if_neg (by decide), if_neg (by decide), if_neg (by decide), if_pos cF]
        have x84 : X.int (rhoI v o) movX22 = 0 := by unfold movX22; rw [hc84, hstr, hF1]
        have q64 : X.bool (rhoI v o) (.app 64 (.cons (.va 8) movX19)) = true := by rw [b64, x19, size_bs, i8]; exact decide_eq_true cF
        have hE : movS S k a m pl t.data.toList st = updS S 2 (wrN (S 2) pl.toNat (readB B a.toNat m.toNat) st) := by
          rw [hu]
          congr 1
          unfold cpN
          rw [if_neg (by omega), hB, hF1]
          rfl
        refine go movP21 movX21 (.app 85 (.cons (.va 1) (.cons (.va 2) (.cons (.li 0) (.cons (.va 8) (.cons (.li 0) (.cons movX6 (.va 10)))))))) (.app 86 (.cons (.va 1) (.cons (.va 2) (.cons (.li 0) (.cons (.va 8) (.cons (.li 0) (.cons movX6 (.va 10)))))))) (.va 3) (.va 4) (.bool true) _ (by simp only [movP21, told_cons, told_nil, lt_true, lt_false, eq_true, eq_false, li_int, and_true, true_and, i6, i7, i8, hK, l52, k502, k503, q57, q682, q683, q59, q6, q7, q8, L1, T9, x1, x2, lN, ln19, ln6, hrl, x84, q64]; omega) mov_ev21 (by unfold movX21; rw [v65 h0, li_int, i8, x19, i10]) (fun E u _ h => h) ?_ ?_ ?_ ?_ hE
        · rw [at2, hc85, hstr, hF1]
        · rw [at2, hc86, hstr, hF1]
        · rw [at3]; exact s3
        · rw [at3]; exact i4
      · have hF1 : doN 0 (S 2) pl 0 (readB B a.toNat m.toNat) st = (0, 160, (S 2)) := by
          unfold doN
          rw [if_neg (by decide), if_neg (by decide), if_neg (by decide), if_neg cF, if_neg (by omega)]
        have x84 : X.int (rhoI v o) movX22 = 160 := by unfold movX22; rw [hc84, hstr, hF1]
        have q64 : X.bool (rhoI v o) (.app 64 (.cons (.va 8) movX19)) = false := by rw [b64, x19, size_bs, i8]; exact decide_eq_false cF
        have hE : movS S k a m pl t.data.toList st = S := hu.trans (same2 _ (by unfold cpN; rw [if_neg (by omega), hB, hF1]; rfl))
        exact go movP22 (.va 0) (.va 1) (.va 2) (.va 3) (.va 4) (.xb (.eq (.li 160) movX22)) S (by simp only [movP22, told_cons, told_nil, lt_true, lt_false, eq_true, eq_false, li_int, and_true, true_and, i6, i7, i8, hK, l52, k502, k503, q57, q682, q683, q59, q6, q7, q8, L1, T9, x1, x2, lN, ln19, ln6, hrl, x84, q64]; omega) mov_ev22 h0 (fun E u hE hu => by rw [show u = .bool (X.bool E.ρ (.eq (.li 160) movX22)) from hu, hE, eq_bool (by rw [x84]; rfl)]) s1 i2 s3 i4 hE
end Go.Proofs.YtcnimekhpnejlaaGreat.Ev
