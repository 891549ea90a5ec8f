/- Texts of this seat joined into one: Zg, Pe, Pf, Ph, Pi, Ob, Dc, E8, Ee, E9, Ec. -/
import Derived.Test.YtcnimekhpnejlaaGreatVFilePlays3
import Derived.Test.YtcnimekhpnejlaaGreatVFilePlays0
import Derived.Test.YtcnimekhpnejlaaGreatVFilePlays2
import Derived.Test.YtcnimekhpnejlaaGreatVB10
import Derived.Test.YtcnimekhpnejlaaGreatVFilePlays1
import Derived.Test.YtcnimekhpnejlaaGreatVB11
import Derived.WalkKit
import Derived.OwnWalk
import Derived.Deep.Cut

/- The rule of the function within Zero holds. -/
namespace Go.Proofs.YtcnimekhpnejlaaGreat.Ev
open Go Go.RowKit
set_option linter.unusedVariables false
set_option linter.unusedSimpArgs false
set_option maxRecDepth 10000
/-- The first cell of a block of cells. -/
theorem HRel.first {E : Env} {h : T Blk} {w : World} (hr : HRel E h w) {j : Nat} {t : TypeId} {c : Cells} (hj : h.get j = some (.cells t none c false)) (hn : 1 ≤ c.n) : ∃ q v, E.m j = some q ∧ q.dl = 0 ∧ w.cell? ⟨q.blk, 0, none⟩ = some v ∧ (c.get 0).rel E v := by
  obtain ⟨q, hq⟩ := hr.pl hj
  obtain ⟨o, ho, hrel⟩ := hr.blk hj hq
  obtain ⟨cs, lo, hi, rfl, hc⟩ := hrel
  have hd := hc.dl rfl
  obtain ⟨vs, hl, hvs, hcell⟩ := hr.read hj hq 0 1 (by omega)
  match vs, hl with
  | [v], _ =>
    have h1 := hcell 0 v rfl
    rw [hd] at h1
    have h2 := Rels.get hvs 0 (c.get 0) (by rw [Cells.list_get c 1 0 0 (by omega)])
    obtain ⟨b, hb, h3⟩ := h2
    obtain rfl : v = b := by simpa using hb
    exact ⟨q, v, hq, hd, h1, h3⟩
theorem sumZ1_ok {v : Nat → D} {o : Nat → Value} {pc : List (X × Bool)} (hpc : Told (rhoI v o) pc) {R : Rules} : CallOk (ctx R (rhoI v o) pc) (sumZ1 pc) := by
  intro g args h nx r he E w vs hr hρ hf hargs
  replace hρ : E.ρ = rhoI v o := hρ
  unfold sumZ1 at he
  split at he
  · rename_i hg
    subst hg
    split at he
    · rename_i i j1 j2 j3 j4
      split at he
      · rename_i e t1 c1 t2 c2 t3 c3 t4 c4 hi h1 h2 h3 h4
        split at he
        · rename_i hc
          obtain ⟨n1, n2, n3, n4, d1, d2, d3, d4, h57⟩ := hc
          obtain ⟨⟨k1, n⟩, hn, he⟩ := Option.bind_eq_some_iff.1 he
          obtain ⟨⟨k2, a⟩, ha, he⟩ := Option.bind_eq_some_iff.1 he
          obtain ⟨⟨k3, m⟩, hm, he⟩ := Option.bind_eq_some_iff.1 he
          obtain ⟨⟨k4, st⟩, hst, he⟩ := Option.bind_eq_some_iff.1 he
          split at he
          · rename_i hk
            obtain ⟨e1, e2, e3, e4, c59, cn, cu, cm, c62⟩ := hk
            have e1 : k1 = .i64 := e1
            have e2 : k2 = .i64 := e2
            have e3 : k3 = .i64 := e3
            have e4 : k4 = .u64 := e4
            subst e1 e2 e3 e4
            obtain rfl := Option.some.inj he
            obtain ⟨S, hS⟩ := told57 hpc h57
            obtain ⟨q1, v1, m1, l1, w1, r1⟩ := hr.first h1 n1
            obtain ⟨q2, v2, m2, l2, w2, r2⟩ := hr.first h2 n2
            obtain ⟨q3, v3, m3, l3, w3, r3⟩ := hr.first h3 n3
            obtain ⟨q4, v4, m4, l4, w4, r4⟩ := hr.first h4 n4
            have r1 : v1 = .int .i64 (n.int (rhoI v o)) := by rw [← hρ]; exact asI_rel hn r1
            have r2 : v2 = .int .i64 (a.int (rhoI v o)) := by rw [← hρ]; exact asI_rel ha r2
            have r3 : v3 = .int .i64 (m.int (rhoI v o)) := by rw [← hρ]; exact asI_rel hm r3
            have r4 : v4 = .int .u64 (st.int (rhoI v o)) := by rw [← hρ]; exact asI_rel hst r4
            subst r1 r2 r3 r4
            obtain ⟨p, ob, hp, hob, hd0⟩ := hr.at_ i _ hi
            have hd : p.dl = 0 := hd0
            have his := hr.abs.ab i e p hi hp
            have his2 : isD Tryz.prog (e.val (rhoI v o)) p.blk w := by rw [hρ] at his; exact his
            rw [hS] at his2
            have hnum : 1 ≤ n.int (rhoI v o) ∧ n.int (rhoI v o) ≤ 4096 := of_decide_eq_true (rNum_ok hpc cn).symm
            have hkd : (S (n.int (rhoI v o))).kind ≠ 0 := fun h0 => by
              have := rUsed_ok hpc hS cu
              rw [if_pos h0] at this
              omega
            have hm0 : decide (m.int (rhoI v o) < 0) = false := truL_ok hpc cm
            have hm0 := of_decide_eq_false hm0
            have c62 : X.bool (rhoI v o) (.app 62 (.cons e (.cons n (.cons a (.app 69 m))))) = true := truL_ok hpc c62
            have f62 : X.bool (rhoI v o) (.app 62 (.cons e (.cons n (.cons a (.app 69 m))))) = decide (0 ≤ a.int (rhoI v o) ∧ a.int (rhoI v o) + ((X.str (rhoI v o) (.app 69 m)).size : Nat) ≤ ((S (n.int (rhoI v o))).bytes.length : Nat)) := by
              show (FNi 62 (.p (e.val (rhoI v o)) (.p (n.val (rhoI v o)) (.p (a.val (rhoI v o)) ((X.app 69 m).val (rhoI v o)))))).bool = _
              rw [hS]; rfl
            rw [f62] at c62
            have c62 := of_decide_eq_true c62
            have z69 : X.str (rhoI v o) (.app 69 m) = ⟨(zeros (m.int (rhoI v o)).toNat).toArray⟩ := rfl
            have zs : (X.str (rhoI v o) (.app 69 m)).size = (m.int (rhoI v o)).toNat := by
              rw [z69]
              show (zeros (m.int (rhoI v o)).toNat).toArray.size = _
              rw [List.size_toArray, zeros_length]
            rw [zs] at c62
            obtain ⟨aN, haN⟩ : ∃ k : Nat, a.int (rhoI v o) = k := ⟨(a.int (rhoI v o)).toNat, by omega⟩
            obtain ⟨mN, hmN⟩ : ∃ k : Nat, m.int (rhoI v o) = k := ⟨(m.int (rhoI v o)).toNat, by omega⟩
            have far : ∀ j b q, h.get j = some b → E.m j = some q → i ≠ j → ¬ ownD Tryz.prog p.blk w q.blk := fun j b q hj hq hne ho => hr.abs.far i e p j b q hi hp hj hq (Ne.symm hne) (by rw [hρ]; exact ho)
            match vs, hargs with
            | [u0, u1, u2, u3, u4], hargs =>
              obtain ⟨⟨x0, y0, f0⟩, ⟨x1, y1, f1⟩, ⟨x2, y2, f2⟩, ⟨x3, y3, f3⟩, ⟨x4, y4, f4⟩, _⟩ := hargs
              rw [hp] at y0; obtain rfl := Option.some.inj y0
              rw [m1] at y1; obtain rfl := Option.some.inj y1
              rw [m2] at y2; obtain rfl := Option.some.inj y2
              rw [m3] at y3; obtain rfl := Option.some.inj y3
              rw [m4] at y4; obtain rfl := Option.some.inj y4
              rw [hd] at f0; rw [l1] at f1; rw [l2] at f2; rw [l3] at f3; rw [l4] at f4
              subst f0 f1 f2 f3 f4
              rw [haN] at w2 c62
              rw [hmN] at w3 c62
              rw [Int.toNat_natCast] at c62
              refine (zero1_any his2 hnum hkd (a := aN) (m := mN) (by omega) (inU64_oki hpc c59) w1 w2 w3 w4 (far j1 _ _ h1 m1 d1) (far j2 _ _ h2 m2 d2) (far j3 _ _ h3 m3 d3) (far j4 _ _ h4 m4 d4)).mono fun en w' ⟨he, hK⟩ => ?_
              refine ⟨_, E, he, Goes.acall hr hi hp (e' := .app 60 (.cons e (.cons n (.cons a (.cons (.app 69 m) st))))) (w' := w') ?_ (fun k hk => ?_) hK.but.os hK.but.tape hK.but.output hK.but.size (fun k hk hn => hK.but.block k hk fun ho => hn (by rw [hρ]; exact ho)), rfl⟩
              · rw [hρ]
                have hv60 : X.val (rhoI v o) (.app 60 (.cons e (.cons n (.cons a (.cons (.app 69 m) st))))) = .st (.ino (updS S (n.int (rhoI v o)) (layN (S (n.int (rhoI v o))) aN (zeros mN) (st.int (rhoI v o))))) := by
                  show FNi 60 (.p (e.val (rhoI v o)) (.p (n.val (rhoI v o)) (.p (a.val (rhoI v o)) (.p ((X.app 69 m).val (rhoI v o)) (st.val (rhoI v o)))))) = _
                  rw [hS]
                  show D.st (.ino (updS S (n.int (rhoI v o)) (layN (S (n.int (rhoI v o))) (a.int (rhoI v o)).toNat (zeros (m.int (rhoI v o)).toNat) (st.int (rhoI v o))))) = _
                  rw [haN, hmN, Int.toNat_natCast, Int.toNat_natCast]
                show isD Tryz.prog _ _ _
                rw [hv60]
                exact hK.is
              · rw [hρ] at hk ⊢
                exact hK.own k hk
          · cases he
        · cases he
      · cases he
    · cases he
  · cases he
end Go.Proofs.YtcnimekhpnejlaaGreat.Ev

/- The statements of files: what is done. -/
namespace Go.Proofs.YtcnimekhpnejlaaGreat.Ev
open Go Go.RowKit
set_option linter.unusedVariables false
set_option linter.unusedSimpArgs false
set_option maxRecDepth 10000
noncomputable def sumDD (ρ : Rho) (pc : List (X × Bool)) : Call := sumDid (fun f => (funT.get f).isSome) pc (evCall (ctx rules0 ρ pc) funT.get (sumOr (sumZ1 pc) (sumFi pc)) 100000 1000)
theorem sumDD_ok {v : Nat → D} {o : Nat → Value} {pc : List (X × Bool)} (hpc : Told (rhoI v o) pc) : CallOk (ctx rules0 (rhoI v o) pc) (sumDD (rhoI v o) pc) :=
  sumOr_ok (sumWhole_ok hpc (evCall_ok (rules0_ok _ pc hpc) (show (ctx rules0 (rhoI v o) pc).P.follows .mixedOrders = true from mixed) (funs_ok (C := ctx rules0 (rhoI v o) pc) rfl) (sumOr_ok (sumZ1_ok hpc) (sumFi_ok hpc)) 1000)) (sumOr_ok (sumA_ok (rLaw_ok hpc)) (sumFi_ok hpc))
def didArgs : List EV := [.a (.s (.ptr 0 0)), .a (.s (.xi .i64 (.va 1))), .a (.agg [.xi .i64 (.va 2), .xi .i64 (.va 3), .xi .i64 (.va 4), .xs (.va 5), .xi .u64 (.va 6)])]
theorem did_ev0 (ρ : Rho) : (evCall (ctx rules0 ρ didP0) funT.get (sumDD ρ didP0) 100000 1000 17 didArgs oneM 1).map (view [0]) = some didR0 := by kernel_rfl
theorem did_ev1 (ρ : Rho) : (evCall (ctx rules0 ρ didP1) funT.get (sumDD ρ didP1) 100000 1000 17 didArgs oneM 1).map (view [0]) = some didR1 := by kernel_rfl
theorem did_ev2 (ρ : Rho) : (evCall (ctx rules0 ρ didP2) funT.get (sumDD ρ didP2) 100000 1000 17 didArgs oneM 1).map (view [0]) = some didR2 := by kernel_rfl
theorem did_ev3 (ρ : Rho) : (evCall (ctx rules0 ρ didP3) funT.get (sumDD ρ didP3) 100000 1000 17 didArgs oneM 1).map (view [0]) = some didR3 := by kernel_rfl
theorem did_ev4 (ρ : Rho) : (evCall (ctx rules0 ρ didP4) funT.get (sumDD ρ didP4) 100000 1000 17 didArgs oneM 1).map (view [0]) = some didR4 := by kernel_rfl
theorem did_ev5 (ρ : Rho) : (evCall (ctx rules0 ρ didP5) funT.get (sumDD ρ didP5) 100000 1000 17 didArgs oneM 1).map (view [0]) = some didR5 := by kernel_rfl
theorem did_ev6 (ρ : Rho) : (evCall (ctx rules0 ρ didP6) funT.get (sumDD ρ didP6) 100000 1000 17 didArgs oneM 1).map (view [0]) = some didR6 := by kernel_rfl
theorem did_ev7 (ρ : Rho) : (evCall (ctx rules0 ρ didP7) funT.get (sumDD ρ didP7) 100000 1000 17 didArgs oneM 1).map (view [0]) = some didR7 := by kernel_rfl
theorem did_ev8 (ρ : Rho) : (evCall (ctx rules0 ρ didP8) funT.get (sumDD ρ didP8) 100000 1000 17 didArgs oneM 1).map (view [0]) = some didR8 := by kernel_rfl
theorem did_ev9 (ρ : Rho) : (evCall (ctx rules0 ρ didP9) funT.get (sumDD ρ didP9) 100000 1000 17 didArgs oneM 1).map (view [0]) = some didR9 := by kernel_rfl
theorem did_ev10 (ρ : Rho) : (evCall (ctx rules0 ρ didP10) funT.get (sumDD ρ didP10) 100000 1000 17 didArgs oneM 1).map (view [0]) = some didR10 := by kernel_rfl
theorem did_ev11 (ρ : Rho) : (evCall (ctx rules0 ρ didP11) funT.get (sumDD ρ didP11) 100000 1000 17 didArgs oneM 1).map (view [0]) = some didR11 := by kernel_rfl
theorem did_ev12 (ρ : Rho) : (evCall (ctx rules0 ρ didP12) funT.get (sumDD ρ didP12) 100000 1000 17 didArgs oneM 1).map (view [0]) = some didR12 := by kernel_rfl
theorem did_fin {ρ : Rho} {a b : SV} {x y : Int} (ha : ∀ E u, E.ρ = ρ → a.rel E u → u = .int .i64 x) (hb : ∀ E u, E.ρ = ρ → b.rel E u → u = .int .i64 y) :
    ∀ E u, E.ρ = ρ → (EV.tup [.s a, .s b]).rel E u → u = .tuple #[.int .i64 x, .int .i64 y] := fun E u hE hu => tupV2 hu (ha E · hE) (hb E · hE)
set_option maxHeartbeats 4000000 in
theorem did_any {w : World} {x : Nat} {S : Int → Nd} (h : isD Tryz.prog (.st (.ino S)) x w) {n : Int} (hn : FileN S n) (k a m : Int) (ha : i64 a) (hm : i64 m) (t : ByteArray) {st : Int} (hst : 0 ≤ st ∧ st ≤ 18446744073709551615) :
    Acts Tryz.prog 17 x [.int .i64 n, actV k a m t st] w fun u d => d = .st (.ino (updS S n (doN (kindA k) (S n) a m t.data.toList st).2.2)) ∧ u = .tuple #[.int .i64 (doN (kindA k) (S n) a m t.data.toList st).1, .int .i64 (doN (kindA k) (S n) a m t.data.toList st).2.1] := by
  have hsz := size_le h n
  obtain ⟨hn1, hn2⟩ := hn
  unfold i64 at ha hm
  have lt := ba_size t
  obtain ⟨v, hv⟩ : ∃ v, v = ofL [.st (.ino S), .i n, .i k, .i a, .i m, .s t, .i st] := ⟨_, rfl⟩
  obtain ⟨o, ho⟩ : ∃ o : Nat → Value, o = fun _ => undef := ⟨_, rfl⟩
  have go : ∀ (pc : List (X × Bool)) (r : EV) (e : X) (y : Int × Int × Nd), Told (rhoI v o) pc → (∀ ρ, (evCall (ctx rules0 ρ pc) funT.get (sumDD ρ pc) 100000 1000 17 didArgs oneM 1).map (view [0]) = some (r, [some (.abs e)])) →
      (∀ E u, E.ρ = rhoI v o → r.rel E u → u = .tuple #[.int .i64 y.1, .int .i64 y.2.1]) → X.val (rhoI v o) e = .st (.ino (updS S n y.2.2)) → Acts Tryz.prog 17 x [.int .i64 n, actV k a m t st] w fun u d => d = .st (.ino (updS S n y.2.2)) ∧ u = .tuple #[.int .i64 y.1, .int .i64 y.2.1] := fun pc r e y hpc hev hb he => by
    have hr : HRel (envL [x] (rhoI v o)) oneM w := by rw [hv]; exact one_open h _ _
    have hrel : Rels (EV.rel (envL [x] (rhoI v o))) didArgs [.pointer (some ⟨x, 0, none⟩), .int .i64 n, actV k a m t st] := by
      rw [hv]
      exact ⟨⟨⟨x, 0, 0⟩, envL_at rfl, rfl⟩, rfl, ⟨_, rfl, rfl, rfl, rfl, rfl, rfl, trivial⟩, trivial⟩
    exact one_came h (call_at (rules0_ok _) hpc (sumDD_ok hpc) (hev _) hr rfl (envL_fresh _ _) hrel) fun E' u hE hu => ⟨he, hb E' u hE hu⟩
  have h0 : X.val (rhoI v o) (.va 0) = .st (.ino S) := by rw [hv]; rfl
  have i1 : X.int (rhoI v o) (.va 1) = n := by rw [hv]; rfl
  have i2 : X.int (rhoI v o) (.va 2) = k := by rw [hv]; rfl
  have i3 : X.int (rhoI v o) (.va 3) = a := by rw [hv]; rfl
  have i4 : X.int (rhoI v o) (.va 4) = m := by rw [hv]; rfl
  have s5 : X.str (rhoI v o) (.va 5) = t := by rw [hv]; rfl
  have i6 : X.int (rhoI v o) (.va 6) = st := by rw [hv]; rfl
  clear hv ho
  have l0 : X.int (rhoI v o) (.app 52 (.cons (.va 0) (.va 1))) = ((S n).bytes.length : Nat) := by rw [i52 h0, i1]
  have k0 : X.int (rhoI v o) (.app 50 (.cons (.va 0) (.va 1))) = 1 := by rw [i50 h0, i1, hn2]
  have q57 := b57 h0
  have q68 : X.bool (rhoI v o) (.app 68 (.cons (.va 0) (.va 1))) = true := by
    rw [b68 h0, i1]
    exact decide_eq_true ⟨hn1.1, hn1.2, hn2⟩
  have b902 := fun e => b902 (v := v) (o := o) (e := e)
  have b59 := fun e => b59 (v := v) (o := o) (e := e)
  have same : updS S n (S n) = S := updS_same S n
  have hk8 := tmod8 k
  have qk : X.int (rhoI v o) (.bin .rem .i64 didX2 (.li 8)) = kindA k := by
    unfold didX2 kindA
    rw [rem_int', add_int, rem_int', li_int, i2, wrap_i (by omega) (by omega)]
  obtain ⟨K, hK⟩ : ∃ K, K = kindA k := ⟨_, rfl⟩
  rw [← hK] at qk ⊢
  obtain ⟨T, hT⟩ : ∃ T, T = t.data.toList := ⟨_, rfl⟩
  have q64 : ∀ e, X.bool (rhoI v o) (.app 64 (.cons e (.va 5))) = decide (0 ≤ X.int (rhoI v o) e ∧ X.int (rhoI v o) e + ((T.length : Nat) : Int) ≤ 1048576) := fun e => by rw [b64, s5, hT, lt]
  have v65' : ∀ e, X.val (rhoI v o) (.app 65 (.cons (.va 0) (.cons (.va 1) (.cons e (.cons (.va 5) (.va 6)))))) = .st (.ino (updS S n (wrN (S n) (X.int (rhoI v o) e).toNat T st))) := fun e => by rw [v65 h0, i1, s5, i6, hT]
  have ln5 : X.int (rhoI v o) (.len (.va 5)) = ((T.length : Nat) : Int) := by rw [len_int, s5, hT, lt]
  rw [← hT]
  clear hT lt s5 i2 hK hk8
  obtain ⟨y, hy⟩ : ∃ y, doN K (S n) a m T st = y := ⟨_, rfl⟩
  rw [hy]
  by_cases c3 : K = 3
  · have e : (if ((S n).bytes.length : Int) + (T.length : Nat) ≤ 1048576 then ((((S n).bytes.length : Nat) : Int), (0 : Int), wrN (S n) (S n).bytes.length T st) else (0, 160, S n)) = y := by rw [← hy]; unfold doN; rw [if_pos c3]
    by_cases c : ((S n).bytes.length : Int) + (T.length : Nat) ≤ 1048576
    · rw [if_pos c] at e
      subst e
      exact go didP0 _ _ _ (by simp only [didP0, told_cons, told_nil, lt_true, lt_false, eq_true, eq_false, li_int, and_true, true_and, i1, i3, i4, l0, k0, q57, q68, b59, b902, i6, qk, didX0, didX1, q64, decide_eq_true_eq, decide_eq_false_iff_not]; omega) did_ev0 (did_fin (xi_fin l0) (int_fin rfl)) (by rw [v65', l0]; rfl)
    · rw [if_neg c] at e
      subst e
      exact go didP1 _ _ _ (by simp only [didP1, told_cons, told_nil, lt_true, lt_false, eq_true, eq_false, li_int, and_true, true_and, i1, i3, i4, l0, k0, q57, q68, b59, b902, i6, qk, didX0, didX1, q64, decide_eq_true_eq, decide_eq_false_iff_not]; omega) did_ev1 (did_fin (int_fin rfl) (int_fin rfl)) (by rw [same]; exact h0)
  by_cases c4 : K = 4
  · have e : (if a < 0 then ((0 : Int), (1 : Int), S n) else if 1048576 < a then (0, 160, S n) else (0, 0, resN (S n) a.toNat st)) = y := by rw [← hy]; unfold doN; rw [if_neg c3, if_pos c4]
    by_cases c : a < 0
    · rw [if_pos c] at e
      subst e
      exact go didP2 _ _ _ (by simp only [didP2, told_cons, told_nil, lt_true, lt_false, eq_true, eq_false, li_int, and_true, true_and, i1, i3, i4, l0, k0, q57, q68, b59, b902, i6, qk, decide_eq_true_eq, decide_eq_false_iff_not]; omega) did_ev2 (did_fin (int_fin rfl) (int_fin rfl)) (by rw [same]; exact h0)
    rw [if_neg c] at e
    by_cases c2 : 1048576 < a
    · rw [if_pos c2] at e
      subst e
      exact go didP3 _ _ _ (by simp only [didP3, told_cons, told_nil, lt_true, lt_false, eq_true, eq_false, li_int, and_true, true_and, i1, i3, i4, l0, k0, q57, q68, b59, b902, i6, qk, decide_eq_true_eq, decide_eq_false_iff_not]; omega) did_ev3 (did_fin (int_fin rfl) (int_fin rfl)) (by rw [same]; exact h0)
    rw [if_neg c2] at e
    subst e
    exact go didP4 _ _ _ (by simp only [didP4, told_cons, told_nil, lt_true, lt_false, eq_true, eq_false, li_int, and_true, true_and, i1, i3, i4, l0, k0, q57, q68, b59, b902, i6, qk, decide_eq_true_eq, decide_eq_false_iff_not]; omega) did_ev4 (did_fin (int_fin rfl) (int_fin rfl)) (by rw [v56 h0, i1, i3, i6])
  by_cases c5 : K = 5
  · have e : (if a < 0 ∨ m < 0 then ((0 : Int), (1 : Int), S n) else if ((S n).bytes.length : Int) ≤ a ∨ m = 0 then (0, 0, S n) else (0, 0, zeroN (S n) a.toNat m.toNat st)) = y := by rw [← hy]; unfold doN; rw [if_neg c3, if_neg c4, if_pos c5]
    by_cases c : a < 0
    · rw [if_pos (.inl c)] at e
      subst e
      exact go didP5 _ _ _ (by simp only [didP5, told_cons, told_nil, lt_true, lt_false, eq_true, eq_false, li_int, and_true, true_and, i1, i3, i4, l0, k0, q57, q68, b59, b902, i6, qk, decide_eq_true_eq, decide_eq_false_iff_not]; omega) did_ev5 (did_fin (int_fin rfl) (int_fin rfl)) (by rw [same]; exact h0)
    by_cases c2 : m < 0
    · rw [if_pos (.inr c2)] at e
      subst e
      exact go didP6 _ _ _ (by simp only [didP6, told_cons, told_nil, lt_true, lt_false, eq_true, eq_false, li_int, and_true, true_and, i1, i3, i4, l0, k0, q57, q68, b59, b902, i6, qk, decide_eq_true_eq, decide_eq_false_iff_not]; omega) did_ev6 (did_fin (int_fin rfl) (int_fin rfl)) (by rw [same]; exact h0)
    rw [if_neg (by omega)] at e
    by_cases c6 : ((S n).bytes.length : Int) ≤ a
    · rw [if_pos (.inl c6)] at e
      subst e
      exact go didP9 _ _ _ (by simp only [didP9, told_cons, told_nil, lt_true, lt_false, eq_true, eq_false, li_int, and_true, true_and, i1, i3, i4, l0, k0, q57, q68, b59, b902, i6, qk, decide_eq_true_eq, decide_eq_false_iff_not]; omega) did_ev9 (did_fin (int_fin rfl) (int_fin rfl)) (by rw [same]; exact h0)
    by_cases c7 : m = 0
    · rw [if_pos (.inr c7)] at e
      subst e
      exact go didP7 _ _ _ (by simp only [didP7, told_cons, told_nil, lt_true, lt_false, eq_true, eq_false, li_int, and_true, true_and, i1, i3, i4, l0, k0, q57, q68, b59, b902, i6, qk, decide_eq_true_eq, decide_eq_false_iff_not]; omega) did_ev7 (did_fin (int_fin rfl) (int_fin rfl)) (by rw [same]; exact h0)
    rw [if_neg (by omega)] at e
    subst e
    have x3 : X.int (rhoI v o) didX3 = ((S n).bytes.length : Nat) - a := by
      unfold didX3
      rw [sub_int, l0, i3, wrap_i (by omega) (by omega)]
    have xm : X.int (rhoI v o) (.mn (.va 4) didX3) = ((min m.toNat ((S n).bytes.length - a.toNat) : Nat) : Int) := by
      rw [mn_int, i4, x3]
      split <;> omega
    have z69 : X.str (rhoI v o) (.app 69 (.mn (.va 4) didX3)) = ⟨(zeros (min m.toNat ((S n).bytes.length - a.toNat))).toArray⟩ := by rw [s69, xm, Int.toNat_natCast]
    have q62 : X.bool (rhoI v o) (.app 62 (.cons (.va 0) (.cons (.va 1) (.cons (.va 3) (.app 69 (.mn (.va 4) didX3)))))) = true := by
      rw [b62 h0, i1, i3, z69, size_bs, zeros_length]
      exact decide_eq_true (by omega)
    have x4 : X.val (rhoI v o) didX4 = .st (.ino (updS S n (zeroN (S n) a.toNat m.toNat st))) := by
      unfold didX4
      rw [v60 h0, i1, i3, z69, i6]
      rfl
    have q57b := b57 x4
    exact go didP8 _ _ _ (by simp only [didP8, told_cons, told_nil, lt_true, lt_false, eq_true, eq_false, li_int, and_true, true_and, i1, i3, i4, l0, k0, q57, q68, b59, b902, i6, qk, q57b, q62, xm, decide_eq_true_eq, decide_eq_false_iff_not]; omega) did_ev8 (did_fin (int_fin rfl) (int_fin rfl)) x4
  have e : (if 0 ≤ a ∧ a + (T.length : Nat) ≤ 1048576 then (a + (T.length : Nat), (0 : Int), wrN (S n) a.toNat T st) else (0, (if a < 0 then 1 else 160), S n)) = y := by rw [← hy]; unfold doN; rw [if_neg c3, if_neg c4, if_neg c5]
  by_cases c : 0 ≤ a ∧ a + (T.length : Nat) ≤ 1048576
  · rw [if_pos c] at e
    subst e
    exact go didP10 _ _ _ (by simp only [didP10, told_cons, told_nil, lt_true, lt_false, eq_true, eq_false, li_int, and_true, true_and, i1, i3, i4, l0, k0, q57, q68, b59, b902, i6, qk, q64, decide_eq_true_eq, decide_eq_false_iff_not]; omega) did_ev10 (did_fin (xi_fin (by rw [add_int, i3, ln5, wrap_i (by omega) (by omega)])) (int_fin rfl)) (by rw [v65', i3])
  rw [if_neg c] at e
  by_cases c2 : a < 0
  · rw [if_pos c2] at e
    subst e
    exact go didP11 _ _ _ (by simp only [didP11, told_cons, told_nil, lt_true, lt_false, eq_true, eq_false, li_int, and_true, true_and, i1, i3, i4, l0, k0, q57, q68, b59, b902, i6, qk, q64, decide_eq_true_eq, decide_eq_false_iff_not]; omega) did_ev11 (did_fin (int_fin rfl) (int_fin rfl)) (by rw [same]; exact h0)
  · rw [if_neg c2] at e
    subst e
    exact go didP12 _ _ _ (by simp only [didP12, told_cons, told_nil, lt_true, lt_false, eq_true, eq_false, li_int, and_true, true_and, i1, i3, i4, l0, k0, q57, q68, b59, b902, i6, qk, q64, decide_eq_true_eq, decide_eq_false_iff_not]; omega) did_ev12 (did_fin (int_fin rfl) (int_fin rfl)) (by rw [same]; exact h0)
end Go.Proofs.YtcnimekhpnejlaaGreat.Ev

/- The statements of files: does a file stand so? -/
namespace Go.Proofs.YtcnimekhpnejlaaGreat.Ev
open Go Go.RowKit
set_option linter.unusedVariables false
set_option linter.unusedSimpArgs false
set_option maxRecDepth 10000
def stdArgs : List EV := [.a (.s (.ptr 0 0)), .a (.s (.xi .i64 (.va 1))), .a (.agg [.xs (.va 2), .xi .u64 (.va 3)]), .a (.s (.xi .i64 (.va 4))), .a (.s (.xi .i64 (.va 5)))]
theorem std_ev0 (ρ : Rho) : (evCall (ctx rules0 ρ stdP0) funT.get (sumOr (sumA (rLaw stdP0)) (sumFi stdP0)) 100000 1000 20 stdArgs oneM 1).map (view [0]) = some stdR0 := by kernel_rfl
theorem std_ev1 (ρ : Rho) : (evCall (ctx rules0 ρ stdP1) funT.get (sumOr (sumA (rLaw stdP1)) (sumFi stdP1)) 100000 1000 20 stdArgs oneM 1).map (view [0]) = some stdR1 := by kernel_rfl
theorem std_ev2 (ρ : Rho) : (evCall (ctx rules0 ρ stdP2) funT.get (sumOr (sumA (rLaw stdP2)) (sumFi stdP2)) 100000 1000 20 stdArgs oneM 1).map (view [0]) = some stdR2 := by kernel_rfl
theorem std_ev3 (ρ : Rho) : (evCall (ctx rules0 ρ stdP3) funT.get (sumOr (sumA (rLaw stdP3)) (sumFi stdP3)) 100000 1000 20 stdArgs oneM 1).map (view [0]) = some stdR3 := by kernel_rfl
theorem std_ev4 (ρ : Rho) : (evCall (ctx rules0 ρ stdP4) funT.get (sumOr (sumA (rLaw stdP4)) (sumFi stdP4)) 100000 1000 20 stdArgs oneM 1).map (view [0]) = some stdR4 := by kernel_rfl
theorem i51 {v : Nat → D} {o : Nat → Value} {S : Int → Nd} {e n : X} (h : X.val (rhoI v o) e = .st (.ino S)) : X.int (rhoI v o) (.app 51 (.cons e n)) = (S (X.int (rhoI v o) n)).links := by
  show (FNi 51 (.p (X.val (rhoI v o) e) (X.val (rhoI v o) n))).int = _
  rw [h]; rfl
theorem i53 {v : Nat → D} {o : Nat → Value} {S : Int → Nd} {e n : X} (h : X.val (rhoI v o) e = .st (.ino S)) : X.int (rhoI v o) (.app 53 (.cons e n)) = (S (X.int (rhoI v o) n)).stamp := by
  show (FNi 53 (.p (X.val (rhoI v o) e) (X.val (rhoI v o) n))).int = _
  rw [h]; rfl
set_option maxHeartbeats 4000000 in
theorem stands_true {w : World} {x : Nat} {S : Int → Nd} (h : isD Tryz.prog (.st (.ino S)) x w) {n : Int} (hn : FileN S n) (hl : (S n).links = 1) {a m : Int} (ha : i64 a) (hm : i64 m) :
    Acts Tryz.prog 20 x [.int .i64 n, mdV (S n), .int .i64 a, .int .i64 m] w fun u d => d = .st (.ino S) ∧ u = .bool true := by
  have hsz := size_le h n
  obtain ⟨hn1, hn2⟩ := hn
  unfold i64 at ha hm
  obtain ⟨B, hB⟩ : ∃ B, (S n).bytes = B := ⟨_, rfl⟩
  obtain ⟨v, hv⟩ : ∃ v, v = ofL [.st (.ino S), .i n, .s ⟨B.toArray⟩, .i (S n).stamp, .i a, .i m] := ⟨_, rfl⟩
  obtain ⟨o, ho⟩ : ∃ o : Nat → Value, o = fun _ => undef := ⟨_, rfl⟩
  have go : ∀ (pc : List (X × Bool)) (r : EV), Told (rhoI v o) pc → (∀ ρ, (evCall (ctx rules0 ρ pc) funT.get (sumOr (sumA (rLaw pc)) (sumFi pc)) 100000 1000 20 stdArgs oneM 1).map (view [0]) = some (r, [some (.abs (.va 0))])) →
      (∀ E u, E.ρ = rhoI v o → r.rel E u → u = .bool true) → Acts Tryz.prog 20 x [.int .i64 n, mdV (S n), .int .i64 a, .int .i64 m] w fun u d => d = .st (.ino S) ∧ u = .bool true := fun pc r hpc hev hb => by
    have hr : HRel (envL [x] (rhoI v o)) oneM w := by rw [hv]; exact one_open h _ _
    have hrel : Rels (EV.rel (envL [x] (rhoI v o))) stdArgs [.pointer (some ⟨x, 0, none⟩), .int .i64 n, mdV (S n), .int .i64 a, .int .i64 m] := by
      rw [hv]
      unfold mdV
      rw [hB]
      exact ⟨⟨⟨x, 0, 0⟩, envL_at rfl, rfl⟩, rfl, ⟨_, rfl, rfl, rfl, trivial⟩, rfl, rfl, trivial⟩
    exact one_came h (call_at (rules0_ok _) hpc (sumOr_ok (sumA_ok (rLaw_ok hpc)) (sumFi_ok hpc)) (hev _) hr rfl (envL_fresh _ _) hrel) fun E' u hE hu => ⟨by rw [hv]; rfl, hb E' u hE hu⟩
  have h0 : X.val (rhoI v o) (.va 0) = .st (.ino S) := by rw [hv]; rfl
  have i1 : X.int (rhoI v o) (.va 1) = n := by rw [hv]; rfl
  have s2 : X.str (rhoI v o) (.va 2) = ⟨B.toArray⟩ := by rw [hv]; rfl
  have i3 : X.int (rhoI v o) (.va 3) = (S n).stamp := by rw [hv]; rfl
  have i4 : X.int (rhoI v o) (.va 4) = a := by rw [hv]; rfl
  have i5 : X.int (rhoI v o) (.va 5) = m := by rw [hv]; rfl
  clear hv ho
  have l0 : X.int (rhoI v o) (.app 52 (.cons (.va 0) (.va 1))) = (B.length : Nat) := by rw [i52 h0, i1, hB]
  have l2 : X.int (rhoI v o) (.len (.va 2)) = (B.length : Nat) := by rw [len_int, s2, size_bs]
  have k0 : X.int (rhoI v o) (.app 50 (.cons (.va 0) (.va 1))) = 1 := by rw [i50 h0, i1, hn2]
  have k1 : X.int (rhoI v o) (.app 51 (.cons (.va 0) (.va 1))) = 1 := by rw [i51 h0, i1, hl]
  have k3 : X.int (rhoI v o) (.app 53 (.cons (.va 0) (.va 1))) = (S n).stamp := by rw [i53 h0, i1]
  have q57 := b57 h0
  have q68 : X.bool (rhoI v o) (.app 68 (.cons (.va 0) (.va 1))) = true := by
    rw [b68 h0, i1]
    exact decide_eq_true ⟨hn1.1, hn1.2, hn2⟩
  have b902 := fun e => b902 (v := v) (o := o) (e := e)
  have r66 : ∀ a m : X, X.str (rhoI v o) (.app 66 (.cons (.va 0) (.cons (.va 1) (.cons a m)))) = ⟨(readB B (X.int (rhoI v o) a).toNat (X.int (rhoI v o) m).toNat).toArray⟩ := fun a m => by rw [s66 h0, i1, hB]
  rw [hB] at hsz
  have r0 : X.bool (rhoI v o) (.seq stdX0 (.va 2)) = true := by
    refine bool_ls ?_
    unfold stdX0
    rw [r66, s2, li_int, li_int]
    refine tl_eq ?_
    exact List.take_of_length_le (by rw [List.length_drop]; show B.length - 0 ≤ 1048577; omega)
  by_cases c : a < 0
  · exact go stdP0 _ (by simp only [stdP0, told_cons, told_nil, lt_true, lt_false, eq_true, eq_false, li_int, and_true, true_and, i1, i3, i4, i5, l0, l2, k0, k1, k3, q57, q68, b902, r0, decide_eq_true_eq, decide_eq_false_iff_not]; omega) std_ev0 fun E u _ h => h
  by_cases c2 : m < 0
  · exact go stdP1 _ (by simp only [stdP1, told_cons, told_nil, lt_true, lt_false, eq_true, eq_false, li_int, and_true, true_and, i1, i3, i4, i5, l0, l2, k0, k1, k3, q57, q68, b902, r0, decide_eq_true_eq, decide_eq_false_iff_not]; omega) std_ev1 fun E u _ h => h
  have r1 : X.str (rhoI v o) stdX1 = ⟨(readB B a.toNat m.toNat).toArray⟩ := by
    unfold stdX1
    rw [r66, i4, i5]
  by_cases c3 : a < (B.length : Nat)
  · have x2 : X.str (rhoI v o) stdX2 = ⟨(B.drop a.toNat).toArray⟩ := by
      unfold stdX2
      rw [sub_st, s2, i4, l2, ext_bs, Int.toNat_natCast, List.take_length]
    have l3 : X.int (rhoI v o) (.len stdX2) = (B.length : Nat) - a := by
      rw [len_int, x2, size_bs, List.length_drop]
      omega
    by_cases c4 : m < (B.length : Nat) - a
    · have r2 : X.bool (rhoI v o) (.seq stdX1 (.sub stdX2 (.li 0) (.va 5))) = true := by
        refine bool_ls ?_
        rw [r1, sub_st, x2, li_int, i5, ext_bs]
        rfl
      exact go stdP2 _ (by simp only [stdP2, told_cons, told_nil, lt_true, lt_false, eq_true, eq_false, li_int, and_true, true_and, i1, i3, i4, i5, l0, l2, k0, k1, k3, q57, q68, b902, r0, l3, r2, decide_eq_true_eq, decide_eq_false_iff_not]; omega) std_ev2 fun E u _ h => h
    · have r2 : X.bool (rhoI v o) (.seq stdX1 stdX2) = true := by
        refine bool_ls ?_
        rw [r1, x2]
        exact tl_eq (List.take_of_length_le (by rw [List.length_drop]; omega))
      exact go stdP3 _ (by simp only [stdP3, told_cons, told_nil, lt_true, lt_false, eq_true, eq_false, li_int, and_true, true_and, i1, i3, i4, i5, l0, l2, k0, k1, k3, q57, q68, b902, r0, l3, r2, decide_eq_true_eq, decide_eq_false_iff_not]; omega) std_ev3 fun E u _ h => h
  · have r2 : X.bool (rhoI v o) (.seq stdX1 (.ls ⟨#[]⟩)) = true := by
      refine bool_ls ?_
      rw [r1, ls_str, readB_past (by omega)]
    exact go stdP4 _ (by simp only [stdP4, told_cons, told_nil, lt_true, lt_false, eq_true, eq_false, li_int, and_true, true_and, i1, i3, i4, i5, l0, l2, k0, k1, k3, q57, q68, b902, r0, r2, decide_eq_true_eq, decide_eq_false_iff_not]; omega) std_ev4 fun E u _ h => h
end Go.Proofs.YtcnimekhpnejlaaGreat.Ev

/- The rules of plays on files hold. -/
namespace Go.Proofs.YtcnimekhpnejlaaGreat.Ev
open Go Go.RowKit
set_option linter.unusedVariables false
set_option linter.unusedSimpArgs false
set_option maxRecDepth 10000
theorem told68 {v : Nat → D} {o : Nat → Value} {pc : List (X × Bool)} (hpc : Told (rhoI v o) pc) {e n : X} (h : truL pc (.app 68 (.cons e n)) = some true) : ∃ S, e.val (rhoI v o) = .st (.ino S) ∧ FileN S (n.int (rhoI v o)) := by
  have h1 : (FNi 68 (.p (e.val (rhoI v o)) (n.val (rhoI v o)))).bool = true := truL_ok hpc h
  generalize e.val (rhoI v o) = d at h1 ⊢
  cases d with
  | st x =>
    cases x with
    | ino S =>
      have h1 := of_decide_eq_true h1
      exact ⟨S, rfl, ⟨h1.1, h1.2.1⟩, h1.2.2⟩
    | grow => cases h1
    | works => cases h1
    | leaves => cases h1
  | _ => cases h1
theorem told87 {v : Nat → D} {o : Nat → Value} {pc : List (X × Bool)} (hpc : Told (rhoI v o) pc) {e n s p : X} (h : truL pc (.app 87 (.cons e (.cons n (.cons s p)))) = some true) :
    ∃ S, e.val (rhoI v o) = .st (.ino S) ∧ (S (n.int (rhoI v o))).bytes = (s.str (rhoI v o)).data.toList ∧ (S (n.int (rhoI v o))).stamp = p.int (rhoI v o) ∧ (S (n.int (rhoI v o))).links = 1 ∧ (S (n.int (rhoI v o))).kind = 1 := by
  have h1 : (FNi 87 (.p (e.val (rhoI v o)) (.p (n.val (rhoI v o)) (.p (s.val (rhoI v o)) (p.val (rhoI v o)))))).bool = true := truL_ok hpc h
  generalize e.val (rhoI v o) = d at h1 ⊢
  cases d with
  | st x =>
    cases x with
    | ino S => exact ⟨S, rfl, of_decide_eq_true h1⟩
    | grow => cases h1
    | works => cases h1
    | leaves => cases h1
  | _ => cases h1
theorem act_inv {E : Env} {k a m t st : SV} {k' a' m' t' st' : X} {v : Value} (hv : (AV.agg [k, a, m, t, st]).rel E v) (hk : asI k = some (.i64, k')) (ha : asI a = some (.i64, a')) (hm : asI m = some (.i64, m')) (ht : asS t = some t') (hst : asI st = some (.u64, st')) :
    v = actV (k'.int E.ρ) (a'.int E.ρ) (m'.int E.ρ) (t'.str E.ρ) (st'.int E.ρ) := by
  obtain ⟨vs, rfl, hvs⟩ := hv
  match vs, hvs with
  | [v1, v2, v3, v4, v5], hvs =>
    obtain ⟨h1, h2, h3, h4, h5, _⟩ := hvs
    rw [asI_rel hk h1, asI_rel ha h2, asI_rel hm h3, asS_rel ht h4, asI_rel hst h5]
    rfl
theorem md_inv {E : Env} {s p : SV} {s' p' : X} {v : Value} (hv : (AV.agg [s, p]).rel E v) (hs : asS s = some s') (hp : asI p = some (.u64, p')) : v = .agg #[.string (s'.str E.ρ), .int .u64 (p'.int E.ρ)] := by
  obtain ⟨vs, rfl, hvs⟩ := hv
  match vs, hvs with
  | [v1, v2], hvs =>
    obtain ⟨h1, h2, _⟩ := hvs
    rw [asS_rel hs h1, asI_rel hp h2]
theorem rPlay_did {v : Nat → D} {o : Nat → Value} {pc : List (X × Bool)} (hpc : Told (rhoI v o) pc) {e : X} {args : List EV} {r : EV × X} (h : rPlay pc 17 e args = some r) : AOk Tryz.prog (rhoI v o) 17 e args r.1 r.2 := by
  intro E hρ a w vs his hargs
  unfold rPlay at h
  rw [if_pos rfl] at h
  split at h
  · rename_i y k0 a0 m0 t0 st0
    obtain ⟨⟨q1, n⟩, hn, h⟩ := Option.bind_eq_some_iff.1 h
    obtain ⟨⟨q2, k⟩, hk, h⟩ := Option.bind_eq_some_iff.1 h
    obtain ⟨⟨q3, at_⟩, hat, h⟩ := Option.bind_eq_some_iff.1 h
    obtain ⟨⟨q4, m⟩, hm, h⟩ := Option.bind_eq_some_iff.1 h
    obtain ⟨t, ht, h⟩ := Option.bind_eq_some_iff.1 h
    obtain ⟨⟨q5, st⟩, hst, h⟩ := Option.bind_eq_some_iff.1 h
    split at h
    · rename_i hc
      obtain ⟨e1, e2, e3, e4, e5, c1, c2, c3, c4⟩ := hc
      have e1 : q1 = .i64 := e1
      have e2 : q2 = .i64 := e2
      have e3 : q3 = .i64 := e3
      have e4 : q4 = .i64 := e4
      have e5 : q5 = .u64 := e5
      subst e1 e2 e3 e4 e5
      obtain rfl := Option.some.inj h
      obtain ⟨S, he, hf⟩ := told68 hpc c4
      have his2 : isD Tryz.prog (e.val (rhoI v o)) a w := his
      rw [he] at his2
      match vs, hargs with
      | [u, u2], hargs =>
        have hu : u = .int .i64 (n.int (rhoI v o)) := by rw [← hρ]; exact asI_rel hn hargs.1
        have hu2 := act_inv hargs.2.1 hk hat hm ht hst
        rw [hρ] at hu2
        subst hu hu2
        refine acts_aoi (did_any his2 hf (k.int (rhoI v o)) (at_.int (rhoI v o)) (m.int (rhoI v o)) (inI64_oki hpc c1) (inI64_oki hpc c2) (t.str (rhoI v o)) (inU64_oki hpc c3)) fun u d ⟨q1, q2⟩ => ?_
        subst q1 q2
        refine ⟨tup2_mk ?_ ?_, ?_⟩
        · show _ = Value.int .i64 ((E.ρ.f 80 (.p (e.val E.ρ) (.p (n.val E.ρ) (.p (k.val E.ρ) (.p (at_.val E.ρ) (.p (m.val E.ρ) (.p (t.val E.ρ) (st.val E.ρ)))))))).int)
          rw [hρ, he]
          rfl
        · show _ = Value.int .i64 ((E.ρ.f 81 (.p (e.val E.ρ) (.p (n.val E.ρ) (.p (k.val E.ρ) (.p (at_.val E.ρ) (.p (m.val E.ρ) (.p (t.val E.ρ) (st.val E.ρ)))))))).int)
          rw [hρ, he]
          rfl
        · show _ = FNi 82 (.p (e.val (rhoI v o)) (.p (n.val (rhoI v o)) (.p (k.val (rhoI v o)) (.p (at_.val (rhoI v o)) (.p (m.val (rhoI v o)) (.p (t.val (rhoI v o)) (st.val (rhoI v o))))))))
          rw [he]
          rfl
    · cases h
  · cases h
theorem rPlay_stands {v : Nat → D} {o : Nat → Value} {pc : List (X × Bool)} (hpc : Told (rhoI v o) pc) {e : X} {args : List EV} {r : EV × X} (h : rPlay pc 20 e args = some r) : AOk Tryz.prog (rhoI v o) 20 e args r.1 r.2 := by
  intro E hρ a w vs his hargs
  unfold rPlay at h
  rw [if_neg (by decide), if_pos rfl] at h
  split at h
  · rename_i y s0 p0 a0 m0
    obtain ⟨⟨q1, n⟩, hn, h⟩ := Option.bind_eq_some_iff.1 h
    obtain ⟨s, hs, h⟩ := Option.bind_eq_some_iff.1 h
    obtain ⟨⟨q2, p⟩, hp, h⟩ := Option.bind_eq_some_iff.1 h
    obtain ⟨⟨q3, at_⟩, hat, h⟩ := Option.bind_eq_some_iff.1 h
    obtain ⟨⟨q4, m⟩, hm, h⟩ := Option.bind_eq_some_iff.1 h
    split at h
    · rename_i hc
      obtain ⟨e1, e2, e3, e4, c1, c2, c3⟩ := hc
      have e1 : q1 = .i64 := e1
      have e2 : q2 = .u64 := e2
      have e3 : q3 = .i64 := e3
      have e4 : q4 = .i64 := e4
      obtain rfl := Option.some.inj h
      subst e1 e2 e3 e4
      obtain ⟨S, he, hb, hst, hl, hkd⟩ := told87 hpc c3
      have his2 : isD Tryz.prog (e.val (rhoI v o)) a w := his
      rw [he] at his2
      match vs, hargs with
      | [u, u2, u3, u4], hargs =>
        have hu : u = .int .i64 (n.int (rhoI v o)) := by rw [← hρ]; exact asI_rel hn hargs.1
        have hu2 := md_inv hargs.2.1 hs hp
        have hu3 : u3 = .int .i64 (at_.int (rhoI v o)) := by rw [← hρ]; exact asI_rel hat hargs.2.2.1
        have hu4 : u4 = .int .i64 (m.int (rhoI v o)) := by rw [← hρ]; exact asI_rel hm hargs.2.2.2.1
        rw [hρ] at hu2
        have hu2 : u2 = mdV (S (n.int (rhoI v o))) := by
          rw [hu2]
          unfold mdV
          rw [hb, hst]
        subst hu hu2 hu3 hu4
        have hnum : 1 ≤ n.int (rhoI v o) ∧ n.int (rhoI v o) ≤ 4096 := by
          obtain ⟨mm, L, hI⟩ := his2
          cases hL : L (n.int (rhoI v o)) with
          | none => rw [hI.off _ hL] at hkd; cases hkd
          | some t => exact hI.num _ t hL
        refine acts_aoi (stands_true his2 ⟨hnum, hkd⟩ hl (inI64_oki hpc c1) (inI64_oki hpc c2)) fun u d ⟨q1, q2⟩ => ?_
        subst q1 q2
        exact ⟨rfl, he.symm⟩
    · cases h
  · cases h
theorem rPlay_same {v : Nat → D} {o : Nat → Value} {pc : List (X × Bool)} (hpc : Told (rhoI v o) pc) {e : X} {args : List EV} {r : EV × X} (h : rPlay pc 13 e args = some r) : AOk Tryz.prog (rhoI v o) 13 e args r.1 r.2 := by
  intro E hρ a w vs his hargs
  unfold rPlay at h
  rw [if_neg (by decide), if_neg (by decide), if_pos rfl] at h
  split at h
  · rename_i y z
    obtain ⟨⟨k, n⟩, hn, h⟩ := Option.bind_eq_some_iff.1 h
    obtain ⟨⟨k2, p⟩, hp, h⟩ := Option.bind_eq_some_iff.1 h
    split at h
    · rename_i hk
      obtain ⟨hk, hk2, c3, c4⟩ := hk
      have hk : k = .i64 := hk
      have hk2 : k2 = .i64 := hk2
      subst hk
      subst hk2
      obtain rfl := Option.some.inj h
      obtain ⟨S, he, hf⟩ := told68 hpc c3
      obtain ⟨S2, he2, hf2⟩ := told68 hpc c4
      rw [he] at he2
      obtain rfl : S = S2 := by injection he2 with e1; injection e1
      have his2 : isD Tryz.prog (e.val (rhoI v o)) a w := his
      rw [he] at his2
      match vs, hargs with
      | [u, u2], hargs =>
        have hu : u = .int .i64 (n.int (rhoI v o)) := by rw [← hρ]; exact asI_rel hn hargs.1
        have hu2 : u2 = .int .i64 (p.int (rhoI v o)) := by rw [← hρ]; exact asI_rel hp hargs.2.1
        subst hu
        subst hu2
        refine acts_aoi (file_same his2 hf hf2) fun u d ⟨hd, hq⟩ => ?_
        subst hd
        subst hq
        refine ⟨tup2_mk ?_ rfl, he.symm⟩
        show _ = Value.bool ((E.ρ.f 67 (.p (e.val E.ρ) (.p (n.val E.ρ) (p.val E.ρ)))).bool)
        rw [hρ, he]
        rfl
    · cases h
  · cases h
theorem rPlay_ok {v : Nat → D} {o : Nat → Value} {pc : List (X × Bool)} (hpc : Told (rhoI v o) pc) : ∀ g e args r, rPlay pc g e args = some r → AOk Tryz.prog (rhoI v o) g e args r.1 r.2 := by
  intro g e args r h
  by_cases h1 : g = 17
  · subst h1; exact rPlay_did hpc h
  by_cases h2 : g = 20
  · subst h2; exact rPlay_stands hpc h
  by_cases h3 : g = 13
  · subst h3; exact rPlay_same hpc h
  exfalso
  unfold rPlay at h
  rw [if_neg h1, if_neg h2, if_neg h3] at h
  cases h
theorem tup3_mk {E : Env} {a b c : AV} {va vb vc : Value} (ha : a.rel E va) (hb : b.rel E vb) (hc : c.rel E vc) : (EV.tup [a, b, c]).rel E (.tuple #[va, vb, vc]) := ⟨[va, vb, vc], rfl, ha, hb, hc, trivial⟩
theorem rDone_ok {v : Nat → D} {o : Nat → Value} {pc : List (X × Bool)} (hpc : Told (rhoI v o) pc) : ∀ g args r, rDone pc g args = some r → POk Tryz.prog (rhoI v o) g args r := by
  intro g args r h E hρ w vs hargs
  unfold rDone at h
  split at h
  · rename_i hg
    subst hg
    split at h
    · rename_i s0 p0 k0 a0 m0 t0 st0
      obtain ⟨s, hs, h⟩ := Option.bind_eq_some_iff.1 h
      obtain ⟨⟨q1, p⟩, hp, h⟩ := Option.bind_eq_some_iff.1 h
      obtain ⟨⟨q2, k⟩, hk, h⟩ := Option.bind_eq_some_iff.1 h
      obtain ⟨⟨q3, at_⟩, hat, h⟩ := Option.bind_eq_some_iff.1 h
      obtain ⟨⟨q4, m⟩, hm, h⟩ := Option.bind_eq_some_iff.1 h
      obtain ⟨t, ht, h⟩ := Option.bind_eq_some_iff.1 h
      obtain ⟨⟨q5, st⟩, hst, h⟩ := Option.bind_eq_some_iff.1 h
      split at h
      · rename_i hc
        obtain ⟨e1, e2, e3, e4, e5, c1, c2, c3⟩ := hc
        have e1 : q1 = .u64 := e1
        have e2 : q2 = .i64 := e2
        have e3 : q3 = .i64 := e3
        have e4 : q4 = .i64 := e4
        have e5 : q5 = .u64 := e5
        subst e1 e2 e3 e4 e5
        obtain rfl := Option.some.inj h
        have c3 : decide ((1048576 : Int) < (((s.str (rhoI v o)).size : Nat) : Int)) = false := truL_ok hpc c3
        have c3 := of_decide_eq_false c3
        match vs, hargs with
        | [u, u2], hargs =>
          have hu := md_inv hargs.1 hs hp
          have hu2 := act_inv hargs.2.1 hk hat hm ht hst
          rw [hρ] at hu hu2
          have hu : u = mdV (docN (s.val (rhoI v o)) (p.val (rhoI v o))) := hu
          subst hu hu2
          refine (done_any (docN (s.val (rhoI v o)) (p.val (rhoI v o))) (by
            have := ba_size (s.str (rhoI v o))
            show (s.str (rhoI v o)).data.toList.length ≤ 1048576
            omega) (k.int (rhoI v o)) (at_.int (rhoI v o)) (m.int (rhoI v o)) (inI64_oki hpc c1) (inI64_oki hpc c2) (t.str (rhoI v o)) (st.int (rhoI v o)) w).mono fun en w' ⟨he, hB⟩ => ⟨_, he, ?_, hB⟩
          refine tup3_mk ?_ ?_ ⟨_, rfl, ?_, ?_, trivial⟩
          · show _ = Value.int .i64 ((E.ρ.f 83 (.p (s.val E.ρ) (.p (p.val E.ρ) (.p (k.val E.ρ) (.p (at_.val E.ρ) (.p (m.val E.ρ) (.p (t.val E.ρ) (st.val E.ρ)))))))).int)
            rw [hρ]
            rfl
          · show _ = Value.int .i64 ((E.ρ.f 84 (.p (s.val E.ρ) (.p (p.val E.ρ) (.p (k.val E.ρ) (.p (at_.val E.ρ) (.p (m.val E.ρ) (.p (t.val E.ρ) (st.val E.ρ)))))))).int)
            rw [hρ]
            rfl
          · show _ = Value.string ((E.ρ.f 85 (.p (s.val E.ρ) (.p (p.val E.ρ) (.p (k.val E.ρ) (.p (at_.val E.ρ) (.p (m.val E.ρ) (.p (t.val E.ρ) (st.val E.ρ)))))))).str)
            rw [hρ]
            rfl
          · show _ = Value.int .u64 ((E.ρ.f 86 (.p (s.val E.ρ) (.p (p.val E.ρ) (.p (k.val E.ρ) (.p (at_.val E.ρ) (.p (m.val E.ρ) (.p (t.val E.ρ) (st.val E.ρ)))))))).int)
            rw [hρ]
            rfl
      · cases h
    · cases h
  · cases h
end Go.Proofs.YtcnimekhpnejlaaGreat.Ev

/- Clone of inodes as a rule; what plays of files call. -/
namespace Go.Proofs.YtcnimekhpnejlaaGreat.Ev
open Go Go.RowKit
set_option linter.unusedVariables false
set_option linter.unusedSimpArgs false
set_option maxRecDepth 10000
theorem sumIClo_ok {v : Nat → D} {o : Nat → Value} {pc : List (X × Bool)} (hpc : Told (rhoI v o) pc) {R : Rules} : CallOk (ctx R (rhoI v o) pc) (sumIClo pc) := by
  intro g args h nx r he E w vs hr hρ hf hargs
  replace hρ : E.ρ = rhoI v o := hρ
  have hA : ∀ b W k, E.ρ.A.own b W k ↔ ownD Tryz.prog b W k := fun b W k => by rw [hρ]; rfl
  have hI : ∀ d b W, E.ρ.A.is d b W ↔ isD Tryz.prog d b W := fun d b W => by rw [hρ]; rfl
  unfold sumIClo at he
  split at he
  · rename_i hg
    subst hg
    split at he
    · rename_i i
      split at he
      · rename_i e hi
        split at he
        · rename_i h57
          obtain rfl := Option.some.inj he
          obtain ⟨S, hS⟩ := told57 hpc h57
          match vs, hargs with
          | [u1], hargs =>
            obtain ⟨⟨p, hp, rfl⟩, _⟩ := hargs
            have his := hr.abs.ab i e p hi hp
            have his2 := (hI _ _ _).1 his
            rw [hρ, hS] at his2
            have hd : p.dl = 0 := by
              obtain ⟨o2, _, h2⟩ := hr.blk hi hp
              exact h2
            rw [hd]
            refine (ino_clone his2).mono fun en w1 ⟨a, h1, h2, h3, h4, h5, h6, h7⟩ => ?_
            have hg1 := Goes.acall (nx := nx) hr hi hp (e' := e) (w' := w1) ((hI _ _ _).2 (by rw [hρ, hS]; exact h2)) (fun k hk => (h3 k ((hA _ _ _).1 hk)).imp (fun h => (hA _ _ _).2 h) id) h7.os h7.tape h7.output h7.size (fun k hk hn => h7.block k hk fun ho => hn ((hA _ _ _).2 ho))
            have hown : ∀ k, E.ρ.A.own a w1 k → Owned E h w k ∨ w.heap.size ≤ k := fun k hk => by
              rcases (h6 k ((hA _ _ _).1 hk)).1 with h8 | h8
              · exact .inl (Owned.abs hi hp ((hA _ _ _).2 h8))
              · exact .inr h8
            have hdis : ∀ k, E.ρ.A.own a w1 k → ¬ Owned E (h.set i (.abs e)) w1 k := fun k hk ho => by
              obtain ⟨hk1, hk2⟩ := h6 k ((hA _ _ _).1 hk)
              rcases ho with ⟨j, cc, q, hj, hq, rfl⟩ | ⟨j, e2, q, hj, hq, ho⟩
              · by_cases hji : j = i
                · subst hji
                  rw [hp] at hq
                  obtain rfl := Option.some.inj hq
                  exact hk2 ((hA _ _ _).1 (E.ρ.A.self _ _ _ ((hI _ _ _).2 h2)))
                · rw [T.get_set, if_neg hji] at hj
                  obtain ⟨o2, ho2, _⟩ := hr.blk hj hq
                  have := lt_of_heap ho2
                  rcases hk1 with h8 | h8
                  · exact hr.abs.far i e p j cc q hi hp hj hq hji ((hA _ _ _).2 h8)
                  · omega
              · by_cases hji : j = i
                · subst hji
                  rw [hp] at hq
                  obtain rfl := Option.some.inj hq
                  exact hk2 ((hA _ _ _).1 ho)
                · rw [T.get_set, if_neg hji] at hj
                  have hB := hr.abs.ab j e2 q hj hq
                  have h9 := E.ρ.A.keep _ _ w w1 hB (fun k hk => h7.block k (E.ρ.A.lt _ _ _ hB k hk) fun ho => hr.abs.apart j e2 q i e p hj hq hi hp (fun e3 => hji e3.symm) k hk ((hA _ _ _).2 ho)) h7.size
                  have ho := (h9.2 k).1 ho
                  have := E.ρ.A.lt _ _ _ hB k ho
                  rcases hk1 with h8 | h8
                  · exact hr.abs.apart j e2 q i e p hj hq hi hp (fun e3 => hji e3.symm) k ho ((hA _ _ _).2 h8)
                  · omega
            have hg2 := Goes.adopt2 hg1 (hf nx (Nat.le_refl _)) (a := a) (e := e) ((hI _ _ _).2 (by rw [hρ, hS]; exact h4)) h5 hown hdis
            have hg3 : Goes E h nx w (E.put nx ⟨a, 0, 0⟩) (h.set nx (.abs e)) (nx + 1) w1 := hg2.sub fun j b hb => by
              rw [T.get_set] at hb ⊢
              split at hb
              · rw [if_pos ‹_›]; exact hb
              · rw [if_neg ‹_›, T.get_set]
                by_cases e3 : j = i
                · subst e3
                  rw [if_pos rfl]
                  rw [hi] at hb
                  exact hb
                · rw [if_neg e3]
                  exact hb
            exact ⟨_, _, h1, hg3, ⟨⟨a, 0, 0⟩, Env.put_at _ _ _, rfl⟩⟩
        · cases he
      · cases he
    · cases he
  · cases he
theorem sumPlay_ok {v : Nat → D} {o : Nat → Value} {pc : List (X × Bool)} (hpc : Told (rhoI v o) pc) {R : Rules} : CallOk (ctx R (rhoI v o) pc) (sumPlay pc) :=
  sumOr_ok (sumA_ok (rPlay_ok hpc)) (sumOr_ok (sumP_ok (rDone_ok hpc)) (sumIClo_ok hpc))
end Go.Proofs.YtcnimekhpnejlaaGreat.Ev

/- Slices of things that are done, opened. -/
namespace Go.Proofs.YtcnimekhpnejlaaGreat.Ev
set_option maxRecDepth 100000
open Go Go.ChangeShapes Go.WideShapes Go.Deep
set_option linter.unusedVariables false
/-- What is to be known of a thing that is done. -/
structure ActOk (k a m : Int) (t : ByteArray) (st : Int) : Prop where
  k : i64 k
  a : i64 a
  m : i64 m
  st : 0 ≤ st ∧ st ≤ 18446744073709551615
/-- A slice of things that are done. -/
def ActsAt (w : World) (v : Value) : Prop := v = .slice none 0 0 ∨ ∃ (b : Addr) (len cap : Nat), v = .slice (some b) len cap ∧ len ≤ cap ∧ cap ≤ maxLen ∧ ∀ i, i < len → ∃ k a m t st, ActOk k a m t st ∧
  w.cell? (b.add (i * 5)) = some (.int .i64 k) ∧ w.cell? (b.add (i * 5 + 1)) = some (.int .i64 a) ∧ w.cell? (b.add (i * 5 + 2)) = some (.int .i64 m) ∧ w.cell? (b.add (i * 5 + 3)) = some (.string t) ∧ w.cell? (b.add (i * 5 + 4)) = some (.int .u64 st)
def fieldOf (x : Option TypeDesc) : Array Field := match x with
  | some (.struct fs) => fs
  | _ => #[]
theorem act_und : Tryz.prog.underlying 43 = some (.struct (fieldOf (Tryz.prog.underlying 43))) := by kernel_rfl
theorem act_cells : Tryz.prog.cellsOf 43 = 5 := by kernel_rfl
theorem act_fields : (fieldOf (Tryz.prog.underlying 43)).toList.map (fun f => (f.offset, f.type)) = [(0, 3), (1, 3), (2, 3), (3, 9), (4, 29)] := by kernel_rfl
theorem acts_open {H : Type} {enc : TypeId × Value → H} {w : World} {base : Nat} {spare : Nat → Bool} {held : Bool} {v : Value} {d : DataW H} {ps : List MemPlace} (h : ∃ n, DataW.trod enc Tryz.prog w base spare held n 37 [v] = some (d, ps)) : ActsAt w v := by
  obtain ⟨n, h⟩ := h
  have hf : ∀ (i : Nat) (f : Field), (fieldOf (Tryz.prog.underlying 43))[i]? = some f → (f.offset, f.type) ∈ [((0 : Nat), 3), (1, 3), (2, 3), (3, 9), (4, 29)][i]? := fun i f hi => by
    have e := congrArg (fun l => l[i]?) act_fields
    simp only [List.getElem?_map, Array.getElem?_toList, hi, Option.map_some] at e
    exact e.symm
  have hsz : (fieldOf (Tryz.prog.underlying 43)).size = 5 := by
    have := congrArg List.length act_fields
    rw [List.length_map, Array.length_toList] at this
    exact this
  have hat : ∀ (i : Nat), i < 5 → ∃ f, (fieldOf (Tryz.prog.underlying 43))[i]? = some f := fun i hi => ⟨_, Array.getElem?_eq_getElem (by omega)⟩
  have hoff : ∀ (i : Nat) (f : Field), (fieldOf (Tryz.prog.underlying 43))[i]? = some f → f.offset = i ∧ Tryz.prog.cellsOf f.type = 1 := fun i f hi => by
    have hm := hf i f hi
    match i, hm with
    | 0, hm => obtain ⟨h1, h2⟩ := Prod.mk.inj (Option.some.inj hm); exact ⟨h1.symm, by rw [← h2]; exact cells_int⟩
    | 1, hm => obtain ⟨h1, h2⟩ := Prod.mk.inj (Option.some.inj hm); exact ⟨h1.symm, by rw [← h2]; exact cells_int⟩
    | 2, hm => obtain ⟨h1, h2⟩ := Prod.mk.inj (Option.some.inj hm); exact ⟨h1.symm, by rw [← h2]; exact cells_int⟩
    | 3, hm => obtain ⟨h1, h2⟩ := Prod.mk.inj (Option.some.inj hm); exact ⟨h1.symm, by rw [← h2]; exact cells_string⟩
    | 4, hm => obtain ⟨h1, h2⟩ := Prod.mk.inj (Option.some.inj hm); exact ⟨h1.symm, by rw [← h2]; exact cells_u64⟩
    | i + 5, hm => cases hm
  rcases open_rows Tryz.underlying37 act_und act_cells hoff hsz h with h0 | ⟨b, len, cap, hv, hl, hc, hrow⟩
  · exact .inl (by simpa using h0)
  · refine .inr ⟨b, len, cap, by simpa using hv, hl, hc, fun i hi => ?_⟩
    obtain ⟨vs, hlen, hcell, hfield⟩ := hrow i hi
    match vs, hlen with
    | [v0, v1, v2, v3, v4], _ =>
      have field : ∀ (j : Nat) (t : TypeId) (v : Value), j < 5 → [((0 : Nat), 3), (1, 3), (2, 3), (3, 9), (4, 29)][j]? = some (j, t) → [v0, v1, v2, v3, v4][j]? = some v → ∃ n y, DataW.trod enc Tryz.prog w base spare held n t [v] = some y := fun j t v hj ht hv => by
        obtain ⟨f, hfj⟩ := hat j hj
        obtain ⟨n, y, v', h1, h2⟩ := hfield j f hfj
        have h3 := hf j f hfj
        rw [ht] at h3
        obtain ⟨_, h4⟩ := Prod.mk.inj (Option.some.inj h3)
        rw [hv] at h1
        obtain rfl := Option.some.inj h1
        exact ⟨n, y, by rw [h4]; exact h2⟩
      obtain ⟨_, _, t0⟩ := field 0 3 v0 (by omega) rfl rfl
      obtain ⟨_, _, t1⟩ := field 1 3 v1 (by omega) rfl rfl
      obtain ⟨_, _, t2⟩ := field 2 3 v2 (by omega) rfl rfl
      obtain ⟨_, _, t3⟩ := field 3 9 v3 (by omega) rfl rfl
      obtain ⟨_, _, t4⟩ := field 4 29 v4 (by omega) rfl rfl
      obtain ⟨k, e0, _, w0⟩ := DataW.trod_int Tryz.underlying3 t0
      obtain ⟨a, e1, _, w1⟩ := DataW.trod_int Tryz.underlying3 t1
      obtain ⟨m, e2, _, w2⟩ := DataW.trod_int Tryz.underlying3 t2
      obtain ⟨t, e3, _, w3⟩ := DataW.trod_string Tryz.underlying9 t3
      obtain ⟨st, e4, _, w4⟩ := DataW.trod_int Tryz.underlying29 t4
      have e0 : v0 = .int .i64 k := by simpa using e0
      have e1 : v1 = .int .i64 a := by simpa using e1
      have e2 : v2 = .int .i64 m := by simpa using e2
      have e3 : v3 = .string t := by simpa using e3
      have e4 : v4 = .int .u64 st := by simpa using e4
      subst e0 e1 e2 e3 e4
      exact ⟨k, a, m, t, st, ⟨lit_i64 w0, lit_i64 w1, lit_i64 w2, lit_u64 w4⟩, by simpa using hcell 0 (by omega), hcell 1 (by omega), hcell 2 (by omega), hcell 3 (by omega), hcell 4 (by omega)⟩
end Go.Proofs.YtcnimekhpnejlaaGreat.Ev

/- Files that are linked once, and their documents. -/
namespace Go.Proofs.YtcnimekhpnejlaaGreat.Ev
open Go Go.RowKit
set_option linter.unusedVariables false
set_option linter.unusedSimpArgs false
set_option maxRecDepth 10000
section
variable {v : Nat → D} {o : Nat → Value} {S : Int → Nd} {e n s t : X}
theorem b87 (h : X.val (rhoI v o) e = .st (.ino S)) : X.bool (rhoI v o) (.app 87 (.cons e (.cons n (.cons s t)))) = decide ((S (X.int (rhoI v o) n)).bytes = (X.str (rhoI v o) s).data.toList ∧ (S (X.int (rhoI v o) n)).stamp = X.int (rhoI v o) t ∧ (S (X.int (rhoI v o) n)).links = 1 ∧ (S (X.int (rhoI v o) n)).kind = 1) := by
  show (FNi 87 (.p (X.val (rhoI v o) e) (.p (X.val (rhoI v o) n) (.p (X.val (rhoI v o) s) (X.val (rhoI v o) t))))).bool = _
  rw [h]; rfl
end
/-- A file that is linked once. -/
def Doc (N : Nd) : Prop := N.kind = 1 ∧ N.links = 1
theorem doc_eq {N : Nd} (h : Doc N) : N = docN (.s ⟨N.bytes.toArray⟩) (.i N.stamp) := by
  obtain ⟨k, l, p, b⟩ := N
  obtain ⟨h1, h2⟩ := h
  simp only at h1 h2
  subst h1 h2
  rfl
theorem doc_do {N : Nd} (h : Doc N) (k a m : Int) (t : List UInt8) (st : Int) : Doc (doN k N a m t st).2.2 := by
  obtain ⟨h1, h2⟩ := doN_same k N a m t st
  exact ⟨h1.trans h.1, h2.trans h.2⟩
theorem upd_ne (S : Int → Nd) {n k : Int} (N : Nd) (h : k ≠ n) : updS S n N k = S k := if_neg h
def mdL (N : Nd) : List Value := [.string ⟨N.bytes.toArray⟩, .int .u64 N.stamp]
theorem beq_docs {ρ : Rho} {a s t : X} {l m : List UInt8} (h : X.bool ρ a = decide (l = m)) (hs : X.str ρ s = ⟨l.toArray⟩) (ht : X.str ρ t = ⟨m.toArray⟩) : X.bool ρ (.beq a (.seq s t)) = true := by
  show (X.bool ρ a == X.bool ρ (.seq s t)) = true
  rw [h, seq_bool hs ht]
  exact beq_self_eq_true (decide (l = m))
theorem eq_bool {ρ : Rho} {a b : X} (h : X.int ρ a = X.int ρ b) : X.bool ρ (.eq a b) = true := by
  show (X.int ρ a == X.int ρ b) = true
  rw [h]
  exact beq_self_eq_true _
end Go.Proofs.YtcnimekhpnejlaaGreat.Ev

/- The statements of files: one round of FilePlays. -/
namespace Go.Proofs.YtcnimekhpnejlaaGreat.Ev
open Go Go.RowKit
set_option linter.unusedVariables false
set_option linter.unusedSimpArgs false
set_option maxRecDepth 100000
noncomputable def plaC : Code := codeAt (Tryz.f4.body.getD .skip) [1, 1, 1, 1, 1, 1, 0, 1, 0, 0, 1, 1, 0, 0, 1]
def plaBs : List Blk := [.abs (.va 0), .cells 41 none (Cells.ofList [.xs (.va 1), .xi .u64 (.va 2)]) false, .cells 41 none (Cells.ofList [.xs (.va 3), .xi .u64 (.va 4)]) false, .cells 43 none (Cells.ofList [.xi .i64 (.va 5), .xi .i64 (.va 6), .xi .i64 (.va 7), .xs (.va 8), .xi .u64 (.va 9)]) false]
def plaS : S := ⟨((((((((T.set .nil 3 (EV.a (.s (.ptr 0 0)))).set 4 (.a (.s (.int .i64 2)))).set 6 (.a (.s (.int .i64 3)))).set 8 (.a (.s (.ptr 1 0)))).set 9 (.a (.s (.ptr 2 0)))).set 11 (.a (.s (.ptr 3 0)))).set 59 (.a (.s (.op 0)))).set 60 (.a (.s (.op 1)))).set 61 (.a (.s (.op 2))), memL plaBs, 4⟩
theorem pla_ev0 (ρ : Rho) : (evCode (ctx rules0 ρ plaP0) funT.get (evCall (ctx rules0 ρ plaP0) funT.get (sumPlay plaP0) 100000 1000) Tryz.f4.ntmps 100000 plaC plaS).map (viewC [3, 4, 6, 8, 9, 59, 60, 61] [0, 1, 2]) = some plaR0 := by kernel_rfl
theorem pla_ev1 (ρ : Rho) : (evCode (ctx rules0 ρ plaP1) funT.get (evCall (ctx rules0 ρ plaP1) funT.get (sumPlay plaP1) 100000 1000) Tryz.f4.ntmps 100000 plaC plaS).map (viewC [3, 4, 6, 8, 9, 59, 60, 61] [0, 1, 2]) = some plaR1 := by kernel_rfl
theorem pla_ev2 (ρ : Rho) : (evCode (ctx rules0 ρ plaP2) funT.get (evCall (ctx rules0 ρ plaP2) funT.get (sumPlay plaP2) 100000 1000) Tryz.f4.ntmps 100000 plaC plaS).map (viewC [3, 4, 6, 8, 9, 59, 60, 61] [0, 1, 2]) = some plaR2 := by kernel_rfl
/-- What a round leaves behind. -/
structure Round (x bm bk ba : Nat) (w : World) (act : Act) (S' : Int → Nd) (a' : Act) (w' : World) : Prop where
  is : isD Tryz.prog (.st (.ino S')) x w'
  d2 : Doc (S' 2)
  d3 : Doc (S' 3)
  rm : Row w' bm 41 (mdL (S' 2))
  rk : Row w' bk 41 (mdL (S' 3))
  fm : ¬ ownD Tryz.prog x w' bm
  fk : ¬ ownD Tryz.prog x w' bk
  own : ∀ k, ownD Tryz.prog x w' k → ownD Tryz.prog x w k ∨ k = ba ∨ w.heap.size ≤ k
  but : But (fun k => ownD Tryz.prog x w k ∨ k = bm ∨ k = bk ∨ k = ba) w w'
  t3 : a'.tmps.getD 3 undef = .pointer (some ⟨x, 0, none⟩)
  t4 : a'.tmps.getD 4 undef = .int .i64 2
  t6 : a'.tmps.getD 6 undef = .int .i64 3
  t8 : a'.tmps.getD 8 undef = .pointer (some ⟨bm, 0, none⟩)
  t9 : a'.tmps.getD 9 undef = .pointer (some ⟨bk, 0, none⟩)
  t59 : a'.tmps.getD 59 undef = act.tmps.getD 59 undef
  t60 : a'.tmps.getD 60 undef = act.tmps.getD 60 undef
  t61 : a'.tmps.getD 61 undef = act.tmps.getD 61 undef
  size : a'.tmps.size = act.tmps.size
  dfr : a'.defers = act.defers
theorem play_round {w : World} {x bm bk ba : Nat} {S : Int → Nd} (h : isD Tryz.prog (.st (.ino S)) x w) (d2 : Doc (S 2)) (d3 : Doc (S 3)) (rm : Row w bm 41 (mdL (S 2))) (rk : Row w bk 41 (mdL (S 3)))
    {k a m : Int} {t : ByteArray} {st : Int} (hA : ActOk k a m t st) (ra : Row w ba 43 [.int .i64 k, .int .i64 a, .int .i64 m, .string t, .int .u64 st]) (fm : ¬ ownD Tryz.prog x w bm) (fk : ¬ ownD Tryz.prog x w bk) (fa : ¬ ownD Tryz.prog x w ba) (n1 : bm ≠ bk) (n2 : bm ≠ ba) (n3 : bk ≠ ba)
    {act : Act} (t3 : act.tmps.getD 3 undef = .pointer (some ⟨x, 0, none⟩)) (t4 : act.tmps.getD 4 undef = .int .i64 2) (t6 : act.tmps.getD 6 undef = .int .i64 3) (t8 : act.tmps.getD 8 undef = .pointer (some ⟨bm, 0, none⟩)) (t9 : act.tmps.getD 9 undef = .pointer (some ⟨bk, 0, none⟩)) (t11 : act.tmps.getD 11 undef = .pointer (some ⟨ba, 0, none⟩))
    (o59 : (act.tmps.getD 59 undef).oneCell' = true) (o60 : (act.tmps.getD 60 undef).oneCell' = true) (o61 : (act.tmps.getD 61 undef).oneCell' = true) (hN : Tryz.f4.ntmps ≤ act.tmps.size) (Q : Exit → Act → World → Prop) (hQ : ∀ S' a' w', Round x bm bk ba w act S' a' w' → Q .normal a' w') : plaC.wp Tryz.prog Q act w := by
  obtain ⟨B2, hB2⟩ : ∃ B : ByteArray, B = ⟨(S 2).bytes.toArray⟩ := ⟨_, rfl⟩
  obtain ⟨B3, hB3⟩ : ∃ B : ByteArray, B = ⟨(S 3).bytes.toArray⟩ := ⟨_, rfl⟩
  have z2 : (S 2).bytes.length ≤ 1048576 := size_le h 2
  have z3 : (S 3).bytes.length ≤ 1048576 := size_le h 3
  have e2 := doc_eq d2
  have e3 := doc_eq d3
  rw [← hB2] at e2
  rw [← hB3] at e3
  obtain ⟨v, hv⟩ : ∃ v, v = ofL [.st (.ino S), .s B2, .i (S 2).stamp, .s B3, .i (S 3).stamp, .i k, .i a, .i m, .s t, .i st] := ⟨_, rfl⟩
  obtain ⟨o, ho⟩ : ∃ o : Nat → Value, o = fun i => if i = 0 then act.tmps.getD 59 undef else if i = 1 then act.tmps.getD 60 undef else act.tmps.getD 61 undef := ⟨_, rfl⟩
  have hr : HRel (envL [x, bm, bk, ba] (rhoI v o)) (memL plaBs) w := by
    refine hrel_mk rfl (fun i b B hi hB => ?_) (fun i j b c B C hi hj hB hC hij q h1 h2 => ?_)
    · match i, hi, hB with
      | 0, hi, hB =>
        obtain rfl := Option.some.inj hi
        obtain rfl := Option.some.inj hB
        show isD Tryz.prog (v 0) x w
        rw [hv]
        exact h
      | 1, hi, hB =>
        obtain rfl := Option.some.inj hi
        obtain rfl := Option.some.inj hB
        exact ⟨_, rm, _, rfl, by rw [hv, hB2]; exact ⟨rfl, rfl, trivial⟩⟩
      | 2, hi, hB =>
        obtain rfl := Option.some.inj hi
        obtain rfl := Option.some.inj hB
        exact ⟨_, rk, _, rfl, by rw [hv, hB3]; exact ⟨rfl, rfl, trivial⟩⟩
      | 3, hi, hB =>
        obtain rfl := Option.some.inj hi
        obtain rfl := Option.some.inj hB
        exact ⟨_, ra, _, rfl, by rw [hv]; exact ⟨rfl, rfl, rfl, rfl, rfl, trivial⟩⟩
      | i + 4, hi, _ => simp at hi
    · match i, j, hi, hj, hB, hC with
      | 0, 0, _, _, _, _ => exact hij rfl
      | 1, 1, _, _, _, _ => exact hij rfl
      | 2, 2, _, _, _, _ => exact hij rfl
      | 3, 3, _, _, _, _ => exact hij rfl
      | 0, 1, hi, hj, hB, hC =>
        obtain rfl := Option.some.inj hi; obtain rfl := Option.some.inj hj; obtain rfl := Option.some.inj hB; obtain rfl := Option.some.inj hC
        obtain rfl : q = bm := h2
        exact fm h1
      | 0, 2, hi, hj, hB, hC =>
        obtain rfl := Option.some.inj hi; obtain rfl := Option.some.inj hj; obtain rfl := Option.some.inj hB; obtain rfl := Option.some.inj hC
        obtain rfl : q = bk := h2
        exact fk h1
      | 0, 3, hi, hj, hB, hC =>
        obtain rfl := Option.some.inj hi; obtain rfl := Option.some.inj hj; obtain rfl := Option.some.inj hB; obtain rfl := Option.some.inj hC
        obtain rfl : q = ba := h2
        exact fa h1
      | 1, 0, hi, hj, hB, hC =>
        obtain rfl := Option.some.inj hi; obtain rfl := Option.some.inj hj; obtain rfl := Option.some.inj hB; obtain rfl := Option.some.inj hC
        obtain rfl : q = bm := h1
        exact fm h2
      | 2, 0, hi, hj, hB, hC =>
        obtain rfl := Option.some.inj hi; obtain rfl := Option.some.inj hj; obtain rfl := Option.some.inj hB; obtain rfl := Option.some.inj hC
        obtain rfl : q = bk := h1
        exact fk h2
      | 3, 0, hi, hj, hB, hC =>
        obtain rfl := Option.some.inj hi; obtain rfl := Option.some.inj hj; obtain rfl := Option.some.inj hB; obtain rfl := Option.some.inj hC
        obtain rfl : q = ba := h1
        exact fa h2
      | 1, 2, hi, hj, hB, hC =>
        obtain rfl := Option.some.inj hi; obtain rfl := Option.some.inj hj; obtain rfl := Option.some.inj hB; obtain rfl := Option.some.inj hC
        have h1 : q = bm := h1
        have h2 : q = bk := h2
        exact n1 (h1.symm.trans h2)
      | 1, 3, hi, hj, hB, hC =>
        obtain rfl := Option.some.inj hi; obtain rfl := Option.some.inj hj; obtain rfl := Option.some.inj hB; obtain rfl := Option.some.inj hC
        have h1 : q = bm := h1
        have h2 : q = ba := h2
        exact n2 (h1.symm.trans h2)
      | 2, 1, hi, hj, hB, hC =>
        obtain rfl := Option.some.inj hi; obtain rfl := Option.some.inj hj; obtain rfl := Option.some.inj hB; obtain rfl := Option.some.inj hC
        have h1 : q = bk := h1
        have h2 : q = bm := h2
        exact n1 (h2.symm.trans h1)
      | 2, 3, hi, hj, hB, hC =>
        obtain rfl := Option.some.inj hi; obtain rfl := Option.some.inj hj; obtain rfl := Option.some.inj hB; obtain rfl := Option.some.inj hC
        have h1 : q = bk := h1
        have h2 : q = ba := h2
        exact n3 (h1.symm.trans h2)
      | 3, 1, hi, hj, hB, hC =>
        obtain rfl := Option.some.inj hi; obtain rfl := Option.some.inj hj; obtain rfl := Option.some.inj hB; obtain rfl := Option.some.inj hC
        have h1 : q = ba := h1
        have h2 : q = bm := h2
        exact n2 (h2.symm.trans h1)
      | 3, 2, hi, hj, hB, hC =>
        obtain rfl := Option.some.inj hi; obtain rfl := Option.some.inj hj; obtain rfl := Option.some.inj hB; obtain rfl := Option.some.inj hC
        have h1 : q = ba := h1
        have h2 : q = bk := h2
        exact n3 (h2.symm.trans h1)
      | i + 4, _, hi, _, _, _ => simp at hi
      | 0, j + 4, _, hj, _, _ => simp at hj
      | 1, j + 4, _, hj, _, _ => simp at hj
      | 2, j + 4, _, hj, _, _ => simp at hj
      | 3, j + 4, _, hj, _, _ => simp at hj
  have htm : RelT (envL [x, bm, bk, ba] (rhoI v o)) plaS.tm act.tmps := by
    refine RelT.also (RelT.also (RelT.also (RelT.also (RelT.also (RelT.also (RelT.also (RelT.also (RelT.also RelT.nil ?_) ?_) ?_) ?_) ?_) ?_) ?_) ?_) ?_
    · rw [t3]; exact ⟨⟨x, 0, 0⟩, envL_at rfl, rfl⟩
    · rw [t4]; exact (rfl : Value.int .i64 2 = _)
    · rw [t6]; exact (rfl : Value.int .i64 3 = _)
    · rw [t8]; exact ⟨⟨bm, 0, 0⟩, envL_at rfl, rfl⟩
    · rw [t9]; exact ⟨⟨bk, 0, 0⟩, envL_at rfl, rfl⟩
    · rw [t11]; exact ⟨⟨ba, 0, 0⟩, envL_at rfl, rfl⟩
    · exact ⟨by rw [ho]; rfl, o59⟩
    · exact ⟨by rw [ho]; rfl, o60⟩
    · exact ⟨by rw [ho]; rfl, o61⟩
  have own : ∀ q, Owned (envL [x, bm, bk, ba] (rhoI v o)) (memL plaBs) w q → ownD Tryz.prog x w q ∨ q = bm ∨ q = bk ∨ q = ba := fun q hq => by
    have hat : ∀ j B p, (memL plaBs).get j = some B → (envL [x, bm, bk, ba] (rhoI v o)).m j = some p → (p.blk = x ∧ j = 0) ∨ (p.blk = bm ∧ j = 1) ∨ (p.blk = bk ∧ j = 2) ∨ (p.blk = ba ∧ j = 3) := fun j B p hB hp => by
      have hp := (envL_inv hp).1
      match j, hp with
      | 0, hp => exact .inl ⟨(Option.some.inj hp).symm, rfl⟩
      | 1, hp => exact .inr (.inl ⟨(Option.some.inj hp).symm, rfl⟩)
      | 2, hp => exact .inr (.inr (.inl ⟨(Option.some.inj hp).symm, rfl⟩))
      | 3, hp => exact .inr (.inr (.inr ⟨(Option.some.inj hp).symm, rfl⟩))
      | j + 4, hp => simp at hp
    rcases hq with ⟨j, B, p, hB, hp, rfl⟩ | ⟨j, e, p, hB, hp, hq⟩
    · rcases hat j B p hB hp with ⟨e1, _⟩ | ⟨e1, _⟩ | ⟨e1, _⟩ | ⟨e1, _⟩
      · rw [e1]; exact .inl (isD_self h)
      · exact .inr (.inl e1)
      · exact .inr (.inr (.inl e1))
      · exact .inr (.inr (.inr e1))
    · have h5 := memL_get hB
      rcases hat j _ p hB hp with ⟨e1, e2⟩ | ⟨e1, e2⟩ | ⟨e1, e2⟩ | ⟨e1, e2⟩ <;> subst e2
      · rw [e1] at hq; exact .inl hq
      · cases Option.some.inj h5
      · cases Option.some.inj h5
      · cases Option.some.inj h5
  have go : ∀ (pc : List (X × Bool)) (e s2 p2 s3 p3 : X) (S' : Int → Nd), Told (rhoI v o) pc →
      (∀ ρ, (evCode (ctx rules0 ρ pc) funT.get (evCall (ctx rules0 ρ pc) funT.get (sumPlay pc) 100000 1000) Tryz.f4.ntmps 100000 plaC plaS).map (viewC [3, 4, 6, 8, 9, 59, 60, 61] [0, 1, 2]) = some [(.normal, [some (.a (.s (.ptr 0 0))), some (.a (.s (.int .i64 2))), some (.a (.s (.int .i64 3))), some (.a (.s (.ptr 1 0))), some (.a (.s (.ptr 2 0))), some (.a (.s (.op 0))), some (.a (.s (.op 1))), some (.a (.s (.op 2)))], [some (.abs e), some (.cells 41 [(.xs s2), (.xi .u64 p2)]), some (.cells 41 [(.xs s3), (.xi .u64 p3)])])]) →
      X.val (rhoI v o) e = .st (.ino S') → Doc (S' 2) → Doc (S' 3) → X.str (rhoI v o) s2 = ⟨(S' 2).bytes.toArray⟩ → X.int (rhoI v o) p2 = (S' 2).stamp → X.str (rhoI v o) s3 = ⟨(S' 3).bytes.toArray⟩ → X.int (rhoI v o) p3 = (S' 3).stamp → plaC.wp Tryz.prog Q act w := fun pc e s2 p2 s3 p3 S' hpc hev he g2 g3 c1 c2 c3 c4 => by
    refine code_at (rules0_ok _) hpc (sumPlay_ok hpc) (hev _) hr rfl (envL_fresh _ _) htm hN Q fun q hq E' a' w' s' hg htm' hsz hdf hv1 hv2 => ?_
    obtain rfl := List.mem_singleton.1 hq
    have hρ : E'.ρ = rhoI v o := hg.ext.ρ
    have m0 : E'.m 0 = some ⟨x, 0, 0⟩ := hg.ext.m _ _ (envL_at rfl)
    have m1 : E'.m 1 = some ⟨bm, 0, 0⟩ := hg.ext.m _ _ (envL_at rfl)
    have m2 : E'.m 2 = some ⟨bk, 0, 0⟩ := hg.ext.m _ _ (envL_at rfl)
    have u0 := (List.cons.inj hv1).1.symm
    have r1 := (List.cons.inj hv1).2
    have u1 := (List.cons.inj r1).1.symm
    have r2 := (List.cons.inj r1).2
    have u2 := (List.cons.inj r2).1.symm
    have r3 := (List.cons.inj r2).2
    have u3 := (List.cons.inj r3).1.symm
    have r4 := (List.cons.inj r3).2
    have u4 := (List.cons.inj r4).1.symm
    have r5 := (List.cons.inj r4).2
    have u5 := (List.cons.inj r5).1.symm
    have r6 := (List.cons.inj r5).2
    have u6 := (List.cons.inj r6).1.symm
    have u7 := (List.cons.inj (List.cons.inj r6).2).1.symm
    have q5 := (slot_of_view htm' u5).1
    have q6 := (slot_of_view htm' u6).1
    have q7 := (slot_of_view htm' u7).1
    rw [hρ] at q5 q6 q7
    have q5 : a'.tmps.getD 59 undef = o 0 := q5
    have q6 : a'.tmps.getD 60 undef = o 1 := q6
    have q7 : a'.tmps.getD 61 undef = o 2 := q7
    rw [ho] at q5 q6 q7
    have v0 := (List.cons.inj hv2).1.symm
    have r1 := (List.cons.inj hv2).2
    have v1 := (List.cons.inj r1).1.symm
    have v2 := (List.cons.inj (List.cons.inj r1).2).1.symm
    have his := abs_of_view hg.rel v0 m0
    have w1 := row_of_view hg.rel v1 rfl m1
    have w2 := row_of_view hg.rel v2 rfl m2
    have f1 := fun ho => hg.rel.abs.far 0 e _ 1 _ _ (get_abs v0) m0 (Option.map_eq_some_iff.1 v1).choose_spec.1 m1 (by decide) ho
    have f2 := fun ho => hg.rel.abs.far 0 e _ 2 _ _ (get_abs v0) m0 (Option.map_eq_some_iff.1 v2).choose_spec.1 m2 (by decide) ho
    rw [hρ] at his f1 f2
    have his : isD Tryz.prog (X.val (rhoI v o) e) x w' := his
    rw [he] at his
    have p0 : ∀ (i b : Nat) (u : Value), E'.m i = some ⟨b, 0, 0⟩ → (EV.a (.s (.ptr i 0))).rel E' u → u = .pointer (some ⟨b, 0, none⟩) := fun i b u hm hu => by
      obtain ⟨p, hp, hu⟩ := hu
      rw [hm] at hp
      obtain rfl := Option.some.inj hp
      exact hu
    refine hQ S' a' w' ⟨his, g2, g3, ?_, ?_, f1, f2, fun q hq => ?_, ⟨hg.frame.os, hg.frame.tape, hg.frame.output, hg.frame.size, fun q hq hn => hg.frame.block q hq fun ho => hn (own q ho)⟩, p0 0 x _ m0 (slot_of_view htm' u0), slot_of_view htm' u1, slot_of_view htm' u2, p0 1 bm _ m1 (slot_of_view htm' u3), p0 2 bk _ m2 (slot_of_view htm' u4), q5, q6, q7, hsz, hdf⟩
    · have e5 : (List.map (SV.den E') [(.xs s2), (.xi .u64 p2)] : List Value) = mdL (S' 2) := by
        simp only [List.map_cons, List.map_nil, SV.den, hρ, c1, c2]
        rfl
      rw [← e5]
      exact w1
    · have e5 : (List.map (SV.den E') [(.xs s3), (.xi .u64 p3)] : List Value) = mdL (S' 3) := by
        simp only [List.map_cons, List.map_nil, SV.den, hρ, c3, c4]
        rfl
      rw [← e5]
      exact w2
    · have hq2 : E'.ρ.A.own x w' q := by rw [hρ]; exact hq
      rcases hg.uown 0 e _ (get_abs v0) m0 q hq2 with ho | ho
      · rcases own q ho with h5 | h5 | h5 | h5
        · exact .inl h5
        · exact absurd (h5 ▸ hq) f1
        · exact absurd (h5 ▸ hq) f2
        · exact .inr (.inl h5)
      · exact .inr (.inr ho)
  have h0 : X.val (rhoI v o) (.va 0) = .st (.ino S) := by rw [hv]; rfl
  have s1 : X.str (rhoI v o) (.va 1) = ⟨(S 2).bytes.toArray⟩ := by rw [hv]; exact hB2
  have i2 : X.int (rhoI v o) (.va 2) = (S 2).stamp := by rw [hv]; rfl
  have s3 : X.str (rhoI v o) (.va 3) = ⟨(S 3).bytes.toArray⟩ := by rw [hv]; exact hB3
  have i4 : X.int (rhoI v o) (.va 4) = (S 3).stamp := by rw [hv]; rfl
  have k59 : X.bool (rhoI v o) (.app 59 (.va 9)) = true := by rw [hv]; exact decide_eq_true hA.st
  have k902a : X.bool (rhoI v o) (.app 902 (.va 6)) = true := by rw [hv]; exact decide_eq_true hA.a
  have k902m : X.bool (rhoI v o) (.app 902 (.va 7)) = true := by rw [hv]; exact decide_eq_true hA.m
  have k57 := b57 h0
  obtain ⟨R3, hR3⟩ : ∃ R, R = doN (kindA k) (S 3) a m t.data.toList st := ⟨_, rfl⟩
  obtain ⟨R2, hR2⟩ : ∃ R, R = doN (kindA k) (S 2) a m t.data.toList st := ⟨_, rfl⟩
  have y0 : X.val (rhoI v o) plaX0 = .st (.ino (updS S 3 R3.2.2)) := by rw [hv, hR3]; rfl
  have y1 : X.str (rhoI v o) plaX1 = ⟨R3.2.2.bytes.toArray⟩ := by rw [hv, hR3, e3]; rfl
  have y2 : X.int (rhoI v o) plaX2 = R3.2.2.stamp := by rw [hv, hR3, e3]; rfl
  have y4 : X.val (rhoI v o) plaX4 = .st (.ino (updS S 2 R2.2.2)) := by rw [hv, hR2]; rfl
  have y5 : X.str (rhoI v o) plaX5 = ⟨R2.2.2.bytes.toArray⟩ := by rw [hv, hR2, e2]; rfl
  have y6 : X.int (rhoI v o) plaX6 = R2.2.2.stamp := by rw [hv, hR2, e2]; rfl
  have q89 : X.bool (rhoI v o) (.eq plaX8 plaX9) = true := eq_bool (by rw [hv]; show (doN _ (S 2) _ _ _ _).2.1 = _; rw [e2]; rfl)
  have q01 : X.bool (rhoI v o) (.eq plaX10 plaX11) = true := eq_bool (by rw [hv]; show (doN _ (S 2) _ _ _ _).1 = _; rw [e2]; rfl)
  have q8k : X.bool (rhoI v o) (.eq (.app 81 (.cons (.va 0) (.cons (.li 3) (.cons (.va 5) (.cons (.va 6) (.cons (.va 7) (.cons (.va 8) (.va 9)))))))) (.app 84 (.cons (.va 3) (.cons (.va 4) (.cons (.va 5) (.cons (.va 6) (.cons (.va 7) (.cons (.va 8) (.va 9))))))))) = true := eq_bool (by rw [hv]; show (doN _ (S 3) _ _ _ _).2.1 = _; rw [e3]; rfl)
  have q0k : X.bool (rhoI v o) (.eq (.app 80 (.cons (.va 0) (.cons (.li 3) (.cons (.va 5) (.cons (.va 6) (.cons (.va 7) (.cons (.va 8) (.va 9)))))))) (.app 83 (.cons (.va 3) (.cons (.va 4) (.cons (.va 5) (.cons (.va 6) (.cons (.va 7) (.cons (.va 8) (.va 9))))))))) = true := eq_bool (by rw [hv]; show (doN _ (S 3) _ _ _ _).1 = _; rw [e3]; rfl)
  have l1 : X.bool (rhoI v o) (.lt (.li 1048576) (.len (.va 1))) = false := decide_eq_false (show ¬ ((1048576 : Int) < X.int (rhoI v o) (.len (.va 1))) by rw [len_int, s1, size_bs]; omega)
  have l3 : X.bool (rhoI v o) (.lt (.li 1048576) (.len (.va 3))) = false := decide_eq_false (show ¬ ((1048576 : Int) < X.int (rhoI v o) (.len (.va 3))) by rw [len_int, s3, size_bs]; omega)
  have g3 : Doc R3.2.2 := by rw [hR3]; exact doc_do d3 _ _ _ _ _
  have g2 : Doc R2.2.2 := by rw [hR2]; exact doc_do d2 _ _ _ _ _
  have hkind : X.int (rhoI v o) (.bin .rem .i64 plaX3 (.li 8)) = kindA k := by
    have := tmod8 k
    have e5 : X.int (rhoI v o) plaX3 = k.tmod 8 + 8 := by
      rw [hv]
      show IntKind.i64.wrap (k.tmod 8 + 8) = _
      exact wrap_i (by omega) (by omega)
    rw [rem_int', e5]
    rfl
  have k68 : ∀ (e : X) (S' : Int → Nd) (n : Int), X.val (rhoI v o) e = .st (.ino S') → 1 ≤ n → n ≤ 4096 → (S' n).kind = 1 → X.bool (rhoI v o) (.app 68 (.cons e (.li n))) = true := fun e S' n he h1 h2 h3 => by
    rw [b68 he]
    exact decide_eq_true ⟨h1, h2, h3⟩
  have k87 : ∀ (e s p : X) (S' : Int → Nd) (n : Int), X.val (rhoI v o) e = .st (.ino S') → Doc (S' n) → X.str (rhoI v o) s = ⟨(S' n).bytes.toArray⟩ → X.int (rhoI v o) p = (S' n).stamp → X.bool (rhoI v o) (.app 87 (.cons e (.cons (.li n) (.cons s p)))) = true := fun e s p S' n he h1 h2 h3 => by
    rw [b87 he, h2, h3]
    exact decide_eq_true ⟨rfl, rfl, h1.2, h1.1⟩
  have k67 : ∀ (e s t : X) (S' : Int → Nd), X.val (rhoI v o) e = .st (.ino S') → X.str (rhoI v o) s = ⟨(S' 2).bytes.toArray⟩ → X.str (rhoI v o) t = ⟨(S' 3).bytes.toArray⟩ → X.bool (rhoI v o) (.beq (.app 67 (.cons e (.cons (.li 2) (.li 3)))) (.seq s t)) = true := fun e s t S' he h1 h2 => beq_docs (b67 he) h1 h2
  have a2 : updS S 3 R3.2.2 2 = S 2 := upd_ne S _ (by decide)
  have a3 : updS S 3 R3.2.2 3 = R3.2.2 := updS_at S 3 _
  have b2 : updS S 2 R2.2.2 2 = R2.2.2 := updS_at S 2 _
  have b3 : updS S 2 R2.2.2 3 = S 3 := upd_ne S _ (by decide)
  by_cases c6 : kindA k = 6
  · have hk6 : X.bool (rhoI v o) (.eq (.bin .rem .i64 plaX3 (.li 8)) (.li 6)) = true := eq_bool (by rw [hkind, c6]; rfl)
    refine go plaP0 plaX0 (.va 1) (.va 2) plaX1 plaX2 (updS S 3 R3.2.2) ?_ pla_ev0 y0 (by rw [a2]; exact d2) (by rw [a3]; exact g3) (by rw [a2]; exact s1) (by rw [a2]; exact i2) (by rw [a3]; exact y1) (by rw [a3]; exact y2)
    simp only [plaP0, told_cons, told_nil, and_true]
    exact ⟨k87 _ _ _ _ 3 y0 (by rw [a3]; exact g3) (by rw [a3]; exact y1) (by rw [a3]; exact y2), k87 _ _ _ _ 2 y0 (by rw [a2]; exact d2) (by rw [a2]; exact s1) (by rw [a2]; exact i2), k67 _ _ _ _ y0 (by rw [a2]; exact s1) (by rw [a3]; exact y1),
      k68 _ _ 3 y0 (by decide) (by decide) (by rw [a3]; exact g3.1), k68 _ _ 2 y0 (by decide) (by decide) (by rw [a2]; exact d2.1), q8k, q0k, l3, k68 _ _ 3 h0 (by decide) (by decide) d3.1, k59, k902m, k902a, hk6⟩
  have hk6 : X.bool (rhoI v o) (.eq (.bin .rem .i64 plaX3 (.li 8)) (.li 6)) = false := by
    rw [show X.bool (rhoI v o) (.eq (.bin .rem .i64 plaX3 (.li 8)) (.li 6)) = (X.int (rhoI v o) (.bin .rem .i64 plaX3 (.li 8)) == 6) from rfl, hkind]
    exact beq_eq_false_iff_ne.2 c6
  by_cases c7 : kindA k = 7
  · have hk7 : X.bool (rhoI v o) (.eq (.bin .rem .i64 plaX3 (.li 8)) (.li 7)) = true := eq_bool (by rw [hkind, c7]; rfl)
    refine go plaP1 (.va 0) (.va 1) (.va 2) (.va 3) (.va 4) S ?_ pla_ev1 h0 d2 d3 s1 i2 s3 i4
    simp only [plaP1, told_cons, told_nil, and_true]
    exact ⟨k87 _ _ _ _ 3 h0 d3 s3 i4, k87 _ _ _ _ 2 h0 d2 s1 i2, k67 _ _ _ _ h0 s1 s3, k68 _ _ 3 h0 (by decide) (by decide) d3.1, k87 _ _ _ _ 2 y4 (by rw [b2]; exact g2) (by rw [b2]; exact y5) (by rw [b2]; exact y6), q89, q01, l1, k68 _ _ 2 h0 (by decide) (by decide) d2.1, k59, k902m, k902a, k57, hk7, hk6⟩
  have hk7 : X.bool (rhoI v o) (.eq (.bin .rem .i64 plaX3 (.li 8)) (.li 7)) = false := by
    rw [show X.bool (rhoI v o) (.eq (.bin .rem .i64 plaX3 (.li 8)) (.li 7)) = (X.int (rhoI v o) (.bin .rem .i64 plaX3 (.li 8)) == 7) from rfl, hkind]
    exact beq_eq_false_iff_ne.2 c7
  refine go plaP2 plaX4 plaX5 plaX6 (.va 3) (.va 4) (updS S 2 R2.2.2) ?_ pla_ev2 y4 (by rw [b2]; exact g2) (by rw [b3]; exact d3) (by rw [b2]; exact y5) (by rw [b2]; exact y6) (by rw [b3]; exact s3) (by rw [b3]; exact i4)
  simp only [plaP2, told_cons, told_nil, and_true]
  exact ⟨k87 _ _ _ _ 3 y4 (by rw [b3]; exact d3) (by rw [b3]; exact s3) (by rw [b3]; exact i4), k87 _ _ _ _ 2 y4 (by rw [b2]; exact g2) (by rw [b2]; exact y5) (by rw [b2]; exact y6), k67 _ _ _ _ y4 (by rw [b2]; exact y5) (by rw [b3]; exact s3),
    k68 _ _ 3 y4 (by decide) (by decide) (by rw [b3]; exact d3.1), k68 _ _ 2 y4 (by decide) (by decide) (by rw [b2]; exact g2.1), q89, q01, l1, k68 _ _ 2 h0 (by decide) (by decide) d2.1, k59, k902m, k902a, hk7, hk6⟩
end Go.Proofs.YtcnimekhpnejlaaGreat.Ev

/- Cells that are kept; the first free number; what counts. -/
namespace Go.Proofs.YtcnimekhpnejlaaGreat.Ev
open Go Go.RowKit
set_option linter.unusedVariables false
set_option linter.unusedSimpArgs false
set_option maxRecDepth 10000
theorem cell_kept {w w' : World} (hB : Below w.heap.size w w') {a : Addr} {v : Value} (h : w.cell? a = some v) : w'.cell? a = some v := by
  unfold World.cell? at h ⊢
  split at h
  · rename_i c e fz ho
    rw [hB.block _ (Array.getElem?_eq_some_iff.1 ho).1, ho]
    exact h
  · cases h
theorem cell_flat {w : World} {a : Addr} {v : Value} (h : w.cell? a = some v) : w.cell? ⟨a.block, a.off, none⟩ = some v := by
  unfold World.cell? at h ⊢
  split at h
  · rename_i c e fz ho
    simp only [ho]
    split at h
    · cases h
    · exact h
  · cases h
theorem add_block (b : Addr) (n : Nat) : (b.add n).block = b.block := by
  unfold Addr.add
  split <;> rfl
theorem add_off (b : Addr) (n : Nat) : (b.add n).off = b.off + n := by
  unfold Addr.add
  split
  · rename_i e; rw [e]; rfl
  · rfl
theorem cell_at {w : World} {b : Addr} {n j : Nat} {v : Value} (h : w.cell? (b.add (n + j)) = some v) : w.cell? ⟨(b.add n).block, (b.add n).off + j, none⟩ = some v := by
  have := cell_flat h
  rw [add_block, add_off] at this ⊢
  rw [Nat.add_assoc]
  exact this
theorem free_S0 : freeN S0 = 3 := by
  unfold freeN
  have e : (List.range 4096).find? (fun k : Nat => (S0 ((k : Int) + 1)).kind == 0) = some 2 := by
    rw [show (4096 : Nat) = 3 + 4093 from rfl, List.range_add, List.find?_append]
    rfl
  rw [e]
  rfl
def idxOf : Value → Nat
  | .int _ n => n.toNat
  | _ => 0
end Go.Proofs.YtcnimekhpnejlaaGreat.Ev

/- bulk: any answer, nothing changed. -/
namespace Go.Proofs.YtcnimekhpnejlaaGreat.Ev
open Go Go.RowKit
set_option linter.unusedVariables false
set_option linter.unusedSimpArgs false
set_option maxRecDepth 100000
theorem ActsAt.kept {w w' : World} {v : Value} (h : ActsAt w v) (hB : Below w.heap.size w w') : ActsAt w' v := by
  rcases h with rfl | ⟨b, len, cap, rfl, h1, h2, h3⟩
  · exact .inl rfl
  · refine .inr ⟨b, len, cap, rfl, h1, h2, fun i hi => ?_⟩
    obtain ⟨k, a, m, t, st, hA, c0, c1, c2, c3, c4⟩ := h3 i hi
    exact ⟨k, a, m, t, st, hA, cell_kept hB c0, cell_kept hB c1, cell_kept hB c2, cell_kept hB c3, cell_kept hB c4⟩
set_option maxHeartbeats 4000000 in
theorem bulk_some (b : Addr) (len cap : Nat) (hlc : len ≤ cap) (hcap : cap ≤ maxLen) (w : World)
    (h : ∀ i, i < len → ∃ k a m t st, ActOk k a m t st ∧ w.cell? (b.add (i * 5)) = some (.int .i64 k) ∧ w.cell? (b.add (i * 5 + 1)) = some (.int .i64 a) ∧ w.cell? (b.add (i * 5 + 2)) = some (.int .i64 m) ∧ w.cell? (b.add (i * 5 + 3)) = some (.string t) ∧ w.cell? (b.add (i * 5 + 4)) = some (.int .u64 st)) :
    Calls Tryz.prog 15 #[.slice (some b) len cap] w fun e w' => (∃ q, e = .returned (.bool q)) ∧ Below w.heap.size w w' := by
  have H : Aside _ := h
  clear h
  go_enter Tryz.func15, Tryz.ntmps15
  go_wp2_with fail
  go_loopw [3, 8] (fun vs vi wr => ∃ (i : Nat) (s : Int), vi = .int .i64 i ∧ vs = .int .i64 s ∧ i ≤ len ∧ Below w.heap.size w wr)
    (fun _ vi _ => len - (intOf vi).toNat)
  case atStart => exact ⟨0, 0, rfl, rfl, Nat.zero_le _, Below.refl _ _⟩
  case round =>
    obtain ⟨i, s, rfl, rfl, hil, hB⟩ := hrel
    by_cases hlt : i < len
    · have hd2 : decide ((i : Int) < (len : Int)) = true := decide_eq_true (by omega)
      obtain ⟨k, a, m, t, st, hA, c0, c1, c2, c3, c4⟩ := H.out i hlt
      have c0 := cell_kept hB c0
      have c1 := cell_at (cell_kept hB c1)
      have c2 := cell_at (cell_kept hB c2)
      have c3 := cell_at (cell_kept hB c3)
      have c4 := cell_at (cell_kept hB c4)
      have HB : Aside _ := hB
      clear hB
      cases hg1 : decide ((t.size : Int) > 3000000)
      · cases hg2 : decide (s > 3000000)
        · cases hg3 : decide ((len : Int) > 1000)
          · go_wp2_with fail
            case roundEnd =>
              have hw : wrap64 ((i : Int) + 1) = ((i + 1 : Nat) : Int) := by unfold wrap64; unfold maxLen at hcap; omega
              refine ⟨⟨i + 1, _, by rw [hw], rfl, by omega, HB.out.alloc HB.out.size _⟩, ?_⟩
              rw [hw]
              simp only [intOf, Int.toNat_natCast]
              omega
          · go_wp2_with fail
            go_ret
            exact ⟨⟨_, rfl⟩, HB.out.alloc HB.out.size _⟩
        · go_wp2_with fail
          go_ret
          exact ⟨⟨_, rfl⟩, HB.out.alloc HB.out.size _⟩
      · go_wp2_with fail
        go_ret
        exact ⟨⟨_, rfl⟩, HB.out.alloc HB.out.size _⟩
    · have hd2 : decide ((i : Int) < (len : Int)) = false := decide_eq_false (by omega)
      have HB : Aside _ := hB
      clear hB
      go_wp2_with fail
      go_ret
      exact ⟨⟨_, rfl⟩, HB.out⟩
set_option maxHeartbeats 4000000 in
theorem bulk_nil (w : World) : Calls Tryz.prog 15 #[.slice none 0 0] w fun e w' => (∃ q, e = .returned (.bool q)) ∧ Below w.heap.size w w' := by
  go_enter Tryz.func15, Tryz.ntmps15
  go_wp2_with fail
  go_loopw [8] (fun vi wr => vi = .int .i64 0 ∧ Below w.heap.size w wr)
    (fun vi _ => 0)
  case atStart => exact ⟨rfl, Below.refl _ _⟩
  case round =>
    obtain ⟨rfl, hB⟩ := hrel
    have HB : Aside _ := hB
    clear hB
    go_wp2_with fail
    go_ret
    exact ⟨⟨_, rfl⟩, HB.out⟩
end Go.Proofs.YtcnimekhpnejlaaGreat.Ev

/- The statements of files: FilePlays, walked. -/
namespace Go.Proofs.YtcnimekhpnejlaaGreat.Ev
open Go Go.RowKit
set_option linter.unusedVariables false
set_option linter.unusedSimpArgs false
set_option maxRecDepth 100000
theorem arr196 {t : Array Value} (h : t.size = 196) : ∃ g : Nat → Value, (∀ i, t.getD i undef = g i) ∧ t = (g 0 :: g 1 :: g 2 :: g 3 :: g 4 :: g 5 :: g 6 :: g 7 :: g 8 :: g 9 :: g 10 :: g 11 :: g 12 :: g 13 :: g 14 :: g 15 :: g 16 :: g 17 :: g 18 :: g 19 :: g 20 :: g 21 :: g 22 :: g 23 :: g 24 :: g 25 :: g 26 :: g 27 :: g 28 :: g 29 :: g 30 :: g 31 :: g 32 :: g 33 :: g 34 :: g 35 :: g 36 :: g 37 :: g 38 :: g 39 :: g 40 :: g 41 :: g 42 :: g 43 :: g 44 :: g 45 :: g 46 :: g 47 :: g 48 :: g 49 :: g 50 :: g 51 :: g 52 :: g 53 :: g 54 :: g 55 :: g 56 :: g 57 :: g 58 :: g 59 :: g 60 :: g 61 :: g 62 :: g 63 :: g 64 :: g 65 :: g 66 :: g 67 :: g 68 :: g 69 :: g 70 :: g 71 :: g 72 :: g 73 :: g 74 :: g 75 :: g 76 :: g 77 :: g 78 :: g 79 :: g 80 :: g 81 :: g 82 :: g 83 :: g 84 :: g 85 :: g 86 :: g 87 :: g 88 :: g 89 :: g 90 :: g 91 :: g 92 :: g 93 :: g 94 :: g 95 :: g 96 :: g 97 :: g 98 :: g 99 :: g 100 :: g 101 :: g 102 :: g 103 :: g 104 :: g 105 :: g 106 :: g 107 :: g 108 :: g 109 :: g 110 :: g 111 :: g 112 :: g 113 :: g 114 :: g 115 :: g 116 :: g 117 :: g 118 :: g 119 :: g 120 :: g 121 :: g 122 :: g 123 :: g 124 :: g 125 :: g 126 :: g 127 :: g 128 :: g 129 :: g 130 :: g 131 :: g 132 :: g 133 :: g 134 :: g 135 :: g 136 :: g 137 :: g 138 :: g 139 :: g 140 :: g 141 :: g 142 :: g 143 :: g 144 :: g 145 :: g 146 :: g 147 :: g 148 :: g 149 :: g 150 :: g 151 :: g 152 :: g 153 :: g 154 :: g 155 :: g 156 :: g 157 :: g 158 :: g 159 :: g 160 :: g 161 :: g 162 :: g 163 :: g 164 :: g 165 :: g 166 :: g 167 :: g 168 :: g 169 :: g 170 :: g 171 :: g 172 :: g 173 :: g 174 :: g 175 :: g 176 :: g 177 :: g 178 :: g 179 :: g 180 :: g 181 :: g 182 :: g 183 :: g 184 :: g 185 :: g 186 :: g 187 :: g 188 :: g 189 :: g 190 :: g 191 :: g 192 :: g 193 :: g 194 :: g 195 :: []).toArray := ⟨fun i => t.getD i undef, fun _ => rfl, (tmps_eq h).trans rfl⟩
set_option maxHeartbeats 8000000 in
theorem plays_some (b : Addr) (len cap : Nat) (hlc : len ≤ cap) (hcap : cap ≤ maxLen) (W : World)
    (h : ∀ i, i < len → ∃ k a m t st, ActOk k a m t st ∧ W.cell? (b.add (i * 5)) = some (.int .i64 k) ∧ W.cell? (b.add (i * 5 + 1)) = some (.int .i64 a) ∧ W.cell? (b.add (i * 5 + 2)) = some (.int .i64 m) ∧ W.cell? (b.add (i * 5 + 3)) = some (.string t) ∧ W.cell? (b.add (i * 5 + 4)) = some (.int .u64 st)) :
    Calls Tryz.prog 4 #[.slice (some b) len cap] W fun e w' => e = .returned (.bool true) ∧ Below W.heap.size W w' := by
  have HA : Aside (∀ w, Below W.heap.size W w → ∀ i, i < len → ∃ k a m t st, ActOk k a m t st ∧ w.cell? (b.add (i * 5)) = some (.int .i64 k) ∧ w.cell? (b.add (i * 5 + 1)) = some (.int .i64 a) ∧ w.cell? (b.add (i * 5 + 2)) = some (.int .i64 m) ∧ w.cell? (b.add (i * 5 + 3)) = some (.string t) ∧ w.cell? (b.add (i * 5 + 4)) = some (.int .u64 st)) := fun w hB i hi => by
    obtain ⟨k, a, m, t, st, hA, c0, c1, c2, c3, c4⟩ := h i hi
    exact ⟨k, a, m, t, st, hA, cell_kept hB c0, cell_kept hB c1, cell_kept hB c2, cell_kept hB c3, cell_kept hB c4⟩
  clear h
  go_enter Tryz.func4, Tryz.ntmps4
  go_wp2_with fail
  refine Calls.mono (begun_any _) ?_
  rintro e w1 ⟨X, rfl, hX, hown, hB1⟩
  have HX : Aside (isD Tryz.prog (.st (.ino S0)) X w1) := hX
  have HO : Aside _ := hown
  clear hX hown
  go_wp2_with fail
  refine Calls.mono (awake_true _) ?_
  rintro e w2 ⟨rfl, hB2⟩
  have HB2 : Aside (Below W.heap.size W w2) := hB1.trans (hB2.mono hB1.size)
  have HX2 : Aside (isD Tryz.prog (.st (.ino S0)) X w2 ∧ ∀ k, ownD Tryz.prog X w2 k → W.heap.size ≤ k) := by
    obtain ⟨h1, h2⟩ := isD_keep HX.out fun k hk => hB2.block k (ownD_lt hk)
    exact ⟨h1, fun k hk => HO.out k ((h2 k).1 hk)⟩
  clear hB1 hB2 HX HO
  go_wp2_with fail
  refine Calls.mono (bulk_some b len cap hlc hcap w2 (HA.out w2 HB2.out)) ?_
  rintro e w3 ⟨⟨q, rfl⟩, hB3⟩
  have HB3 : Aside (Below W.heap.size W w3) := HB2.out.trans (hB3.mono HB2.out.size)
  have HX3 : Aside (isD Tryz.prog (.st (.ino S0)) X w3 ∧ ∀ k, ownD Tryz.prog X w3 k → W.heap.size ≤ k) := by
    obtain ⟨h1, h2⟩ := isD_keep HX2.out.1 fun k hk => hB3.block k (ownD_lt hk)
    exact ⟨h1, fun k hk => HX2.out.2 k ((h2 k).1 hk)⟩
  clear hB3 HX2 HB2
  cases q
  · go_wp2_with fail
    refine Calls.mono (awake_true _) ?_
    rintro e w4 ⟨rfl, hB4⟩
    have HB4 : Aside (Below W.heap.size W w4) := HB3.out.trans (hB4.mono HB3.out.size)
    clear hB4
    go_wp2_with fail
    go_ret
    exact ⟨rfl, HB4.out⟩
  go_wp2_with fail
  refine Calls.mono (ino_make HX3.out.1 (.inl rfl) (st := 1) (by decide)) ?_
  rintro e w4 ⟨u, d, rfl, hm, his, ho4, hb4⟩
  unfold MadeQ at hm
  rw [free_S0, if_pos (by decide)] at hm
  obtain ⟨rfl, rfl⟩ := hm
  have HB4 : Aside (Below W.heap.size W w4) := ⟨hb4.os.trans HB3.out.os, hb4.tape.trans HB3.out.tape, hb4.output.trans HB3.out.output, Nat.le_trans HB3.out.size hb4.size, fun k hk => by
    rw [← HB3.out.block k hk]
    refine hb4.block k (Nat.lt_of_lt_of_le hk HB3.out.size) fun ho => ?_
    have := HX3.out.2 k ho
    omega⟩
  have HX4 : Aside (isD Tryz.prog (.st (.ino (updS S0 3 (madeN 1 1)))) X w4 ∧ ∀ k, ownD Tryz.prog X w4 k → W.heap.size ≤ k) := ⟨his, fun k hk => (ho4 k hk).elim (HX3.out.2 k) fun e => Nat.le_trans HB3.out.size e⟩
  clear his ho4 hb4 HX3 HB3
  go_wp2_with fail
  rename_i K hK
  have HK : Aside _ := hK
  clear hK
  refine wp_loop (fun act wr => ∃ (S : Int → Nd) (i : Nat), i ≤ len ∧ act.tmps.size = 196 ∧ act.defers = [] ∧ act.tmps.getD 3 undef = .pointer (some ⟨X, 0, none⟩) ∧ act.tmps.getD 4 undef = .int .i64 2 ∧ act.tmps.getD 6 undef = .int .i64 3 ∧ act.tmps.getD 8 undef = .pointer (some ⟨w4.heap.size, 0, none⟩) ∧ act.tmps.getD 9 undef = .pointer (some ⟨w4.heap.size + 1, 0, none⟩) ∧
      act.tmps.getD 59 undef = .slice (some b) len cap ∧ act.tmps.getD 60 undef = .int .i64 len ∧ act.tmps.getD 61 undef = .int .i64 i ∧ isD Tryz.prog (.st (.ino S)) X wr ∧ Doc (S 2) ∧ Doc (S 3) ∧ Row wr w4.heap.size 41 (mdL (S 2)) ∧ Row wr (w4.heap.size + 1) 41 (mdL (S 3)) ∧
      ¬ ownD Tryz.prog X wr w4.heap.size ∧ ¬ ownD Tryz.prog X wr (w4.heap.size + 1) ∧ (∀ k, ownD Tryz.prog X wr k → W.heap.size ≤ k) ∧ Below W.heap.size W wr)
    (fun act _ => len - idxOf (act.tmps.getD 61 undef)) ?_ ?_
  · have hN : Below w4.heap.size w4 ((w4.alloc (Obj.cells #[Value.string { data := #[] }, Value.int IntKind.u64 1] 41)).alloc (Obj.cells #[Value.string { data := #[] }, Value.int IntKind.u64 1] 41)) := ((Below.refl _ _).alloc (Nat.le_refl _) _).alloc (by simp) _
    obtain ⟨h1, h2⟩ := isD_keep HX4.out.1 fun k hk => hN.block k (ownD_lt hk)
    have e2 : mdL (updS S0 3 (madeN 1 1) 2) = [.string ⟨#[]⟩, .int .u64 1] := rfl
    have e3 : mdL (updS S0 3 (madeN 1 1) 3) = [.string ⟨#[]⟩, .int .u64 1] := rfl
    refine ⟨updS S0 3 (madeN 1 1), 0, Nat.zero_le _, rfl, rfl, rfl, rfl, rfl, rfl, rfl, rfl, rfl, rfl, h1, ⟨rfl, rfl⟩, ⟨rfl, rfl⟩, ⟨#[.string ⟨#[]⟩, .int .u64 1], ?_, fun j v hv => by rw [e2] at hv; simpa using hv⟩, ⟨#[.string ⟨#[]⟩, .int .u64 1], ?_, fun j v hv => by rw [e3] at hv; simpa using hv⟩, fun ho => ?_, fun ho => ?_, fun k hk => HX4.out.2 k ((h2 k).1 hk), HB4.out.trans (hN.mono HB4.out.size)⟩
    · show ((w4.heap.push _).push _)[w4.heap.size]? = _
      rw [Array.getElem?_push, if_neg (by simp), Array.getElem?_push, if_pos rfl]
    · show ((w4.heap.push _).push _)[w4.heap.size + 1]? = _
      rw [Array.getElem?_push, if_pos (by simp)]
    · have := ownD_lt ((h2 _).1 ho)
      omega
    · have := ownD_lt ((h2 _).1 ho)
      omega
  clear HX4
  rintro ⟨tm, df⟩ wr ⟨S, i, hil, hsz, hdf, t3, t4, t6, t8, t9, t59, t60, t61, his, d2, d3, rm, rk, fm, fk, hown, hB⟩
  have hdf : df = [] := hdf
  subst hdf
  obtain ⟨g, hg, hte⟩ := arr196 (t := tm) hsz
  subst hte
  clear hg hsz
  have t3 : g 3 = _ := t3
  have t4 : g 4 = _ := t4
  have t6 : g 6 = _ := t6
  have t8 : g 8 = _ := t8
  have t9 : g 9 = _ := t9
  have t59 : g 59 = _ := t59
  have t60 : g 60 = _ := t60
  have t61 : g 61 = _ := t61
  have HI : Aside (∀ o, isD Tryz.prog (.st (.ino S)) X (wr.alloc o) ∧ ∀ k, ownD Tryz.prog X (wr.alloc o) k ↔ ownD Tryz.prog X wr k) := fun o => isD_keep his fun k hk => ((Below.refl wr.heap.size wr).alloc (Nat.le_refl _) o).block k (ownD_lt hk)
  have HD : Aside (Doc (S 2) ∧ Doc (S 3)) := ⟨d2, d3⟩
  have HR : Aside (Row wr w4.heap.size 41 (mdL (S 2)) ∧ Row wr (w4.heap.size + 1) 41 (mdL (S 3))) := ⟨rm, rk⟩
  have HF : Aside (¬ ownD Tryz.prog X wr w4.heap.size ∧ ¬ ownD Tryz.prog X wr (w4.heap.size + 1)) := ⟨fm, fk⟩
  have HW : Aside (∀ k, ownD Tryz.prog X wr k → W.heap.size ≤ k) := hown
  have HB : Aside (Below W.heap.size W wr) := hB
  clear his d2 d3 rm rk fm fk hown hB
  by_cases hlt : i < len
  · have hd2 : decide ((i : Int) < (len : Int)) = true := decide_eq_true (by omega)
    obtain ⟨k, a, m, t, st, hA, c0, c1, c2, c3, c4⟩ := HA.out wr HB.out i hlt
    have c1 := cell_at c1
    have c2 := cell_at c2
    have c3 := cell_at c3
    have c4 := cell_at c4
    show Code.wp _ (.seq _ (.seq _ (.seq (.block 1 (.seq _ plaC)) _))) _ _ _
    go_wp2_with fail
    rename_i K2 hK2
    have hbm : w4.heap.size < wr.heap.size := by obtain ⟨cs, h1, _⟩ := HR.out.1; exact (Array.getElem?_eq_some_iff.1 h1).1
    have hbk : w4.heap.size + 1 < wr.heap.size := by obtain ⟨cs, h1, _⟩ := HR.out.2; exact (Array.getElem?_eq_some_iff.1 h1).1
    have hw4 : W.heap.size ≤ w4.heap.size := HB4.out.size
    have old : ∀ o k, k < wr.heap.size → (wr.alloc o).heap[k]? = wr.heap[k]? := fun o k hk => ((Below.refl wr.heap.size wr).alloc (Nat.le_refl _) o).block k hk
    refine play_round (x := X) (bm := w4.heap.size) (bk := w4.heap.size + 1) (ba := wr.heap.size) (HI.out _).1 HD.out.1 HD.out.2 (HR.out.1.kept (old _ _ hbm)) (HR.out.2.kept (old _ _ hbk)) hA ⟨_, ?_, fun j v hv => by rw [← hv]; exact (Array.getElem?_toList (xs := #[Value.int .i64 k, .int .i64 a, .int .i64 m, .string t, .int .u64 st])).symm⟩ (fun ho => HF.out.1 (((HI.out _).2 _).1 ho)) (fun ho => HF.out.2 (((HI.out _).2 _).1 ho)) (fun ho => Nat.lt_irrefl _ (ownD_lt (((HI.out _).2 _).1 ho))) (by omega) (by omega) (by omega)
      rfl rfl rfl rfl rfl rfl ?_ ?_ ?_ (Nat.le_refl _) _ ?_
    · show (wr.heap.push _)[wr.heap.size]? = _
      rw [Array.getElem?_push, if_pos rfl]
    · rfl
    · rfl
    · rfl
    rintro S' ⟨tm, df⟩ w' hRd
    show K2 ⟨tm, df⟩ w'
    refine hK2 _ _ ?_
    have hdf : df = [] := hRd.dfr
    subst hdf
    have u3 := hRd.t3
    have u4 := hRd.t4
    have u6 := hRd.t6
    have u8 := hRd.t8
    have u9 := hRd.t9
    have u59 : _ = Value.slice (some b) len cap := hRd.t59
    have u60 : _ = Value.int .i64 len := hRd.t60
    have u61 : _ = Value.int .i64 i := hRd.t61
    obtain ⟨g', hg', hte⟩ := arr196 (t := tm) hRd.size
    have hJ : Aside (isD Tryz.prog (.st (.ino S')) X w' ∧ Doc (S' 2) ∧ Doc (S' 3) ∧ Row w' w4.heap.size 41 (mdL (S' 2)) ∧ Row w' (w4.heap.size + 1) 41 (mdL (S' 3)) ∧
        ¬ ownD Tryz.prog X w' w4.heap.size ∧ ¬ ownD Tryz.prog X w' (w4.heap.size + 1) ∧ (∀ k, ownD Tryz.prog X w' k → W.heap.size ≤ k) ∧ Below W.heap.size W w') := by
      have hws : wr.heap.size ≤ (wr.alloc (Obj.cells #[Value.int IntKind.i64 k, Value.int IntKind.i64 a, Value.int IntKind.i64 m, Value.string t, Value.int IntKind.u64 st] 43)).heap.size := ((Below.refl wr.heap.size wr).alloc (Nat.le_refl _) _).size
      have hWr := HB.out.size
      refine ⟨hRd.is, hRd.d2, hRd.d3, hRd.rm, hRd.rk, hRd.fm, hRd.fk, fun j hj => ?_, ⟨?_, ?_, ?_, Nat.le_trans hWr (Nat.le_trans hws hRd.but.size), fun j hj => ?_⟩⟩
      · rcases hRd.own j hj with h1 | h1 | h1
        · exact HW.out j (((HI.out _).2 _).1 h1)
        · omega
        · omega
      · exact hRd.but.os.trans HB.out.os
      · exact hRd.but.tape.trans HB.out.tape
      · exact hRd.but.output.trans HB.out.output
      · rw [hRd.but.block j (by omega) fun ho => ?_, old _ j (by omega), HB.out.block j hj]
        rcases ho with h1 | h1 | h1 | h1
        · have := HW.out j (((HI.out _).2 _).1 h1)
          omega
        · omega
        · omega
        · omega
    subst hte
    have u3 : g' 3 = _ := u3
    have u4 : g' 4 = _ := u4
    have u6 : g' 6 = _ := u6
    have u8 : g' 8 = _ := u8
    have u9 : g' 9 = _ := u9
    have u59 : g' 59 = _ := u59
    have u60 : g' 60 = _ := u60
    have u61 : g' 61 = _ := u61
    clear hRd hg' HI HD HR HF HW HB hbm hbk hw4 old c0 c1 c2 c3 c4 hA t3 t4 t6 t8 t9 t59 t60 hK2
    have hw : wrap64 ((i : Int) + 1) = ((i + 1 : Nat) : Int) := by unfold wrap64; unfold maxLen at hcap; omega
    go_wp2_with fail
    obtain ⟨j1, j2, j3, j4, j5, j6, j7, j8, j9⟩ := hJ.out
    refine And.intro ⟨S', i + 1, hlt, ?_, j1, j2, j3, j4, j5, j6, j7, j8, j9⟩ ?_
    · omega
    · simp only [hw, idxOf, t61, Int.toNat_natCast]
      omega
  · have hd2 : decide ((i : Int) < (len : Int)) = false := decide_eq_false (by omega)
    clear HI HD HR HF HW
    go_wp2_with fail
    refine HK.out _ _ ?_
    clear HK
    go_wp2_with fail
    go_ret
    exact ⟨rfl, HB.out⟩
set_option maxHeartbeats 8000000 in
theorem plays_nil (W : World) : Calls Tryz.prog 4 #[.slice none 0 0] W fun e w' => e = .returned (.bool true) ∧ Below W.heap.size W w' := by
  go_enter Tryz.func4, Tryz.ntmps4
  go_wp2_with fail
  refine Calls.mono (begun_any _) ?_
  rintro e w1 ⟨X, rfl, hX, hown, hB1⟩
  have HX : Aside (isD Tryz.prog (.st (.ino S0)) X w1) := hX
  have HO : Aside _ := hown
  clear hX hown
  go_wp2_with fail
  refine Calls.mono (awake_true _) ?_
  rintro e w2 ⟨rfl, hB2⟩
  have HB2 : Aside (Below W.heap.size W w2) := hB1.trans (hB2.mono hB1.size)
  have HX2 : Aside (isD Tryz.prog (.st (.ino S0)) X w2 ∧ ∀ k, ownD Tryz.prog X w2 k → W.heap.size ≤ k) := by
    obtain ⟨h1, h2⟩ := isD_keep HX.out fun k hk => hB2.block k (ownD_lt hk)
    exact ⟨h1, fun k hk => HO.out k ((h2 k).1 hk)⟩
  clear hB1 hB2 HX HO
  go_wp2_with fail
  refine Calls.mono (bulk_nil w2) ?_
  rintro e w3 ⟨⟨q, rfl⟩, hB3⟩
  have HB3 : Aside (Below W.heap.size W w3) := HB2.out.trans (hB3.mono HB2.out.size)
  have HX3 : Aside (isD Tryz.prog (.st (.ino S0)) X w3 ∧ ∀ k, ownD Tryz.prog X w3 k → W.heap.size ≤ k) := by
    obtain ⟨h1, h2⟩ := isD_keep HX2.out.1 fun k hk => hB3.block k (ownD_lt hk)
    exact ⟨h1, fun k hk => HX2.out.2 k ((h2 k).1 hk)⟩
  clear hB3 HX2 HB2
  cases q
  · go_wp2_with fail
    refine Calls.mono (awake_true _) ?_
    rintro e w4 ⟨rfl, hB4⟩
    have HB4 : Aside (Below W.heap.size W w4) := HB3.out.trans (hB4.mono HB3.out.size)
    clear hB4
    go_wp2_with fail
    go_ret
    exact ⟨rfl, HB4.out⟩
  go_wp2_with fail
  refine Calls.mono (ino_make HX3.out.1 (.inl rfl) (st := 1) (by decide)) ?_
  rintro e w4 ⟨u, d, rfl, hm, his, ho4, hb4⟩
  unfold MadeQ at hm
  rw [free_S0, if_pos (by decide)] at hm
  obtain ⟨rfl, rfl⟩ := hm
  have HB4 : Aside (Below W.heap.size W w4) := ⟨hb4.os.trans HB3.out.os, hb4.tape.trans HB3.out.tape, hb4.output.trans HB3.out.output, Nat.le_trans HB3.out.size hb4.size, fun k hk => by
    rw [← HB3.out.block k hk]
    refine hb4.block k (Nat.lt_of_lt_of_le hk HB3.out.size) fun ho => ?_
    have := HX3.out.2 k ho
    omega⟩
  have HX4 : Aside (isD Tryz.prog (.st (.ino (updS S0 3 (madeN 1 1)))) X w4 ∧ ∀ k, ownD Tryz.prog X w4 k → W.heap.size ≤ k) := ⟨his, fun k hk => (ho4 k hk).elim (HX3.out.2 k) fun e => Nat.le_trans HB3.out.size e⟩
  clear his ho4 hb4 HX3 HB3
  go_wp2_with fail
  rename_i K hK
  have HK : Aside _ := hK
  clear hK
  refine wp_loop (fun act wr => ∃ (S : Int → Nd) (i : Nat), i ≤ 0 ∧ act.tmps.size = 196 ∧ act.defers = [] ∧ act.tmps.getD 3 undef = .pointer (some ⟨X, 0, none⟩) ∧ act.tmps.getD 4 undef = .int .i64 2 ∧ act.tmps.getD 6 undef = .int .i64 3 ∧ act.tmps.getD 8 undef = .pointer (some ⟨w4.heap.size, 0, none⟩) ∧ act.tmps.getD 9 undef = .pointer (some ⟨w4.heap.size + 1, 0, none⟩) ∧
      act.tmps.getD 59 undef = .slice none 0 0 ∧ act.tmps.getD 60 undef = .int .i64 0 ∧ act.tmps.getD 61 undef = .int .i64 i ∧ isD Tryz.prog (.st (.ino S)) X wr ∧ Doc (S 2) ∧ Doc (S 3) ∧ Row wr w4.heap.size 41 (mdL (S 2)) ∧ Row wr (w4.heap.size + 1) 41 (mdL (S 3)) ∧
      ¬ ownD Tryz.prog X wr w4.heap.size ∧ ¬ ownD Tryz.prog X wr (w4.heap.size + 1) ∧ (∀ k, ownD Tryz.prog X wr k → W.heap.size ≤ k) ∧ Below W.heap.size W wr)
    (fun act _ => 0 - idxOf (act.tmps.getD 61 undef)) ?_ ?_
  · have hN : Below w4.heap.size w4 ((w4.alloc (Obj.cells #[Value.string { data := #[] }, Value.int IntKind.u64 1] 41)).alloc (Obj.cells #[Value.string { data := #[] }, Value.int IntKind.u64 1] 41)) := ((Below.refl _ _).alloc (Nat.le_refl _) _).alloc (by simp) _
    obtain ⟨h1, h2⟩ := isD_keep HX4.out.1 fun k hk => hN.block k (ownD_lt hk)
    have e2 : mdL (updS S0 3 (madeN 1 1) 2) = [.string ⟨#[]⟩, .int .u64 1] := rfl
    have e3 : mdL (updS S0 3 (madeN 1 1) 3) = [.string ⟨#[]⟩, .int .u64 1] := rfl
    refine ⟨updS S0 3 (madeN 1 1), 0, Nat.zero_le _, rfl, rfl, rfl, rfl, rfl, rfl, rfl, rfl, rfl, rfl, h1, ⟨rfl, rfl⟩, ⟨rfl, rfl⟩, ⟨#[.string ⟨#[]⟩, .int .u64 1], ?_, fun j v hv => by rw [e2] at hv; simpa using hv⟩, ⟨#[.string ⟨#[]⟩, .int .u64 1], ?_, fun j v hv => by rw [e3] at hv; simpa using hv⟩, fun ho => ?_, fun ho => ?_, fun k hk => HX4.out.2 k ((h2 k).1 hk), HB4.out.trans (hN.mono HB4.out.size)⟩
    · show ((w4.heap.push _).push _)[w4.heap.size]? = _
      rw [Array.getElem?_push, if_neg (by simp), Array.getElem?_push, if_pos rfl]
    · show ((w4.heap.push _).push _)[w4.heap.size + 1]? = _
      rw [Array.getElem?_push, if_pos (by simp)]
    · have := ownD_lt ((h2 _).1 ho)
      omega
    · have := ownD_lt ((h2 _).1 ho)
      omega
  clear HX4
  rintro ⟨tm, df⟩ wr ⟨S, i, hil, hsz, hdf, t3, t4, t6, t8, t9, t59, t60, t61, his, d2, d3, rm, rk, fm, fk, hown, hB⟩
  have hdf : df = [] := hdf
  subst hdf
  obtain ⟨g, hg, hte⟩ := arr196 (t := tm) hsz
  subst hte
  clear hg hsz
  have t3 : g 3 = _ := t3
  have t4 : g 4 = _ := t4
  have t6 : g 6 = _ := t6
  have t8 : g 8 = _ := t8
  have t9 : g 9 = _ := t9
  have t59 : g 59 = _ := t59
  have t60 : g 60 = _ := t60
  have t61 : g 61 = _ := t61
  have HI : Aside (∀ o, isD Tryz.prog (.st (.ino S)) X (wr.alloc o) ∧ ∀ k, ownD Tryz.prog X (wr.alloc o) k ↔ ownD Tryz.prog X wr k) := fun o => isD_keep his fun k hk => ((Below.refl wr.heap.size wr).alloc (Nat.le_refl _) o).block k (ownD_lt hk)
  have HD : Aside (Doc (S 2) ∧ Doc (S 3)) := ⟨d2, d3⟩
  have HR : Aside (Row wr w4.heap.size 41 (mdL (S 2)) ∧ Row wr (w4.heap.size + 1) 41 (mdL (S 3))) := ⟨rm, rk⟩
  have HF : Aside (¬ ownD Tryz.prog X wr w4.heap.size ∧ ¬ ownD Tryz.prog X wr (w4.heap.size + 1)) := ⟨fm, fk⟩
  have HW : Aside (∀ k, ownD Tryz.prog X wr k → W.heap.size ≤ k) := hown
  have HB : Aside (Below W.heap.size W wr) := hB
  clear his d2 d3 rm rk fm fk hown hB
  obtain rfl : i = 0 := by omega
  · have hd2 : decide (((0 : Nat) : Int) < ((0 : Nat) : Int)) = false := rfl
    clear HI HD HR HF HW
    go_wp2_with fail
    refine HK.out _ _ ?_
    clear HK
    go_wp2_with fail
    go_ret
    exact ⟨rfl, HB.out⟩
theorem plays_true {v : Value} {W : World} (h : ActsAt W v) : Calls Tryz.prog 4 #[v] W fun e w' => e = .returned (.bool true) ∧ Below W.heap.size W w' := by
  rcases h with rfl | ⟨b, len, cap, rfl, h1, h2, h3⟩
  · exact plays_nil W
  · exact plays_some b len cap h1 h2 W h3
end Go.Proofs.YtcnimekhpnejlaaGreat.Ev
