/- Texts of this seat joined into one: Mb, Mc, Md. -/
import Derived.Test.YtcnimekhpnejlaaGreatVFileMoves0
import Derived.Test.YtcnimekhpnejlaaGreatVFileMoves5
import Derived.Test.YtcnimekhpnejlaaGreatVFileMoves3
import Derived.Test.YtcnimekhpnejlaaGreatVFileMoves2
import Derived.Test.YtcnimekhpnejlaaGreatVB11

/- The rule of moves on files holds. -/
namespace Go.Proofs.YtcnimekhpnejlaaGreat.Ev
open Go Go.RowKit
set_option linter.unusedVariables false
set_option linter.unusedSimpArgs false
set_option maxRecDepth 10000
theorem mv_inv {E : Env} {k a m pl t st : SV} {k' a' m' pl' t' st' : X} {v : Value} (hv : (AV.agg [k, a, m, pl, t, st]).rel E v) (hk : asI k = some (.i64, k')) (ha : asI a = some (.i64, a')) (hm : asI m = some (.i64, m')) (hp : asI pl = some (.i64, pl')) (ht : asS t = some t') (hst : asI st = some (.u64, st')) :
    v = mvV (k'.int E.ρ) (a'.int E.ρ) (m'.int E.ρ) (pl'.int E.ρ) (t'.str E.ρ) (st'.int E.ρ) := by
  obtain ⟨vs, rfl, hvs⟩ := hv
  match vs, hvs with
  | [v1, v2, v3, v4, v5, v6], hvs =>
    obtain ⟨h1, h2, h3, h4, h5, h6, _⟩ := hvs
    rw [asI_rel hk h1, asI_rel ha h2, asI_rel hm h3, asI_rel hp h4, asS_rel ht h5, asI_rel hst h6]
    rfl
theorem kX_int {ρ : Rho} {k : X} : X.int ρ (kX k) = kindM (k.int ρ) := by
  have := tmod6 (k.int ρ)
  have e5 : X.int ρ (.bin .add .i64 (.bin .rem .i64 k (.li 6)) (.li 6)) = (k.int ρ).tmod 6 + 6 := by
    show IntKind.i64.wrap ((k.int ρ).tmod 6 + 6) = _
    exact wrap_i (by omega) (by omega)
  unfold kX
  rw [rem_int', e5]
  rfl
theorem doc_told {S : Int → Nd} {n : Int} {s : ByteArray} {p : Int} (h1 : (S n).bytes = s.data.toList) (h2 : (S n).stamp = p) (h3 : (S n).links = 1) (h4 : (S n).kind = 1) : S n = docN (.s s) (.i p) := by
  have := doc_eq (N := S n) ⟨h4, h3⟩
  rw [h1, h2] at this
  exact this
theorem md_mk {E : Env} {s p : X} {N : Nd} (h1 : s.str E.ρ = ⟨N.bytes.toArray⟩) (h2 : p.int E.ρ = N.stamp) : (AV.agg [.xs s, .xi .u64 p]).rel E (mdV N) := ⟨_, rfl, by show _ = Value.string _; rw [h1], by show _ = Value.int .u64 _; rw [h2], trivial⟩
set_option maxHeartbeats 1000000 in
theorem rMove_ok {v : Nat → D} {o : Nat → Value} {pc : List (X × Bool)} (hpc : Told (rhoI v o) pc) : ∀ g e args r, rMove pc g e args = some r → AOk Tryz.prog (rhoI v o) g e args r.1 r.2 := by
  intro g e args r h E hρ a w vs his hargs
  unfold rMove at h
  split at h
  · rename_i hg
    subst hg
    split at h
    · rename_i y z s0 p0 u0 q0 k0 a0 m0 l0 t0 st0
      obtain ⟨n, hn, h⟩ := Option.bind_eq_some_iff.1 h
      obtain ⟨n2, hn2, h⟩ := Option.bind_eq_some_iff.1 h
      obtain ⟨s, hs, h⟩ := Option.bind_eq_some_iff.1 h
      obtain ⟨⟨q1, p⟩, hp, h⟩ := Option.bind_eq_some_iff.1 h
      obtain ⟨u, hu, h⟩ := Option.bind_eq_some_iff.1 h
      obtain ⟨⟨q2, q⟩, hq, h⟩ := Option.bind_eq_some_iff.1 h
      obtain ⟨⟨q3, k⟩, hk, h⟩ := Option.bind_eq_some_iff.1 h
      obtain ⟨⟨q4, at_⟩, hat, h⟩ := Option.bind_eq_some_iff.1 h
      obtain ⟨⟨q5, m⟩, hm, h⟩ := Option.bind_eq_some_iff.1 h
      obtain ⟨⟨q6, pl⟩, hpl, h⟩ := Option.bind_eq_some_iff.1 h
      obtain ⟨t, ht, h⟩ := Option.bind_eq_some_iff.1 h
      obtain ⟨⟨q7, st⟩, hst, h⟩ := Option.bind_eq_some_iff.1 h
      split at h
      · rename_i hc
        obtain ⟨e0, e1, e2, e3, e4, e5, e6, e7, e8, c1, c2, c3, c4, c5, c6, c7⟩ := hc
        have e2 : q1 = .u64 := e2
        have e3 : q2 = .u64 := e3
        have e4 : q3 = .i64 := e4
        have e5 : q4 = .i64 := e5
        have e6 : q5 = .i64 := e6
        have e7 : q6 = .i64 := e7
        have e8 : q7 = .u64 := e8
        subst e0 e1 e2 e3 e4 e5 e6 e7 e8
        obtain ⟨S, he, b1, b2, b3, b4⟩ := told87 hpc c5
        obtain ⟨S', he', d1, d2, d3, d4⟩ := told87 hpc c6
        rw [he] at he'
        obtain rfl : S = S' := by injection he' with x1; injection x1
        rw [li_int] at b1 b2 b3 b4 d1 d2 d3 d4
        have hs2 := doc_told b1 b2 b3 b4
        have hs3 := doc_told d1 d2 d3 d4
        have his2 : isD Tryz.prog (e.val (rhoI v o)) a w := his
        rw [he] at his2
        have c7 : decide ((20000 : Int) < (((t.str (rhoI v o)).size : Nat) : Int)) = false := truL_ok hpc c7
        have c7 := of_decide_eq_false c7
        match vs, hargs with
        | [w1, w2, w3, w4, w5], hargs =>
          have f1 := asI_rel hn hargs.1
          have f2 := asI_rel hn2 hargs.2.1
          have f3 := md_inv hargs.2.2.1 hs hp
          have f4 := md_inv hargs.2.2.2.1 hu hq
          have f5 := mv_inv hargs.2.2.2.2.1 hk hat hm hpl ht hst
          rw [hρ] at f3 f4 f5
          have f3 : w3 = mdV (S 2) := by rw [f3]; unfold mdV; rw [b1, b2]
          have f4 : w4 = mdV (S 3) := by rw [f4]; unfold mdV; rw [d1, d2]
          have f1 : w1 = .int .i64 2 := f1
          have f2 : w2 = .int .i64 3 := f2
          subst f1 f2 f3 f4 f5
          have hmv := move_any his2 ⟨b4, b3⟩ ⟨d4, d3⟩ (k.int (rhoI v o)) (at_.int (rhoI v o)) (m.int (rhoI v o)) (pl.int (rhoI v o)) (inI64_oki hpc c1) (inI64_oki hpc c2) (inI64_oki hpc c3) (t.str (rhoI v o)) (inU64_oki hpc c4) (by omega)
          have m2 : S 2 = docN (s.val (rhoI v o)) (p.val (rhoI v o)) := hs2
          have m3 : S 3 = docN (u.val (rhoI v o)) (q.val (rhoI v o)) := hs3
          have bs2 : s.str E.ρ = ⟨(S 2).bytes.toArray⟩ := by rw [b1, hρ]
          have bs3 : u.str E.ρ = ⟨(S 3).bytes.toArray⟩ := by rw [d1, hρ]
          have st2 : p.int E.ρ = (S 2).stamp := by rw [b2, hρ]
          have st3 : q.int E.ρ = (S 3).stamp := by rw [d2, hρ]
          obtain ⟨b0, hb0, h⟩ := Option.bind_eq_some_iff.1 h
          have hb0 : X.bool (rhoI v o) (.lt (kX k) (.li 2)) = b0 := truL_ok hpc hb0
          split at h
          · rename_i hb
            subst hb
            have hb0 : kindM (k.int (rhoI v o)) < 2 := by rw [← kX_int]; exact lt_true.1 hb0
            obtain rfl := Option.some.inj h
            have hS : movS S (k.int (rhoI v o)) (at_.int (rhoI v o)) (m.int (rhoI v o)) (pl.int (rhoI v o)) (t.str (rhoI v o)).data.toList (st.int (rhoI v o)) = updS S 2 (mvN 0 (S 2) (at_.int (rhoI v o)) (m.int (rhoI v o)) (t.str (rhoI v o)).data.toList (st.int (rhoI v o))).2.2 := if_pos hb0
            rw [hS] at hmv
            refine acts_aoi hmv fun y d ⟨x1, x2⟩ => ?_
            subst x1 x2
            rw [updS_at, upd_ne S _ (by decide)]
            refine ⟨tup3_mk (md_mk ?_ ?_) (md_mk bs3 st3) rfl, ?_⟩
            · rw [hρ]
              show _ = (⟨(mvN 0 (S 2) _ _ _ _).2.2.bytes.toArray⟩ : ByteArray)
              rw [m2]
              rfl
            · rw [hρ]
              show _ = (mvN 0 (S 2) _ _ _ _).2.2.stamp
              rw [m2]
              rfl
            · show _ = FNi 90 (.p (e.val (rhoI v o)) _)
              rw [he]
              rfl
          · rename_i hb
            have hb0 : ¬ kindM (k.int (rhoI v o)) < 2 := fun hx => hb (by rw [← hb0]; exact lt_true.2 (by rw [kX_int]; exact hx))
            obtain ⟨b2', hb2, h⟩ := Option.bind_eq_some_iff.1 h
            have hb2 : X.bool (rhoI v o) (.eq (kX k) (.li 2)) = b2' := truL_ok hpc hb2
            split at h
            · rename_i hb'
              subst hb'
              have hb2 : kindM (k.int (rhoI v o)) = 2 := by rw [← kX_int]; exact eq_true.1 hb2
              obtain rfl := Option.some.inj h
              have hS : movS S (k.int (rhoI v o)) (at_.int (rhoI v o)) (m.int (rhoI v o)) (pl.int (rhoI v o)) (t.str (rhoI v o)).data.toList (st.int (rhoI v o)) = updS S 2 (mvN 2 (S 2) (at_.int (rhoI v o)) (m.int (rhoI v o)) (t.str (rhoI v o)).data.toList (st.int (rhoI v o))).2.2 := (if_neg hb0).trans (if_pos hb2)
              rw [hS] at hmv
              refine acts_aoi hmv fun y d ⟨x1, x2⟩ => ?_
              subst x1 x2
              rw [updS_at, upd_ne S _ (by decide)]
              refine ⟨tup3_mk (md_mk ?_ ?_) (md_mk bs3 st3) rfl, ?_⟩
              · rw [hρ]
                show _ = (⟨(mvN 2 (S 2) _ _ _ _).2.2.bytes.toArray⟩ : ByteArray)
                rw [m2]
                rfl
              · rw [hρ]
                show _ = (mvN 2 (S 2) _ _ _ _).2.2.stamp
                rw [m2]
                rfl
              · show _ = FNi 90 (.p (e.val (rhoI v o)) _)
                rw [he]
                rfl
            · rename_i hb'
              have hb2 : ¬ kindM (k.int (rhoI v o)) = 2 := fun hx => hb' (by rw [← hb2]; exact eq_true.2 (by rw [kX_int]; exact hx))
              obtain ⟨b5, hb5, h⟩ := Option.map_eq_some_iff.1 h
              have hb5 : X.bool (rhoI v o) (.eq (kX k) (.li 5)) = b5 := truL_ok hpc hb5
              split at h
              · rename_i hb''
                subst hb''
                have hb5 : kindM (k.int (rhoI v o)) = 5 := by rw [← kX_int]; exact eq_true.1 hb5
                subst h
                have hS : movS S (k.int (rhoI v o)) (at_.int (rhoI v o)) (m.int (rhoI v o)) (pl.int (rhoI v o)) (t.str (rhoI v o)).data.toList (st.int (rhoI v o)) = updS S 2 (cpN (S 2) (S 2) (at_.int (rhoI v o)) (m.int (rhoI v o)) (pl.int (rhoI v o)) (st.int (rhoI v o))).2.2 := (if_neg hb0).trans ((if_neg hb2).trans (if_pos hb5))
                rw [hS] at hmv
                refine acts_aoi hmv fun y d ⟨x1, x2⟩ => ?_
                subst x1 x2
                rw [updS_at, upd_ne S _ (by decide)]
                refine ⟨tup3_mk (md_mk ?_ ?_) (md_mk bs3 st3) rfl, ?_⟩
                · rw [hρ]
                  show _ = (⟨(cpN (S 2) (S 2) _ _ _ _).2.2.bytes.toArray⟩ : ByteArray)
                  rw [m2]
                  rfl
                · rw [hρ]
                  show _ = (cpN (S 2) (S 2) _ _ _ _).2.2.stamp
                  rw [m2]
                  rfl
                · show _ = FNi 97 (.p (e.val (rhoI v o)) _)
                  rw [he]
                  rfl
              · rename_i hb''
                have hb5 : ¬ kindM (k.int (rhoI v o)) = 5 := fun hx => hb'' (by rw [← hb5]; exact eq_true.2 (by rw [kX_int]; exact hx))
                subst h
                have hS : movS S (k.int (rhoI v o)) (at_.int (rhoI v o)) (m.int (rhoI v o)) (pl.int (rhoI v o)) (t.str (rhoI v o)).data.toList (st.int (rhoI v o)) = updS S 3 (cpN (S 2) (S 3) (at_.int (rhoI v o)) (m.int (rhoI v o)) (pl.int (rhoI v o)) (st.int (rhoI v o))).2.2 := (if_neg hb0).trans ((if_neg hb2).trans (if_neg hb5))
                rw [hS] at hmv
                refine acts_aoi hmv fun y d ⟨x1, x2⟩ => ?_
                subst x1 x2
                rw [updS_at, upd_ne S _ (by decide)]
                refine ⟨tup3_mk (md_mk bs2 st2) (md_mk ?_ ?_) rfl, ?_⟩
                · rw [hρ]
                  show _ = (⟨(cpN (S 2) (S 3) _ _ _ _).2.2.bytes.toArray⟩ : ByteArray)
                  rw [m2, m3]
                  rfl
                · rw [hρ]
                  show _ = (cpN (S 2) (S 3) _ _ _ _).2.2.stamp
                  rw [m2, m3]
                  rfl
                · show _ = FNi 97 (.p (e.val (rhoI v o)) _)
                  rw [he]
                  rfl
      · cases h
    · cases h
  · cases h
theorem sumMove_ok {v : Nat → D} {o : Nat → Value} {pc : List (X × Bool)} (hpc : Told (rhoI v o) pc) {R : Rules} : CallOk (ctx R (rhoI v o) pc) (sumMove pc) :=
  sumOr_ok (sumA_ok (rMove_ok hpc)) (sumA_ok (rPlay_ok hpc))
end Go.Proofs.YtcnimekhpnejlaaGreat.Ev

/- The statements of files: one round of FileMoves. -/
namespace Go.Proofs.YtcnimekhpnejlaaGreat.Ev
open Go Go.RowKit
set_option linter.unusedVariables false
set_option linter.unusedSimpArgs false
set_option maxRecDepth 100000
noncomputable def mvsC : Code := codeAt (Tryz.f5.body.getD .skip) [1, 1, 1, 1, 1, 1, 1, 0, 1, 0, 0, 1, 1, 0, 0, 1]
def mvsBs : List Blk := [.abs (.va 0), .cells 41 none (Cells.ofList [.xs (.va 1), .xi .u64 (.va 2)]) false, .cells 41 none (Cells.ofList [.xs (.va 3), .xi .u64 (.va 4)]) false, .cells 51 none (Cells.ofList [.xi .i64 (.va 5), .xi .i64 (.va 6), .xi .i64 (.va 7), .xi .i64 (.va 8), .xs (.va 9), .xi .u64 (.va 10)]) false]
def mvsS : S := ⟨((((((((T.set .nil 5 (EV.a (.s (.ptr 0 0)))).set 6 (.a (.s (.int .i64 2)))).set 8 (.a (.s (.int .i64 3)))).set 10 (.a (.s (.ptr 1 0)))).set 11 (.a (.s (.ptr 2 0)))).set 15 (.a (.s (.ptr 3 0)))).set 60 (.a (.s (.op 0)))).set 61 (.a (.s (.op 1)))).set 62 (.a (.s (.op 2))), memL mvsBs, 4⟩
theorem mvs_ev0 (ρ : Rho) : (evCode (ctx rules0 ρ mvsP0) funT.get (evCall (ctx rules0 ρ mvsP0) funT.get (sumMove mvsP0) 100000 1000) Tryz.f5.ntmps 100000 mvsC mvsS).map (viewC [4, 5, 6, 8, 10, 11, 60, 61, 62] [0, 1, 2]) = some mvsR0 := by kernel_rfl
theorem mvs_ev1 (ρ : Rho) : (evCode (ctx rules0 ρ mvsP1) funT.get (evCall (ctx rules0 ρ mvsP1) funT.get (sumMove mvsP1) 100000 1000) Tryz.f5.ntmps 100000 mvsC mvsS).map (viewC [4, 5, 6, 8, 10, 11, 60, 61, 62] [0, 1, 2]) = some mvsR1 := by kernel_rfl
theorem mvs_ev2 (ρ : Rho) : (evCode (ctx rules0 ρ mvsP2) funT.get (evCall (ctx rules0 ρ mvsP2) funT.get (sumMove mvsP2) 100000 1000) Tryz.f5.ntmps 100000 mvsC mvsS).map (viewC [4, 5, 6, 8, 10, 11, 60, 61, 62] [0, 1, 2]) = some mvsR2 := by kernel_rfl
theorem mvs_ev3 (ρ : Rho) : (evCode (ctx rules0 ρ mvsP3) funT.get (evCall (ctx rules0 ρ mvsP3) funT.get (sumMove mvsP3) 100000 1000) Tryz.f5.ntmps 100000 mvsC mvsS).map (viewC [4, 5, 6, 8, 10, 11, 60, 61, 62] [0, 1, 2]) = some mvsR3 := by kernel_rfl
theorem mvs_ev4 (ρ : Rho) : (evCode (ctx rules0 ρ mvsP4) funT.get (evCall (ctx rules0 ρ mvsP4) funT.get (sumMove mvsP4) 100000 1000) Tryz.f5.ntmps 100000 mvsC mvsS).map (viewC [4, 5, 6, 8, 10, 11, 60, 61, 62] [0, 1, 2]) = some mvsR4 := by kernel_rfl
theorem mvs_ev5 (ρ : Rho) : (evCode (ctx rules0 ρ mvsP5) funT.get (evCall (ctx rules0 ρ mvsP5) funT.get (sumMove mvsP5) 100000 1000) Tryz.f5.ntmps 100000 mvsC mvsS).map (viewC [4, 5, 6, 8, 10, 11, 60, 61, 62] [0, 1, 2]) = some mvsR5 := by kernel_rfl
theorem mvs_ev6 (ρ : Rho) : (evCode (ctx rules0 ρ mvsP6) funT.get (evCall (ctx rules0 ρ mvsP6) funT.get (sumMove mvsP6) 100000 1000) Tryz.f5.ntmps 100000 mvsC mvsS).map (viewC [4, 5, 6, 8, 10, 11, 60, 61, 62] [0, 1, 2]) = some mvsR6 := by kernel_rfl
theorem mvs_ev7 (ρ : Rho) : (evCode (ctx rules0 ρ mvsP7) funT.get (evCall (ctx rules0 ρ mvsP7) funT.get (sumMove mvsP7) 100000 1000) Tryz.f5.ntmps 100000 mvsC mvsS).map (viewC [4, 5, 6, 8, 10, 11, 60, 61, 62] [0, 1, 2]) = some mvsR7 := by kernel_rfl
theorem mvs_ev8 (ρ : Rho) : (evCode (ctx rules0 ρ mvsP8) funT.get (evCall (ctx rules0 ρ mvsP8) funT.get (sumMove mvsP8) 100000 1000) Tryz.f5.ntmps 100000 mvsC mvsS).map (viewC [4, 5, 6, 8, 10, 11, 60, 61, 62] [0, 1, 2]) = some mvsR8 := by kernel_rfl
theorem mvs_ev9 (ρ : Rho) : (evCode (ctx rules0 ρ mvsP9) funT.get (evCall (ctx rules0 ρ mvsP9) funT.get (sumMove mvsP9) 100000 1000) Tryz.f5.ntmps 100000 mvsC mvsS).map (viewC [4, 5, 6, 8, 10, 11, 60, 61, 62] [0, 1, 2]) = some mvsR9 := by kernel_rfl
/-- What a round leaves behind. -/
structure RoundM (x bm bk ba : Nat) (w : World) (act : Act) (S' : Int → Nd) (a' : Act) (w' : World) : Prop where
  is : isD Tryz.prog (.st (.ino S')) x w'
  d2 : Doc (S' 2)
  d3 : Doc (S' 3)
  rm : Row w' bm 41 (mdL (S' 2))
  rk : Row w' bk 41 (mdL (S' 3))
  fm : ¬ ownD Tryz.prog x w' bm
  fk : ¬ ownD Tryz.prog x w' bk
  own : ∀ k, ownD Tryz.prog x w' k → ownD Tryz.prog x w k ∨ k = ba ∨ w.heap.size ≤ k
  but : But (fun k => ownD Tryz.prog x w k ∨ k = bm ∨ k = bk ∨ k = ba) w w'
  t5 : a'.tmps.getD 5 undef = .pointer (some ⟨x, 0, none⟩)
  t6 : a'.tmps.getD 6 undef = .int .i64 2
  t8 : a'.tmps.getD 8 undef = .int .i64 3
  t10 : a'.tmps.getD 10 undef = .pointer (some ⟨bm, 0, none⟩)
  t11 : a'.tmps.getD 11 undef = .pointer (some ⟨bk, 0, none⟩)
  t60 : a'.tmps.getD 60 undef = act.tmps.getD 60 undef
  t61 : a'.tmps.getD 61 undef = act.tmps.getD 61 undef
  t62 : a'.tmps.getD 62 undef = act.tmps.getD 62 undef
  size : a'.tmps.size = act.tmps.size
  dfr : a'.defers = act.defers
theorem move_round {w : World} {x bm bk ba : Nat} {S : Int → Nd} (h : isD Tryz.prog (.st (.ino S)) x w) (d2 : Doc (S 2)) (d3 : Doc (S 3)) (rm : Row w bm 41 (mdL (S 2))) (rk : Row w bk 41 (mdL (S 3)))
    {k a m pl : Int} {t : ByteArray} {st : Int} (hA : ActOk k a m t st) (hp : i64 pl) (ra : Row w ba 51 [.int .i64 k, .int .i64 a, .int .i64 m, .int .i64 pl, .string t, .int .u64 st]) (fm : ¬ ownD Tryz.prog x w bm) (fk : ¬ ownD Tryz.prog x w bk) (fa : ¬ ownD Tryz.prog x w ba) (n1 : bm ≠ bk) (n2 : bm ≠ ba) (n3 : bk ≠ ba)
    {act : Act} (t5 : act.tmps.getD 5 undef = .pointer (some ⟨x, 0, none⟩)) (t6 : act.tmps.getD 6 undef = .int .i64 2) (t8 : act.tmps.getD 8 undef = .int .i64 3) (t10 : act.tmps.getD 10 undef = .pointer (some ⟨bm, 0, none⟩)) (t11 : act.tmps.getD 11 undef = .pointer (some ⟨bk, 0, none⟩)) (t15 : act.tmps.getD 15 undef = .pointer (some ⟨ba, 0, none⟩))
    (o60 : (act.tmps.getD 60 undef).oneCell' = true) (o61 : (act.tmps.getD 61 undef).oneCell' = true) (o62 : (act.tmps.getD 62 undef).oneCell' = true) (hN : Tryz.f5.ntmps ≤ act.tmps.size) (Q : Exit → Act → World → Prop) (hQ : ∀ S' a' w', RoundM x bm bk ba w act S' a' w' → Q .normal a' w') (hQx : ∀ S' a' w', RoundM x bm bk ba w act S' a' w' → Q (.exit 1) a' w') (hQr : ∀ S' a' w', RoundM x bm bk ba w act S' a' w' → a'.tmps.getD 4 undef = .bool true → Q .ret a' w') : mvsC.wp Tryz.prog Q act w := by
  obtain ⟨B2, hB2⟩ : ∃ B : ByteArray, B = ⟨(S 2).bytes.toArray⟩ := ⟨_, rfl⟩
  obtain ⟨B3, hB3⟩ : ∃ B : ByteArray, B = ⟨(S 3).bytes.toArray⟩ := ⟨_, rfl⟩
  have z2 : (S 2).bytes.length ≤ 1048576 := size_le h 2
  have z3 : (S 3).bytes.length ≤ 1048576 := size_le h 3
  have e2 := doc_eq d2
  have e3 := doc_eq d3
  rw [← hB2] at e2
  rw [← hB3] at e3
  obtain ⟨v, hv⟩ : ∃ v, v = ofL [.st (.ino S), .s B2, .i (S 2).stamp, .s B3, .i (S 3).stamp, .i k, .i a, .i m, .i pl, .s t, .i st] := ⟨_, rfl⟩
  obtain ⟨o, ho⟩ : ∃ o : Nat → Value, o = fun i => if i = 0 then act.tmps.getD 60 undef else if i = 1 then act.tmps.getD 61 undef else act.tmps.getD 62 undef := ⟨_, rfl⟩
  have hr : HRel (envL [x, bm, bk, ba] (rhoI v o)) (memL mvsBs) w := by
    refine hrel_mk rfl (fun i b B hi hB => ?_) (fun i j b c B C hi hj hB hC hij q h1 h2 => ?_)
    · match i, hi, hB with
      | 0, hi, hB =>
        obtain rfl := Option.some.inj hi
        obtain rfl := Option.some.inj hB
        show isD Tryz.prog (v 0) x w
        rw [hv]
        exact h
      | 1, hi, hB =>
        obtain rfl := Option.some.inj hi
        obtain rfl := Option.some.inj hB
        exact ⟨_, rm, _, rfl, by rw [hv, hB2]; exact ⟨rfl, rfl, trivial⟩⟩
      | 2, hi, hB =>
        obtain rfl := Option.some.inj hi
        obtain rfl := Option.some.inj hB
        exact ⟨_, rk, _, rfl, by rw [hv, hB3]; exact ⟨rfl, rfl, trivial⟩⟩
      | 3, hi, hB =>
        obtain rfl := Option.some.inj hi
        obtain rfl := Option.some.inj hB
        exact ⟨_, ra, _, rfl, by rw [hv]; exact ⟨rfl, rfl, rfl, rfl, rfl, rfl, trivial⟩⟩
      | i + 4, hi, _ => simp at hi
    · match i, j, hi, hj, hB, hC with
      | 0, 0, _, _, _, _ => exact hij rfl
      | 1, 1, _, _, _, _ => exact hij rfl
      | 2, 2, _, _, _, _ => exact hij rfl
      | 3, 3, _, _, _, _ => exact hij rfl
      | 0, 1, hi, hj, hB, hC =>
        obtain rfl := Option.some.inj hi; obtain rfl := Option.some.inj hj; obtain rfl := Option.some.inj hB; obtain rfl := Option.some.inj hC
        obtain rfl : q = bm := h2
        exact fm h1
      | 0, 2, hi, hj, hB, hC =>
        obtain rfl := Option.some.inj hi; obtain rfl := Option.some.inj hj; obtain rfl := Option.some.inj hB; obtain rfl := Option.some.inj hC
        obtain rfl : q = bk := h2
        exact fk h1
      | 0, 3, hi, hj, hB, hC =>
        obtain rfl := Option.some.inj hi; obtain rfl := Option.some.inj hj; obtain rfl := Option.some.inj hB; obtain rfl := Option.some.inj hC
        obtain rfl : q = ba := h2
        exact fa h1
      | 1, 0, hi, hj, hB, hC =>
        obtain rfl := Option.some.inj hi; obtain rfl := Option.some.inj hj; obtain rfl := Option.some.inj hB; obtain rfl := Option.some.inj hC
        obtain rfl : q = bm := h1
        exact fm h2
      | 2, 0, hi, hj, hB, hC =>
        obtain rfl := Option.some.inj hi; obtain rfl := Option.some.inj hj; obtain rfl := Option.some.inj hB; obtain rfl := Option.some.inj hC
        obtain rfl : q = bk := h1
        exact fk h2
      | 3, 0, hi, hj, hB, hC =>
        obtain rfl := Option.some.inj hi; obtain rfl := Option.some.inj hj; obtain rfl := Option.some.inj hB; obtain rfl := Option.some.inj hC
        obtain rfl : q = ba := h1
        exact fa h2
      | 1, 2, hi, hj, hB, hC =>
        obtain rfl := Option.some.inj hi; obtain rfl := Option.some.inj hj; obtain rfl := Option.some.inj hB; obtain rfl := Option.some.inj hC
        have h1 : q = bm := h1
        have h2 : q = bk := h2
        exact n1 (h1.symm.trans h2)
      | 1, 3, hi, hj, hB, hC =>
        obtain rfl := Option.some.inj hi; obtain rfl := Option.some.inj hj; obtain rfl := Option.some.inj hB; obtain rfl := Option.some.inj hC
        have h1 : q = bm := h1
        have h2 : q = ba := h2
        exact n2 (h1.symm.trans h2)
      | 2, 1, hi, hj, hB, hC =>
        obtain rfl := Option.some.inj hi; obtain rfl := Option.some.inj hj; obtain rfl := Option.some.inj hB; obtain rfl := Option.some.inj hC
        have h1 : q = bk := h1
        have h2 : q = bm := h2
        exact n1 (h2.symm.trans h1)
      | 2, 3, hi, hj, hB, hC =>
        obtain rfl := Option.some.inj hi; obtain rfl := Option.some.inj hj; obtain rfl := Option.some.inj hB; obtain rfl := Option.some.inj hC
        have h1 : q = bk := h1
        have h2 : q = ba := h2
        exact n3 (h1.symm.trans h2)
      | 3, 1, hi, hj, hB, hC =>
        obtain rfl := Option.some.inj hi; obtain rfl := Option.some.inj hj; obtain rfl := Option.some.inj hB; obtain rfl := Option.some.inj hC
        have h1 : q = ba := h1
        have h2 : q = bm := h2
        exact n2 (h2.symm.trans h1)
      | 3, 2, hi, hj, hB, hC =>
        obtain rfl := Option.some.inj hi; obtain rfl := Option.some.inj hj; obtain rfl := Option.some.inj hB; obtain rfl := Option.some.inj hC
        have h1 : q = ba := h1
        have h2 : q = bk := h2
        exact n3 (h2.symm.trans h1)
      | i + 4, _, hi, _, _, _ => simp at hi
      | 0, j + 4, _, hj, _, _ => simp at hj
      | 1, j + 4, _, hj, _, _ => simp at hj
      | 2, j + 4, _, hj, _, _ => simp at hj
      | 3, j + 4, _, hj, _, _ => simp at hj
  have htm : RelT (envL [x, bm, bk, ba] (rhoI v o)) mvsS.tm act.tmps := by
    refine RelT.also (RelT.also (RelT.also (RelT.also (RelT.also (RelT.also (RelT.also (RelT.also (RelT.also RelT.nil ?_) ?_) ?_) ?_) ?_) ?_) ?_) ?_) ?_
    · rw [t5]; exact ⟨⟨x, 0, 0⟩, envL_at rfl, rfl⟩
    · rw [t6]; exact (rfl : Value.int .i64 2 = _)
    · rw [t8]; exact (rfl : Value.int .i64 3 = _)
    · rw [t10]; exact ⟨⟨bm, 0, 0⟩, envL_at rfl, rfl⟩
    · rw [t11]; exact ⟨⟨bk, 0, 0⟩, envL_at rfl, rfl⟩
    · rw [t15]; exact ⟨⟨ba, 0, 0⟩, envL_at rfl, rfl⟩
    · exact ⟨by rw [ho]; rfl, o60⟩
    · exact ⟨by rw [ho]; rfl, o61⟩
    · exact ⟨by rw [ho]; rfl, o62⟩
  have own : ∀ q, Owned (envL [x, bm, bk, ba] (rhoI v o)) (memL mvsBs) w q → ownD Tryz.prog x w q ∨ q = bm ∨ q = bk ∨ q = ba := fun q hq => by
    have hat : ∀ j B p, (memL mvsBs).get j = some B → (envL [x, bm, bk, ba] (rhoI v o)).m j = some p → (p.blk = x ∧ j = 0) ∨ (p.blk = bm ∧ j = 1) ∨ (p.blk = bk ∧ j = 2) ∨ (p.blk = ba ∧ j = 3) := fun j B p hB hp => by
      have hp := (envL_inv hp).1
      match j, hp with
      | 0, hp => exact .inl ⟨(Option.some.inj hp).symm, rfl⟩
      | 1, hp => exact .inr (.inl ⟨(Option.some.inj hp).symm, rfl⟩)
      | 2, hp => exact .inr (.inr (.inl ⟨(Option.some.inj hp).symm, rfl⟩))
      | 3, hp => exact .inr (.inr (.inr ⟨(Option.some.inj hp).symm, rfl⟩))
      | j + 4, hp => simp at hp
    rcases hq with ⟨j, B, p, hB, hp, rfl⟩ | ⟨j, e, p, hB, hp, hq⟩
    · rcases hat j B p hB hp with ⟨e1, _⟩ | ⟨e1, _⟩ | ⟨e1, _⟩ | ⟨e1, _⟩
      · rw [e1]; exact .inl (isD_self h)
      · exact .inr (.inl e1)
      · exact .inr (.inr (.inl e1))
      · exact .inr (.inr (.inr e1))
    · have h5 := memL_get hB
      rcases hat j _ p hB hp with ⟨e1, e2⟩ | ⟨e1, e2⟩ | ⟨e1, e2⟩ | ⟨e1, e2⟩ <;> subst e2
      · rw [e1] at hq; exact .inl hq
      · cases Option.some.inj h5
      · cases Option.some.inj h5
      · cases Option.some.inj h5
  have go : ∀ (pc : List (X × Bool)) (ex : Out) (x4 : Option EV) (e s2 p2 s3 p3 : X) (S' : Int → Nd), Told (rhoI v o) pc →
      (∀ ρ, (evCode (ctx rules0 ρ pc) funT.get (evCall (ctx rules0 ρ pc) funT.get (sumMove pc) 100000 1000) Tryz.f5.ntmps 100000 mvsC mvsS).map (viewC [4, 5, 6, 8, 10, 11, 60, 61, 62] [0, 1, 2]) = some [(ex, [x4, some (.a (.s (.ptr 0 0))), some (.a (.s (.int .i64 2))), some (.a (.s (.int .i64 3))), some (.a (.s (.ptr 1 0))), some (.a (.s (.ptr 2 0))), some (.a (.s (.op 0))), some (.a (.s (.op 1))), some (.a (.s (.op 2)))], [some (.abs e), some (.cells 41 [(.xs s2), (.xi .u64 p2)]), some (.cells 41 [(.xs s3), (.xi .u64 p3)])])]) →
      (∀ a' w', RoundM x bm bk ba w act S' a' w' → (∀ y, x4 = some y → ∃ E', E'.ρ = rhoI v o ∧ y.rel E' (a'.tmps.getD 4 undef)) → Q ex.e a' w') →
      X.val (rhoI v o) e = .st (.ino S') → Doc (S' 2) → Doc (S' 3) → X.str (rhoI v o) s2 = ⟨(S' 2).bytes.toArray⟩ → X.int (rhoI v o) p2 = (S' 2).stamp → X.str (rhoI v o) s3 = ⟨(S' 3).bytes.toArray⟩ → X.int (rhoI v o) p3 = (S' 3).stamp → mvsC.wp Tryz.prog Q act w := fun pc ex x4 e s2 p2 s3 p3 S' hpc hev hfin he g2 g3 c1 c2 c3 c4 => by
    refine code_at (rules0_ok _) hpc (sumMove_ok hpc) (hev _) hr rfl (envL_fresh _ _) htm hN Q fun q hq E' a' w' s' hg htm' hsz hdf hv1 hv2 => ?_
    obtain rfl := List.mem_singleton.1 hq
    have hρ : E'.ρ = rhoI v o := hg.ext.ρ
    have m0 : E'.m 0 = some ⟨x, 0, 0⟩ := hg.ext.m _ _ (envL_at rfl)
    have m1 : E'.m 1 = some ⟨bm, 0, 0⟩ := hg.ext.m _ _ (envL_at rfl)
    have m2 : E'.m 2 = some ⟨bk, 0, 0⟩ := hg.ext.m _ _ (envL_at rfl)
    have u4' := (List.cons.inj hv1).1
    have r0 := (List.cons.inj hv1).2
    have u0 := (List.cons.inj r0).1.symm
    have r1 := (List.cons.inj r0).2
    have u1 := (List.cons.inj r1).1.symm
    have r2 := (List.cons.inj r1).2
    have u2 := (List.cons.inj r2).1.symm
    have r3 := (List.cons.inj r2).2
    have u3 := (List.cons.inj r3).1.symm
    have r4 := (List.cons.inj r3).2
    have u4 := (List.cons.inj r4).1.symm
    have r5 := (List.cons.inj r4).2
    have u5 := (List.cons.inj r5).1.symm
    have r6 := (List.cons.inj r5).2
    have u6 := (List.cons.inj r6).1.symm
    have u7 := (List.cons.inj (List.cons.inj r6).2).1.symm
    have q5 := (slot_of_view htm' u5).1
    have q6 := (slot_of_view htm' u6).1
    have q7 := (slot_of_view htm' u7).1
    rw [hρ] at q5 q6 q7
    have q5 : a'.tmps.getD 60 undef = o 0 := q5
    have q6 : a'.tmps.getD 61 undef = o 1 := q6
    have q7 : a'.tmps.getD 62 undef = o 2 := q7
    rw [ho] at q5 q6 q7
    have v0 := (List.cons.inj hv2).1.symm
    have r1 := (List.cons.inj hv2).2
    have v1 := (List.cons.inj r1).1.symm
    have v2 := (List.cons.inj (List.cons.inj r1).2).1.symm
    have his := abs_of_view hg.rel v0 m0
    have w1 := row_of_view hg.rel v1 rfl m1
    have w2 := row_of_view hg.rel v2 rfl m2
    have f1 := fun ho => hg.rel.abs.far 0 e _ 1 _ _ (get_abs v0) m0 (Option.map_eq_some_iff.1 v1).choose_spec.1 m1 (by decide) ho
    have f2 := fun ho => hg.rel.abs.far 0 e _ 2 _ _ (get_abs v0) m0 (Option.map_eq_some_iff.1 v2).choose_spec.1 m2 (by decide) ho
    rw [hρ] at his f1 f2
    have his : isD Tryz.prog (X.val (rhoI v o) e) x w' := his
    rw [he] at his
    have p0 : ∀ (i b : Nat) (u : Value), E'.m i = some ⟨b, 0, 0⟩ → (EV.a (.s (.ptr i 0))).rel E' u → u = .pointer (some ⟨b, 0, none⟩) := fun i b u hm hu => by
      obtain ⟨p, hp, hu⟩ := hu
      rw [hm] at hp
      obtain rfl := Option.some.inj hp
      exact hu
    refine hfin a' w' ⟨his, g2, g3, ?_, ?_, f1, f2, fun q hq => ?_, ⟨hg.frame.os, hg.frame.tape, hg.frame.output, hg.frame.size, fun q hq hn => hg.frame.block q hq fun ho => hn (own q ho)⟩, p0 0 x _ m0 (slot_of_view htm' u0), slot_of_view htm' u1, slot_of_view htm' u2, p0 1 bm _ m1 (slot_of_view htm' u3), p0 2 bk _ m2 (slot_of_view htm' u4), q5, q6, q7, hsz, hdf⟩ fun y hy => ⟨E', hρ, slot_of_view htm' (u4'.symm.trans hy)⟩
    · have e5 : (List.map (SV.den E') [(.xs s2), (.xi .u64 p2)] : List Value) = mdL (S' 2) := by
        simp only [List.map_cons, List.map_nil, SV.den, hρ, c1, c2]
        rfl
      rw [← e5]
      exact w1
    · have e5 : (List.map (SV.den E') [(.xs s3), (.xi .u64 p3)] : List Value) = mdL (S' 3) := by
        simp only [List.map_cons, List.map_nil, SV.den, hρ, c3, c4]
        rfl
      rw [← e5]
      exact w2
    · have hq2 : E'.ρ.A.own x w' q := by rw [hρ]; exact hq
      rcases hg.uown 0 e _ (get_abs v0) m0 q hq2 with ho | ho
      · rcases own q ho with h5 | h5 | h5 | h5
        · exact .inl h5
        · exact absurd (h5 ▸ hq) f1
        · exact absurd (h5 ▸ hq) f2
        · exact .inr (.inl h5)
      · exact .inr (.inr ho)
  have h0 : X.val (rhoI v o) (.va 0) = .st (.ino S) := by rw [hv]; rfl
  have s1 : X.str (rhoI v o) (.va 1) = ⟨(S 2).bytes.toArray⟩ := by rw [hv]; exact hB2
  have i2 : X.int (rhoI v o) (.va 2) = (S 2).stamp := by rw [hv]; rfl
  have s3 : X.str (rhoI v o) (.va 3) = ⟨(S 3).bytes.toArray⟩ := by rw [hv]; exact hB3
  have i4 : X.int (rhoI v o) (.va 4) = (S 3).stamp := by rw [hv]; rfl
  have i8 : X.int (rhoI v o) (.va 8) = pl := by rw [hv]; rfl
  have s9 : X.str (rhoI v o) (.va 9) = t := by rw [hv]; rfl
  have k59 : X.bool (rhoI v o) (.app 59 (.va 10)) = true := by rw [hv]; exact decide_eq_true hA.st
  have k902a : X.bool (rhoI v o) (.app 902 (.va 6)) = true := by rw [hv]; exact decide_eq_true hA.a
  have k902m : X.bool (rhoI v o) (.app 902 (.va 7)) = true := by rw [hv]; exact decide_eq_true hA.m
  have k902p : X.bool (rhoI v o) (.app 902 (.va 8)) = true := by rw [hv]; exact decide_eq_true hp
  have hkind : X.int (rhoI v o) (.bin .rem .i64 mvsX6 (.li 6)) = kindM k := by
    have := kX_int (ρ := rhoI v o) (k := .va 5)
    rw [show X.int (rhoI v o) (.va 5) = k by rw [hv]; rfl] at this
    exact this
  obtain ⟨M0, hM0⟩ : ∃ R, R = mvN 0 (S 2) a m t.data.toList st := ⟨_, rfl⟩
  obtain ⟨M2, hM2⟩ : ∃ R, R = mvN 2 (S 2) a m t.data.toList st := ⟨_, rfl⟩
  obtain ⟨M5, hM5⟩ : ∃ R, R = cpN (S 2) (S 2) a m pl st := ⟨_, rfl⟩
  obtain ⟨M3, hM3⟩ : ∃ R, R = cpN (S 2) (S 3) a m pl st := ⟨_, rfl⟩
  have y2 : X.val (rhoI v o) mvsX2 = .st (.ino (updS S 2 M0.2.2)) := by rw [hv, hM0]; rfl
  have y0 : X.str (rhoI v o) mvsX0 = ⟨M0.2.2.bytes.toArray⟩ := by rw [hv, hM0, e2]; rfl
  have y4 : X.int (rhoI v o) mvsX4 = M0.2.2.stamp := by rw [hv, hM0, e2]; rfl
  have y11 : X.val (rhoI v o) mvsX11 = .st (.ino (updS S 2 M2.2.2)) := by rw [hv, hM2]; rfl
  have y9 : X.str (rhoI v o) mvsX9 = ⟨M2.2.2.bytes.toArray⟩ := by rw [hv, hM2, e2]; rfl
  have y13 : X.int (rhoI v o) mvsX13 = M2.2.2.stamp := by rw [hv, hM2, e2]; rfl
  have y17 : X.val (rhoI v o) mvsX17 = .st (.ino (updS S 2 M5.2.2)) := by rw [hv, hM5]; rfl
  have y15 : X.str (rhoI v o) mvsX15 = ⟨M5.2.2.bytes.toArray⟩ := by rw [hv, hM5, e2]; rfl
  have y19 : X.int (rhoI v o) mvsX19 = M5.2.2.stamp := by rw [hv, hM5, e2]; rfl
  have y23 : X.val (rhoI v o) mvsX23 = .st (.ino (updS S 3 M3.2.2)) := by rw [hv, hM3]; rfl
  have y21 : X.str (rhoI v o) mvsX21 = ⟨M3.2.2.bytes.toArray⟩ := by rw [hv, hM3, e2, e3]; rfl
  have y24 : X.int (rhoI v o) mvsX24 = M3.2.2.stamp := by rw [hv, hM3, e2, e3]; rfl
  have g0 : Doc M0.2.2 := by rw [hM0]; exact doc_mv d2 _ _ _ _ _
  have g2 : Doc M2.2.2 := by rw [hM2]; exact doc_mv d2 _ _ _ _ _
  have g5 : Doc M5.2.2 := by rw [hM5]; exact doc_cp d2 _ _ _ _
  have g3 : Doc M3.2.2 := by rw [hM3]; exact doc_cp d3 _ _ _ _
  have k87 : ∀ (e s p : X) (S' : Int → Nd) (n : Int), X.val (rhoI v o) e = .st (.ino S') → Doc (S' n) → X.str (rhoI v o) s = ⟨(S' n).bytes.toArray⟩ → X.int (rhoI v o) p = (S' n).stamp → X.bool (rhoI v o) (.app 87 (.cons e (.cons (.li n) (.cons s p)))) = true := fun e s p S' n he h1 h2 h3 => by
    rw [b87 he, h2, h3]
    exact decide_eq_true ⟨rfl, rfl, h1.2, h1.1⟩
  have at2 : ∀ N, updS S 2 N 2 = N := fun N => updS_at S 2 N
  have at3 : ∀ N, updS S 2 N 3 = S 3 := fun N => upd_ne S N (by decide)
  have bt2 : ∀ N, updS S 3 N 2 = S 2 := fun N => upd_ne S N (by decide)
  have bt3 : ∀ N, updS S 3 N 3 = N := fun N => updS_at S 3 N
  have n7 : X.bool (rhoI v o) mvsX7 = true := k87 _ _ _ _ 3 h0 d3 s3 i4
  have n8 : X.bool (rhoI v o) mvsX8 = true := k87 _ _ _ _ 2 h0 d2 s1 i2
  clear hv ho
  by_cases ct : (20000 : Int) < (t.size : Nat)
  · have l9 : X.bool (rhoI v o) (.lt (.li 20000) (.len (.va 9))) = true := lt_true.2 (by rw [li_int, len_int, s9]; exact ct)
    exact go mvsP0 (.exit 1) none (.va 0) (.va 1) (.va 2) (.va 3) (.va 4) S (by simp only [mvsP0, told_cons, told_nil, l9, and_true]) mvs_ev0 (fun a' w' hR _ => hQx S a' w' hR) h0 d2 d3 s1 i2 s3 i4
  have l9 : X.bool (rhoI v o) (.lt (.li 20000) (.len (.va 9))) = false := lt_false.2 (by rw [li_int, len_int, s9]; omega)
  by_cases cp : (40000 : Int) < pl
  · have l8 : X.bool (rhoI v o) (.lt (.li 40000) (.va 8)) = true := lt_true.2 (by rw [li_int, i8]; exact cp)
    exact go mvsP1 (.exit 1) none (.va 0) (.va 1) (.va 2) (.va 3) (.va 4) S (by simp only [mvsP1, told_cons, told_nil, l8, l9, and_true]) mvs_ev1 (fun a' w' hR _ => hQx S a' w' hR) h0 d2 d3 s1 i2 s3 i4
  have l8 : X.bool (rhoI v o) (.lt (.li 40000) (.va 8)) = false := lt_false.2 (by rw [li_int, i8]; omega)
  have tru : ∀ (q : X) (a' : Act), X.bool (rhoI v o) q = true → (∀ y, (some (EV.a (.s (.xb q))) : Option EV) = some y → ∃ E', E'.ρ = rhoI v o ∧ y.rel E' (a'.tmps.getD 4 undef)) → a'.tmps.getD 4 undef = .bool true := fun q a' hq hy => by
    obtain ⟨E', hE, hr⟩ := hy _ rfl
    have hr : a'.tmps.getD 4 undef = .bool (X.bool E'.ρ q) := hr
    rw [hr, hE, hq]
  by_cases c0 : kindM k < 2
  · have hk0 : X.bool (rhoI v o) (.lt (.bin .rem .i64 mvsX6 (.li 6)) (.li 2)) = true := lt_true.2 (by rw [hkind, li_int]; exact c0)
    have m1 : X.bool (rhoI v o) mvsX3 = true := k87 _ _ _ _ 3 y2 (by rw [at3]; exact d3) (by rw [at3]; exact s3) (by rw [at3]; exact i4)
    have m2 : X.bool (rhoI v o) mvsX5 = true := k87 _ _ _ _ 2 y2 (by rw [at2]; exact g0) (by rw [at2]; exact y0) (by rw [at2]; exact y4)
    cases hsz : X.bool (rhoI v o) (.lt (.li 200000) mvsX1)
    · exact go mvsP3 .normal none mvsX2 mvsX0 mvsX4 (.va 3) (.va 4) (updS S 2 M0.2.2) (by simp only [mvsP3, told_cons, told_nil, hk0, n7, n8, m1, m2, k59, k902a, k902m, k902p, l8, l9, and_true, hsz]) mvs_ev3 (fun a' w' hR _ => hQ _ a' w' hR) y2 (by rw [at2]; exact g0) (by rw [at3]; exact d3) (by rw [at2]; exact y0) (by rw [at2]; exact y4) (by rw [at3]; exact s3) (by rw [at3]; exact i4)
    · exact go mvsP2 .ret (some (.a (.s (.xb (.lt (.li 200000) mvsX1))))) mvsX2 mvsX0 mvsX4 (.va 3) (.va 4) (updS S 2 M0.2.2) (by simp only [mvsP2, told_cons, told_nil, hk0, n7, n8, m1, m2, k59, k902a, k902m, k902p, l8, l9, and_true, hsz]) mvs_ev2 (fun a' w' hR hy => hQr _ a' w' hR (tru _ a' hsz hy)) y2 (by rw [at2]; exact g0) (by rw [at3]; exact d3) (by rw [at2]; exact y0) (by rw [at2]; exact y4) (by rw [at3]; exact s3) (by rw [at3]; exact i4)
  have hk0 : X.bool (rhoI v o) (.lt (.bin .rem .i64 mvsX6 (.li 6)) (.li 2)) = false := lt_false.2 (by rw [hkind, li_int]; exact Int.not_lt.1 c0)
  by_cases c2 : kindM k = 2
  · have hk2 : X.bool (rhoI v o) (.eq (.bin .rem .i64 mvsX6 (.li 6)) (.li 2)) = true := eq_true.2 (by rw [hkind, li_int]; exact c2)
    have m1 : X.bool (rhoI v o) mvsX12 = true := k87 _ _ _ _ 3 y11 (by rw [at3]; exact d3) (by rw [at3]; exact s3) (by rw [at3]; exact i4)
    have m2 : X.bool (rhoI v o) mvsX14 = true := k87 _ _ _ _ 2 y11 (by rw [at2]; exact g2) (by rw [at2]; exact y9) (by rw [at2]; exact y13)
    cases hsz : X.bool (rhoI v o) (.lt (.li 200000) mvsX10)
    · exact go mvsP5 .normal none mvsX11 mvsX9 mvsX13 (.va 3) (.va 4) (updS S 2 M2.2.2) (by simp only [mvsP5, told_cons, told_nil, hk0, hk2, n7, n8, m1, m2, k59, k902a, k902m, k902p, l8, l9, and_true, hsz]) mvs_ev5 (fun a' w' hR _ => hQ _ a' w' hR) y11 (by rw [at2]; exact g2) (by rw [at3]; exact d3) (by rw [at2]; exact y9) (by rw [at2]; exact y13) (by rw [at3]; exact s3) (by rw [at3]; exact i4)
    · exact go mvsP4 .ret (some (.a (.s (.xb (.lt (.li 200000) mvsX10))))) mvsX11 mvsX9 mvsX13 (.va 3) (.va 4) (updS S 2 M2.2.2) (by simp only [mvsP4, told_cons, told_nil, hk0, hk2, n7, n8, m1, m2, k59, k902a, k902m, k902p, l8, l9, and_true, hsz]) mvs_ev4 (fun a' w' hR hy => hQr _ a' w' hR (tru _ a' hsz hy)) y11 (by rw [at2]; exact g2) (by rw [at3]; exact d3) (by rw [at2]; exact y9) (by rw [at2]; exact y13) (by rw [at3]; exact s3) (by rw [at3]; exact i4)
  have hk2 : X.bool (rhoI v o) (.eq (.bin .rem .i64 mvsX6 (.li 6)) (.li 2)) = false := eq_false.2 (by rw [hkind, li_int]; exact c2)
  by_cases c5 : kindM k = 5
  · have hk5 : X.bool (rhoI v o) (.eq (.bin .rem .i64 mvsX6 (.li 6)) (.li 5)) = true := eq_true.2 (by rw [hkind, li_int]; exact c5)
    have m1 : X.bool (rhoI v o) mvsX18 = true := k87 _ _ _ _ 3 y17 (by rw [at3]; exact d3) (by rw [at3]; exact s3) (by rw [at3]; exact i4)
    have m2 : X.bool (rhoI v o) mvsX20 = true := k87 _ _ _ _ 2 y17 (by rw [at2]; exact g5) (by rw [at2]; exact y15) (by rw [at2]; exact y19)
    cases hsz : X.bool (rhoI v o) (.lt (.li 200000) mvsX16)
    · exact go mvsP7 .normal none mvsX17 mvsX15 mvsX19 (.va 3) (.va 4) (updS S 2 M5.2.2) (by simp only [mvsP7, told_cons, told_nil, hk0, hk2, hk5, n7, n8, m1, m2, k59, k902a, k902m, k902p, l8, l9, and_true, hsz]) mvs_ev7 (fun a' w' hR _ => hQ _ a' w' hR) y17 (by rw [at2]; exact g5) (by rw [at3]; exact d3) (by rw [at2]; exact y15) (by rw [at2]; exact y19) (by rw [at3]; exact s3) (by rw [at3]; exact i4)
    · exact go mvsP6 .ret (some (.a (.s (.xb (.lt (.li 200000) mvsX16))))) mvsX17 mvsX15 mvsX19 (.va 3) (.va 4) (updS S 2 M5.2.2) (by simp only [mvsP6, told_cons, told_nil, hk0, hk2, hk5, n7, n8, m1, m2, k59, k902a, k902m, k902p, l8, l9, and_true, hsz]) mvs_ev6 (fun a' w' hR hy => hQr _ a' w' hR (tru _ a' hsz hy)) y17 (by rw [at2]; exact g5) (by rw [at3]; exact d3) (by rw [at2]; exact y15) (by rw [at2]; exact y19) (by rw [at3]; exact s3) (by rw [at3]; exact i4)
  have hk5 : X.bool (rhoI v o) (.eq (.bin .rem .i64 mvsX6 (.li 6)) (.li 5)) = false := eq_false.2 (by rw [hkind, li_int]; exact c5)
  · skip
    have m1 : X.bool (rhoI v o) mvsX25 = true := k87 _ _ _ _ 3 y23 (by rw [bt3]; exact g3) (by rw [bt3]; exact y21) (by rw [bt3]; exact y24)
    have m2 : X.bool (rhoI v o) mvsX26 = true := k87 _ _ _ _ 2 y23 (by rw [bt2]; exact d2) (by rw [bt2]; exact s1) (by rw [bt2]; exact i2)
    cases hsz : X.bool (rhoI v o) (.lt (.li 200000) mvsX22)
    · exact go mvsP9 .normal none mvsX23 (.va 1) (.va 2) mvsX21 mvsX24 (updS S 3 M3.2.2) (by simp only [mvsP9, told_cons, told_nil, hk0, hk2, hk5, n7, n8, m1, m2, k59, k902a, k902m, k902p, l8, l9, and_true, hsz]) mvs_ev9 (fun a' w' hR _ => hQ _ a' w' hR) y23 (by rw [bt2]; exact d2) (by rw [bt3]; exact g3) (by rw [bt2]; exact s1) (by rw [bt2]; exact i2) (by rw [bt3]; exact y21) (by rw [bt3]; exact y24)
    · exact go mvsP8 .ret (some (.a (.s (.xb (.lt (.li 200000) mvsX22))))) mvsX23 (.va 1) (.va 2) mvsX21 mvsX24 (updS S 3 M3.2.2) (by simp only [mvsP8, told_cons, told_nil, hk0, hk2, hk5, n7, n8, m1, m2, k59, k902a, k902m, k902p, l8, l9, and_true, hsz]) mvs_ev8 (fun a' w' hR hy => hQr _ a' w' hR (tru _ a' hsz hy)) y23 (by rw [bt2]; exact d2) (by rw [bt3]; exact g3) (by rw [bt2]; exact s1) (by rw [bt2]; exact i2) (by rw [bt3]; exact y21) (by rw [bt3]; exact y24)
end Go.Proofs.YtcnimekhpnejlaaGreat.Ev

/- The statements of files: FileMoves, walked. -/
namespace Go.Proofs.YtcnimekhpnejlaaGreat.Ev
open Go Go.RowKit
set_option linter.unusedVariables false
set_option linter.unusedSimpArgs false
set_option maxRecDepth 100000
theorem arr132 {t : Array Value} (h : t.size = 132) : ∃ g : Nat → Value, (∀ i, t.getD i undef = g i) ∧ t = (g 0 :: g 1 :: g 2 :: g 3 :: g 4 :: g 5 :: g 6 :: g 7 :: g 8 :: g 9 :: g 10 :: g 11 :: g 12 :: g 13 :: g 14 :: g 15 :: g 16 :: g 17 :: g 18 :: g 19 :: g 20 :: g 21 :: g 22 :: g 23 :: g 24 :: g 25 :: g 26 :: g 27 :: g 28 :: g 29 :: g 30 :: g 31 :: g 32 :: g 33 :: g 34 :: g 35 :: g 36 :: g 37 :: g 38 :: g 39 :: g 40 :: g 41 :: g 42 :: g 43 :: g 44 :: g 45 :: g 46 :: g 47 :: g 48 :: g 49 :: g 50 :: g 51 :: g 52 :: g 53 :: g 54 :: g 55 :: g 56 :: g 57 :: g 58 :: g 59 :: g 60 :: g 61 :: g 62 :: g 63 :: g 64 :: g 65 :: g 66 :: g 67 :: g 68 :: g 69 :: g 70 :: g 71 :: g 72 :: g 73 :: g 74 :: g 75 :: g 76 :: g 77 :: g 78 :: g 79 :: g 80 :: g 81 :: g 82 :: g 83 :: g 84 :: g 85 :: g 86 :: g 87 :: g 88 :: g 89 :: g 90 :: g 91 :: g 92 :: g 93 :: g 94 :: g 95 :: g 96 :: g 97 :: g 98 :: g 99 :: g 100 :: g 101 :: g 102 :: g 103 :: g 104 :: g 105 :: g 106 :: g 107 :: g 108 :: g 109 :: g 110 :: g 111 :: g 112 :: g 113 :: g 114 :: g 115 :: g 116 :: g 117 :: g 118 :: g 119 :: g 120 :: g 121 :: g 122 :: g 123 :: g 124 :: g 125 :: g 126 :: g 127 :: g 128 :: g 129 :: g 130 :: g 131 :: []).toArray := ⟨fun i => t.getD i undef, fun _ => rfl, (tmps_eq h).trans rfl⟩
theorem write_none (s : List UInt8) : writeB [] 0 s = s := by
  unfold writeB
  split
  · rename_i e; exact e.symm
  · unfold overB
    rw [List.drop_of_length_le (by rw [resizeB_length]; simp)]
    simp
set_option maxHeartbeats 8000000 in
theorem moves_some (s : ByteArray) (b : Addr) (len cap : Nat) (hlc : len ≤ cap) (hcap : cap ≤ maxLen) (W : World)
    (h : ∀ i, i < len → ∃ k a m pl t st, ActOk k a m t st ∧ i64 pl ∧ W.cell? (b.add (i * 6)) = some (.int .i64 k) ∧ W.cell? (b.add (i * 6 + 1)) = some (.int .i64 a) ∧ W.cell? (b.add (i * 6 + 2)) = some (.int .i64 m) ∧ W.cell? (b.add (i * 6 + 3)) = some (.int .i64 pl) ∧ W.cell? (b.add (i * 6 + 4)) = some (.string t) ∧ W.cell? (b.add (i * 6 + 5)) = some (.int .u64 st)) :
    Calls Tryz.prog 5 #[.string s, .slice (some b) len cap] W fun e w' => e = .returned (.bool true) ∧ Below W.heap.size W w' := by
  have HA : Aside (∀ w, Below W.heap.size W w → ∀ i, i < len → ∃ k a m pl t st, ActOk k a m t st ∧ i64 pl ∧ w.cell? (b.add (i * 6)) = some (.int .i64 k) ∧ w.cell? (b.add (i * 6 + 1)) = some (.int .i64 a) ∧ w.cell? (b.add (i * 6 + 2)) = some (.int .i64 m) ∧ w.cell? (b.add (i * 6 + 3)) = some (.int .i64 pl) ∧ w.cell? (b.add (i * 6 + 4)) = some (.string t) ∧ w.cell? (b.add (i * 6 + 5)) = some (.int .u64 st)) := fun w hB i hi => by
    obtain ⟨k, a, m, pl, t, st, hA, hpl, c0, c1, c2, c3, c4, c5⟩ := h i hi
    exact ⟨k, a, m, pl, t, st, hA, hpl, cell_kept hB c0, cell_kept hB c1, cell_kept hB c2, cell_kept hB c3, cell_kept hB c4, cell_kept hB c5⟩
  clear h
  go_enter Tryz.func5, Tryz.ntmps5
  go_wp2_with fail
  refine Calls.mono (begun_any _) ?_
  rintro e w1 ⟨X, rfl, hX, hown, hB1⟩
  have HX : Aside (isD Tryz.prog (.st (.ino S0)) X w1) := hX
  have HO : Aside _ := hown
  clear hX hown
  go_wp2_with fail
  refine Calls.mono (awake_true _) ?_
  rintro e w2 ⟨rfl, hB2⟩
  have HB2 : Aside (Below W.heap.size W w2) := hB1.trans (hB2.mono hB1.size)
  have HX2 : Aside (isD Tryz.prog (.st (.ino S0)) X w2 ∧ ∀ k, ownD Tryz.prog X w2 k → W.heap.size ≤ k) := by
    obtain ⟨h1, h2⟩ := isD_keep HX.out fun k hk => hB2.block k (ownD_lt hk)
    exact ⟨h1, fun k hk => HO.out k ((h2 k).1 hk)⟩
  clear hB1 hB2 HX HO
  have out : ∀ w3, Below W.heap.size W w3 → Calls Tryz.prog 9 #[] w3 fun e w4 => e = .returned (.bool true) ∧ Below W.heap.size W w4 := fun w3 h3 => (awake_true w3).mono fun e w4 ⟨h4, h5⟩ => ⟨h4, h3.trans (h5.mono h3.size)⟩
  have HOut : Aside _ := out
  clear out
  cases hg1 : decide ((s.size : Int) > 20000)
  rotate_left
  · go_wp2_with fail
    refine Calls.mono (HOut.out w2 HB2.out) ?_
    rintro e w4 ⟨rfl, hB4⟩
    have HB4 : Aside (Below W.heap.size W w4) := hB4
    clear hB4
    go_wp2_with fail
    go_ret
    exact ⟨rfl, HB4.out⟩
  cases hg2 : decide ((len : Int) > 40)
  rotate_left
  · go_wp2_with fail
    refine Calls.mono (HOut.out w2 HB2.out) ?_
    rintro e w4 ⟨rfl, hB4⟩
    have HB4 : Aside (Below W.heap.size W w4) := hB4
    clear hB4
    go_wp2_with fail
    go_ret
    exact ⟨rfl, HB4.out⟩
  have hsz : (s.size : Int) ≤ 20000 := Int.not_lt.1 (of_decide_eq_false hg1)
  go_wp2_with fail
  refine Calls.mono (ino_make HX2.out.1 (.inl rfl) (st := 1) (by decide)) ?_
  rintro e w4 ⟨u, d, rfl, hm, his, ho4, hb4⟩
  unfold MadeQ at hm
  rw [free_S0, if_pos (by decide)] at hm
  obtain ⟨rfl, rfl⟩ := hm
  have HB4 : Aside (Below W.heap.size W w4) := ⟨hb4.os.trans HB2.out.os, hb4.tape.trans HB2.out.tape, hb4.output.trans HB2.out.output, Nat.le_trans HB2.out.size hb4.size, fun k hk => by
    rw [← HB2.out.block k hk]
    refine hb4.block k (Nat.lt_of_lt_of_le hk HB2.out.size) fun ho => ?_
    have := HX2.out.2 k ho
    omega⟩
  have HX4 : Aside (isD Tryz.prog (.st (.ino (updS S0 3 (madeN 1 1)))) X w4 ∧ ∀ k, ownD Tryz.prog X w4 k → W.heap.size ≤ k) := ⟨his, fun k hk => (ho4 k hk).elim (HX2.out.2 k) fun e => Nat.le_trans HB2.out.size e⟩
  clear his ho4 hb4 HX2 HB2 HOut
  go_wp2_with fail
  have hN : Below w4.heap.size w4 ((w4.alloc (Obj.cells #[Value.string s, Value.int IntKind.u64 1] 41)).alloc (Obj.cells #[Value.string { data := #[] }, Value.int IntKind.u64 1] 41)) := ((Below.refl _ _).alloc (Nat.le_refl _) _).alloc (by simp) _
  have hwr := file_write (n := 2) (a := 0) (s := s) (st := 1) (isD_keep HX4.out.1 fun k hk => hN.block k (ownD_lt hk)).1 ⟨by decide, rfl⟩ ⟨by decide, by decide⟩ (by decide)
  have hn := (isD_keep HX4.out.1 fun k hk => hN.block k (ownD_lt hk)).2
  refine Calls.mono hwr ?_
  rintro e w5 ⟨u, d, rfl, hm, his, ho5, hb5⟩
  rw [if_pos ⟨Int.le_refl _, by omega⟩] at hm
  obtain ⟨rfl, rfl⟩ := hm
  have e5 : (updS (updS S0 3 (madeN 1 1)) 2 (wrN (updS S0 3 (madeN 1 1) 2) (0 : Int).toNat s.data.toList 1)) 2 = ⟨1, 1, 1, s.data.toList⟩ := by
    rw [updS_at]
    show wrN ⟨1, 1, 1, []⟩ 0 s.data.toList 1 = _
    unfold wrN
    split
    · rename_i e; rw [e]
    · rw [write_none]
  have HX5 : Aside (∃ S, isD Tryz.prog (.st (.ino S)) X w5 ∧ S 2 = ⟨1, 1, 1, s.data.toList⟩ ∧ S 3 = ⟨1, 1, 1, []⟩ ∧ ∀ k, ownD Tryz.prog X w5 k → W.heap.size ≤ k ∧ k ≠ w4.heap.size ∧ k ≠ w4.heap.size + 1) := by
    refine ⟨_, his, e5, rfl, fun k hk => ?_⟩
    rcases ho5 k hk with h1 | h1
    · have h2 := HX4.out.2 k ((hn k).1 h1)
      have h3 := ownD_lt ((hn k).1 h1)
      omega
    · have h2 : (((w4.alloc (Obj.cells #[Value.string s, Value.int IntKind.u64 1] 41)).alloc (Obj.cells #[Value.string { data := #[] }, Value.int IntKind.u64 1] 41))).heap.size = w4.heap.size + 2 := by simp
      have := HB4.out.size
      omega
  have HR5 : Aside (w5.heap[w4.heap.size]? = some (.cells #[.string s, .int .u64 1] 41 (0, 0)) ∧ w5.heap[w4.heap.size + 1]? = some (.cells #[.string ⟨#[]⟩, .int .u64 1] 41 (0, 0))) := by
    have h2 : (((w4.alloc (Obj.cells #[Value.string s, Value.int IntKind.u64 1] 41)).alloc (Obj.cells #[Value.string { data := #[] }, Value.int IntKind.u64 1] 41))).heap.size = w4.heap.size + 2 := by simp
    constructor
    · rw [hb5.block w4.heap.size (by omega) fun ho => Nat.lt_irrefl _ (ownD_lt ((hn _).1 ho))]
      show ((w4.heap.push _).push _)[w4.heap.size]? = _
      rw [Array.getElem?_push, if_neg (by simp), Array.getElem?_push, if_pos rfl]
    · rw [hb5.block (w4.heap.size + 1) (by omega) fun ho => by have := ownD_lt ((hn _).1 ho); omega]
      show ((w4.heap.push _).push _)[w4.heap.size + 1]? = _
      rw [Array.getElem?_push, if_pos (by simp)]
  have HB5 : Aside (Below W.heap.size W w5) := by
    have hN2 := HB4.out.trans (hN.mono HB4.out.size)
    refine ⟨hb5.os.trans hN2.os, hb5.tape.trans hN2.tape, hb5.output.trans hN2.output, Nat.le_trans hN2.size hb5.size, fun k hk => ?_⟩
    rw [← hN2.block k hk]
    refine hb5.block k (Nat.lt_of_lt_of_le hk hN2.size) fun ho => ?_
    have := HX4.out.2 k ((hn k).1 ho)
    omega
  have hw4 : Hid (W.heap.size ≤ w4.heap.size) := HB4.out.size
  clear hN hwr hn his ho5 hb5 e5 HX4 HB4
  go_wp2_with fail
  rename_i K hK
  have HK : Aside _ := hK
  clear hK
  refine wp_loop (fun act wr => ∃ (S : Int → Nd) (i : Nat), i ≤ len ∧ act.tmps.size = 132 ∧ act.defers = [] ∧ act.tmps.getD 5 undef = .pointer (some ⟨X, 0, none⟩) ∧ act.tmps.getD 6 undef = .int .i64 2 ∧ act.tmps.getD 8 undef = .int .i64 3 ∧ act.tmps.getD 10 undef = .pointer (some ⟨w4.heap.size, 0, none⟩) ∧ act.tmps.getD 11 undef = .pointer (some ⟨w4.heap.size + 1, 0, none⟩) ∧
      act.tmps.getD 60 undef = .slice (some b) len cap ∧ act.tmps.getD 61 undef = .int .i64 len ∧ act.tmps.getD 62 undef = .int .i64 i ∧ isD Tryz.prog (.st (.ino S)) X wr ∧ Doc (S 2) ∧ Doc (S 3) ∧ Row wr w4.heap.size 41 (mdL (S 2)) ∧ Row wr (w4.heap.size + 1) 41 (mdL (S 3)) ∧
      ¬ ownD Tryz.prog X wr w4.heap.size ∧ ¬ ownD Tryz.prog X wr (w4.heap.size + 1) ∧ (∀ k, ownD Tryz.prog X wr k → W.heap.size ≤ k) ∧ Below W.heap.size W wr)
    (fun act _ => len - idxOf (act.tmps.getD 62 undef)) ?_ ?_
  · obtain ⟨S, h1, h2, h3, h4⟩ := HX5.out
    have e2 : mdL (S 2) = [.string s, .int .u64 1] := by rw [h2]; rfl
    have e3 : mdL (S 3) = [.string ⟨#[]⟩, .int .u64 1] := by rw [h3]; rfl
    exact ⟨S, 0, Nat.zero_le _, rfl, rfl, rfl, rfl, rfl, rfl, rfl, rfl, rfl, rfl, h1, by rw [h2]; exact ⟨rfl, rfl⟩, by rw [h3]; exact ⟨rfl, rfl⟩, ⟨_, HR5.out.1, fun j v hv => by rw [e2] at hv; simpa using hv⟩, ⟨_, HR5.out.2, fun j v hv => by rw [e3] at hv; simpa using hv⟩, fun ho => (h4 _ ho).2.1 rfl, fun ho => (h4 _ ho).2.2 rfl, fun k hk => (h4 k hk).1, HB5.out⟩
  clear HX5 HR5 HB5
  rintro ⟨tm, df⟩ wr ⟨S, i, hil, hsz, hdf, t5, t6, t8, t10, t11, t60, t61, t62, his, d2, d3, rm, rk, fm, fk, hown, hB⟩
  have hdf : df = [] := hdf
  subst hdf
  obtain ⟨g, hg, hte⟩ := arr132 (t := tm) hsz
  subst hte
  clear hg hsz
  have t5 : g 5 = _ := t5
  have t6 : g 6 = _ := t6
  have t8 : g 8 = _ := t8
  have t10 : g 10 = _ := t10
  have t11 : g 11 = _ := t11
  have t60 : g 60 = _ := t60
  have t61 : g 61 = _ := t61
  have t62 : g 62 = _ := t62
  have HI : Aside (∀ o, isD Tryz.prog (.st (.ino S)) X (wr.alloc o) ∧ ∀ k, ownD Tryz.prog X (wr.alloc o) k ↔ ownD Tryz.prog X wr k) := fun o => isD_keep his fun k hk => ((Below.refl wr.heap.size wr).alloc (Nat.le_refl _) o).block k (ownD_lt hk)
  have HD : Aside (Doc (S 2) ∧ Doc (S 3)) := ⟨d2, d3⟩
  have HR : Aside (Row wr w4.heap.size 41 (mdL (S 2)) ∧ Row wr (w4.heap.size + 1) 41 (mdL (S 3))) := ⟨rm, rk⟩
  have HF : Aside (¬ ownD Tryz.prog X wr w4.heap.size ∧ ¬ ownD Tryz.prog X wr (w4.heap.size + 1)) := ⟨fm, fk⟩
  have HW : Aside (∀ k, ownD Tryz.prog X wr k → W.heap.size ≤ k) := hown
  have HB : Aside (Below W.heap.size W wr) := hB
  clear his d2 d3 rm rk fm fk hown hB
  by_cases hlt : i < len
  · have hd2 : decide ((i : Int) < (len : Int)) = true := decide_eq_true (by omega)
    obtain ⟨k, a, m, pl, t, st, hA, hpl, c0, c1, c2, c3, c4, c5⟩ := HA.out wr HB.out i hlt
    have c1 := cell_at c1
    have c2 := cell_at c2
    have c3 := cell_at c3
    have c4 := cell_at c4
    have c5 := cell_at c5
    show Code.wp _ (.seq _ (.seq _ (.seq (.block 1 (.seq _ mvsC)) _))) _ _ _
    go_wp2_with fail
    rename_i K2 hK2
    have hbm : w4.heap.size < wr.heap.size := by obtain ⟨cs, h1, _⟩ := HR.out.1; exact (Array.getElem?_eq_some_iff.1 h1).1
    have hbk : w4.heap.size + 1 < wr.heap.size := by obtain ⟨cs, h1, _⟩ := HR.out.2; exact (Array.getElem?_eq_some_iff.1 h1).1
    have hw4 := hw4.out
    have old : ∀ o k, k < wr.heap.size → (wr.alloc o).heap[k]? = wr.heap[k]? := fun o k hk => ((Below.refl wr.heap.size wr).alloc (Nat.le_refl _) o).block k hk
    have hJ' : ∀ act S' a' w', RoundM X w4.heap.size (w4.heap.size + 1) wr.heap.size (wr.alloc (Obj.cells #[Value.int IntKind.i64 k, Value.int IntKind.i64 a, Value.int IntKind.i64 m, Value.int IntKind.i64 pl, Value.string t, Value.int IntKind.u64 st] 51)) act S' a' w' → Aside (isD Tryz.prog (.st (.ino S')) X w' ∧ Doc (S' 2) ∧ Doc (S' 3) ∧ Row w' w4.heap.size 41 (mdL (S' 2)) ∧ Row w' (w4.heap.size + 1) 41 (mdL (S' 3)) ∧
        ¬ ownD Tryz.prog X w' w4.heap.size ∧ ¬ ownD Tryz.prog X w' (w4.heap.size + 1) ∧ (∀ k, ownD Tryz.prog X w' k → W.heap.size ≤ k) ∧ Below W.heap.size W w') := fun act S' a' w' hRd => by
      have hws : wr.heap.size ≤ (wr.alloc (Obj.cells #[Value.int IntKind.i64 k, Value.int IntKind.i64 a, Value.int IntKind.i64 m, Value.int IntKind.i64 pl, Value.string t, Value.int IntKind.u64 st] 51)).heap.size := ((Below.refl wr.heap.size wr).alloc (Nat.le_refl _) _).size
      have hWr := HB.out.size
      refine ⟨hRd.is, hRd.d2, hRd.d3, hRd.rm, hRd.rk, hRd.fm, hRd.fk, fun j hj => ?_, ⟨?_, ?_, ?_, Nat.le_trans hWr (Nat.le_trans hws hRd.but.size), fun j hj => ?_⟩⟩
      · rcases hRd.own j hj with h1 | h1 | h1
        · exact HW.out j (((HI.out _).2 _).1 h1)
        · omega
        · omega
      · exact hRd.but.os.trans HB.out.os
      · exact hRd.but.tape.trans HB.out.tape
      · exact hRd.but.output.trans HB.out.output
      · rw [hRd.but.block j (by omega) fun ho => ?_, old _ j (by omega), HB.out.block j hj]
        rcases ho with h1 | h1 | h1 | h1
        · have := HW.out j (((HI.out _).2 _).1 h1)
          omega
        · omega
        · omega
        · omega
    refine move_round (x := X) (bm := w4.heap.size) (bk := w4.heap.size + 1) (ba := wr.heap.size) (HI.out _).1 HD.out.1 HD.out.2 (HR.out.1.kept (old _ _ hbm)) (HR.out.2.kept (old _ _ hbk)) hA hpl ⟨_, ?_, fun j v hv => by rw [← hv]; exact (Array.getElem?_toList (xs := #[Value.int .i64 k, .int .i64 a, .int .i64 m, .int .i64 pl, .string t, .int .u64 st])).symm⟩ (fun ho => HF.out.1 (((HI.out _).2 _).1 ho)) (fun ho => HF.out.2 (((HI.out _).2 _).1 ho)) (fun ho => Nat.lt_irrefl _ (ownD_lt (((HI.out _).2 _).1 ho))) (by omega) (by omega) (by omega)
      rfl rfl rfl rfl rfl rfl ?_ ?_ ?_ (Nat.le_refl _) _ ?_ ?_ ?_
    · show (wr.heap.push _)[wr.heap.size]? = _
      rw [Array.getElem?_push, if_pos rfl]
    · rfl
    · rfl
    · rfl
    · rintro S' ⟨tm, df⟩ w' hRd
      show K2 ⟨tm, df⟩ w'
      refine hK2 _ _ ?_
      have hdf : df = [] := hRd.dfr
      subst hdf
      have u5 := hRd.t5
      have u6 := hRd.t6
      have u8 := hRd.t8
      have u10 := hRd.t10
      have u11 := hRd.t11
      have u60 : _ = Value.slice (some b) len cap := hRd.t60
      have u61 : _ = Value.int .i64 len := hRd.t61
      have u62 : _ = Value.int .i64 i := hRd.t62
      obtain ⟨g', hg', hte⟩ := arr132 (t := tm) hRd.size
      have hJ := hJ' _ S' ⟨tm, []⟩ w' hRd
      subst hte
      have u5 : g' 5 = _ := u5
      have u6 : g' 6 = _ := u6
      have u8 : g' 8 = _ := u8
      have u10 : g' 10 = _ := u10
      have u11 : g' 11 = _ := u11
      have u60 : g' 60 = _ := u60
      have u61 : g' 61 = _ := u61
      have u62 : g' 62 = _ := u62
      clear hJ' hRd hg' HI HD HR HF HW HB hbm hbk hw4 old c0 c1 c2 c3 c4 c5 hA hpl t5 t6 t8 t10 t11 t60 t61 hK2
      have hw : wrap64 ((i : Int) + 1) = ((i + 1 : Nat) : Int) := by unfold wrap64; unfold maxLen at hcap; omega
      go_wp2_with fail
      obtain ⟨j1, j2, j3, j4, j5, j6, j7, j8, j9⟩ := hJ.out
      refine And.intro ⟨S', i + 1, hlt, ?_, j1, j2, j3, j4, j5, j6, j7, j8, j9⟩ ?_
      · omega
      · simp only [hw, idxOf, t62, Int.toNat_natCast]
        omega
    · rintro S' ⟨tm, df⟩ w' hRd
      show K2 ⟨tm, df⟩ w'
      refine hK2 _ _ ?_
      have hdf : df = [] := hRd.dfr
      subst hdf
      have u5 := hRd.t5
      have u6 := hRd.t6
      have u8 := hRd.t8
      have u10 := hRd.t10
      have u11 := hRd.t11
      have u60 : _ = Value.slice (some b) len cap := hRd.t60
      have u61 : _ = Value.int .i64 len := hRd.t61
      have u62 : _ = Value.int .i64 i := hRd.t62
      obtain ⟨g', hg', hte⟩ := arr132 (t := tm) hRd.size
      have hJ := hJ' _ S' ⟨tm, []⟩ w' hRd
      subst hte
      have u5 : g' 5 = _ := u5
      have u6 : g' 6 = _ := u6
      have u8 : g' 8 = _ := u8
      have u10 : g' 10 = _ := u10
      have u11 : g' 11 = _ := u11
      have u60 : g' 60 = _ := u60
      have u61 : g' 61 = _ := u61
      have u62 : g' 62 = _ := u62
      clear hJ' hRd hg' HI HD HR HF HW HB hbm hbk hw4 old c0 c1 c2 c3 c4 c5 hA hpl t5 t6 t8 t10 t11 t60 t61 hK2
      have hw : wrap64 ((i : Int) + 1) = ((i + 1 : Nat) : Int) := by unfold wrap64; unfold maxLen at hcap; omega
      go_wp2_with fail
      obtain ⟨j1, j2, j3, j4, j5, j6, j7, j8, j9⟩ := hJ.out
      refine And.intro ⟨S', i + 1, hlt, ?_, j1, j2, j3, j4, j5, j6, j7, j8, j9⟩ ?_
      · omega
      · simp only [hw, idxOf, t62, Int.toNat_natCast]
        omega
    · intro S' a' w' hRd h4
      obtain ⟨j1, j2, j3, j4, j5, j6, j7, j8, j9⟩ := (hJ' _ S' a' w' hRd).out
      show bodyPost Tryz.prog Tryz.f5 (fun e w' => e = .returned (.bool true) ∧ Below W.heap.size W w') .ret a' w'
      exact bodyPost_ret (v := .bool true) (by rw [results_tmp (t := 4) rfl, h4]) hRd.dfr ⟨rfl, j9⟩
  · have hd2 : decide ((i : Int) < (len : Int)) = false := decide_eq_false (by omega)
    clear HI HD HR HF HW
    go_wp2_with fail
    refine HK.out _ _ ?_
    clear HK
    go_wp2_with fail
    go_ret
    exact ⟨rfl, HB.out⟩
set_option maxHeartbeats 8000000 in
theorem moves_nil (s : ByteArray) (W : World) : Calls Tryz.prog 5 #[.string s, .slice none 0 0] W fun e w' => e = .returned (.bool true) ∧ Below W.heap.size W w' := by
  go_enter Tryz.func5, Tryz.ntmps5
  go_wp2_with fail
  refine Calls.mono (begun_any _) ?_
  rintro e w1 ⟨X, rfl, hX, hown, hB1⟩
  have HX : Aside (isD Tryz.prog (.st (.ino S0)) X w1) := hX
  have HO : Aside _ := hown
  clear hX hown
  go_wp2_with fail
  refine Calls.mono (awake_true _) ?_
  rintro e w2 ⟨rfl, hB2⟩
  have HB2 : Aside (Below W.heap.size W w2) := hB1.trans (hB2.mono hB1.size)
  have HX2 : Aside (isD Tryz.prog (.st (.ino S0)) X w2 ∧ ∀ k, ownD Tryz.prog X w2 k → W.heap.size ≤ k) := by
    obtain ⟨h1, h2⟩ := isD_keep HX.out fun k hk => hB2.block k (ownD_lt hk)
    exact ⟨h1, fun k hk => HO.out k ((h2 k).1 hk)⟩
  clear hB1 hB2 HX HO
  have out : ∀ w3, Below W.heap.size W w3 → Calls Tryz.prog 9 #[] w3 fun e w4 => e = .returned (.bool true) ∧ Below W.heap.size W w4 := fun w3 h3 => (awake_true w3).mono fun e w4 ⟨h4, h5⟩ => ⟨h4, h3.trans (h5.mono h3.size)⟩
  have HOut : Aside _ := out
  clear out
  cases hg1 : decide ((s.size : Int) > 20000)
  rotate_left
  · go_wp2_with fail
    refine Calls.mono (HOut.out w2 HB2.out) ?_
    rintro e w4 ⟨rfl, hB4⟩
    have HB4 : Aside (Below W.heap.size W w4) := hB4
    clear hB4
    go_wp2_with fail
    go_ret
    exact ⟨rfl, HB4.out⟩
  have hsz : (s.size : Int) ≤ 20000 := Int.not_lt.1 (of_decide_eq_false hg1)
  go_wp2_with fail
  refine Calls.mono (ino_make HX2.out.1 (.inl rfl) (st := 1) (by decide)) ?_
  rintro e w4 ⟨u, d, rfl, hm, his, ho4, hb4⟩
  unfold MadeQ at hm
  rw [free_S0, if_pos (by decide)] at hm
  obtain ⟨rfl, rfl⟩ := hm
  have HB4 : Aside (Below W.heap.size W w4) := ⟨hb4.os.trans HB2.out.os, hb4.tape.trans HB2.out.tape, hb4.output.trans HB2.out.output, Nat.le_trans HB2.out.size hb4.size, fun k hk => by
    rw [← HB2.out.block k hk]
    refine hb4.block k (Nat.lt_of_lt_of_le hk HB2.out.size) fun ho => ?_
    have := HX2.out.2 k ho
    omega⟩
  have HX4 : Aside (isD Tryz.prog (.st (.ino (updS S0 3 (madeN 1 1)))) X w4 ∧ ∀ k, ownD Tryz.prog X w4 k → W.heap.size ≤ k) := ⟨his, fun k hk => (ho4 k hk).elim (HX2.out.2 k) fun e => Nat.le_trans HB2.out.size e⟩
  clear his ho4 hb4 HX2 HB2 HOut
  go_wp2_with fail
  have hN : Below w4.heap.size w4 ((w4.alloc (Obj.cells #[Value.string s, Value.int IntKind.u64 1] 41)).alloc (Obj.cells #[Value.string { data := #[] }, Value.int IntKind.u64 1] 41)) := ((Below.refl _ _).alloc (Nat.le_refl _) _).alloc (by simp) _
  have hwr := file_write (n := 2) (a := 0) (s := s) (st := 1) (isD_keep HX4.out.1 fun k hk => hN.block k (ownD_lt hk)).1 ⟨by decide, rfl⟩ ⟨by decide, by decide⟩ (by decide)
  have hn := (isD_keep HX4.out.1 fun k hk => hN.block k (ownD_lt hk)).2
  refine Calls.mono hwr ?_
  rintro e w5 ⟨u, d, rfl, hm, his, ho5, hb5⟩
  rw [if_pos ⟨Int.le_refl _, by omega⟩] at hm
  obtain ⟨rfl, rfl⟩ := hm
  have e5 : (updS (updS S0 3 (madeN 1 1)) 2 (wrN (updS S0 3 (madeN 1 1) 2) (0 : Int).toNat s.data.toList 1)) 2 = ⟨1, 1, 1, s.data.toList⟩ := by
    rw [updS_at]
    show wrN ⟨1, 1, 1, []⟩ 0 s.data.toList 1 = _
    unfold wrN
    split
    · rename_i e; rw [e]
    · rw [write_none]
  have HX5 : Aside (∃ S, isD Tryz.prog (.st (.ino S)) X w5 ∧ S 2 = ⟨1, 1, 1, s.data.toList⟩ ∧ S 3 = ⟨1, 1, 1, []⟩ ∧ ∀ k, ownD Tryz.prog X w5 k → W.heap.size ≤ k ∧ k ≠ w4.heap.size ∧ k ≠ w4.heap.size + 1) := by
    refine ⟨_, his, e5, rfl, fun k hk => ?_⟩
    rcases ho5 k hk with h1 | h1
    · have h2 := HX4.out.2 k ((hn k).1 h1)
      have h3 := ownD_lt ((hn k).1 h1)
      omega
    · have h2 : (((w4.alloc (Obj.cells #[Value.string s, Value.int IntKind.u64 1] 41)).alloc (Obj.cells #[Value.string { data := #[] }, Value.int IntKind.u64 1] 41))).heap.size = w4.heap.size + 2 := by simp
      have := HB4.out.size
      omega
  have HR5 : Aside (w5.heap[w4.heap.size]? = some (.cells #[.string s, .int .u64 1] 41 (0, 0)) ∧ w5.heap[w4.heap.size + 1]? = some (.cells #[.string ⟨#[]⟩, .int .u64 1] 41 (0, 0))) := by
    have h2 : (((w4.alloc (Obj.cells #[Value.string s, Value.int IntKind.u64 1] 41)).alloc (Obj.cells #[Value.string { data := #[] }, Value.int IntKind.u64 1] 41))).heap.size = w4.heap.size + 2 := by simp
    constructor
    · rw [hb5.block w4.heap.size (by omega) fun ho => Nat.lt_irrefl _ (ownD_lt ((hn _).1 ho))]
      show ((w4.heap.push _).push _)[w4.heap.size]? = _
      rw [Array.getElem?_push, if_neg (by simp), Array.getElem?_push, if_pos rfl]
    · rw [hb5.block (w4.heap.size + 1) (by omega) fun ho => by have := ownD_lt ((hn _).1 ho); omega]
      show ((w4.heap.push _).push _)[w4.heap.size + 1]? = _
      rw [Array.getElem?_push, if_pos (by simp)]
  have HB5 : Aside (Below W.heap.size W w5) := by
    have hN2 := HB4.out.trans (hN.mono HB4.out.size)
    refine ⟨hb5.os.trans hN2.os, hb5.tape.trans hN2.tape, hb5.output.trans hN2.output, Nat.le_trans hN2.size hb5.size, fun k hk => ?_⟩
    rw [← hN2.block k hk]
    refine hb5.block k (Nat.lt_of_lt_of_le hk hN2.size) fun ho => ?_
    have := HX4.out.2 k ((hn k).1 ho)
    omega
  have hw4 : Hid (W.heap.size ≤ w4.heap.size) := HB4.out.size
  clear hN hwr hn his ho5 hb5 e5 HX4 HB4
  go_wp2_with fail
  rename_i K hK
  have HK : Aside _ := hK
  clear hK
  refine wp_loop (fun act wr => ∃ (S : Int → Nd) (i : Nat), i ≤ 0 ∧ act.tmps.size = 132 ∧ act.defers = [] ∧ act.tmps.getD 5 undef = .pointer (some ⟨X, 0, none⟩) ∧ act.tmps.getD 6 undef = .int .i64 2 ∧ act.tmps.getD 8 undef = .int .i64 3 ∧ act.tmps.getD 10 undef = .pointer (some ⟨w4.heap.size, 0, none⟩) ∧ act.tmps.getD 11 undef = .pointer (some ⟨w4.heap.size + 1, 0, none⟩) ∧
      act.tmps.getD 60 undef = .slice none 0 0 ∧ act.tmps.getD 61 undef = .int .i64 0 ∧ act.tmps.getD 62 undef = .int .i64 i ∧ isD Tryz.prog (.st (.ino S)) X wr ∧ Doc (S 2) ∧ Doc (S 3) ∧ Row wr w4.heap.size 41 (mdL (S 2)) ∧ Row wr (w4.heap.size + 1) 41 (mdL (S 3)) ∧
      ¬ ownD Tryz.prog X wr w4.heap.size ∧ ¬ ownD Tryz.prog X wr (w4.heap.size + 1) ∧ (∀ k, ownD Tryz.prog X wr k → W.heap.size ≤ k) ∧ Below W.heap.size W wr)
    (fun act _ => 0 - idxOf (act.tmps.getD 62 undef)) ?_ ?_
  · obtain ⟨S, h1, h2, h3, h4⟩ := HX5.out
    have e2 : mdL (S 2) = [.string s, .int .u64 1] := by rw [h2]; rfl
    have e3 : mdL (S 3) = [.string ⟨#[]⟩, .int .u64 1] := by rw [h3]; rfl
    exact ⟨S, 0, Nat.zero_le _, rfl, rfl, rfl, rfl, rfl, rfl, rfl, rfl, rfl, rfl, h1, by rw [h2]; exact ⟨rfl, rfl⟩, by rw [h3]; exact ⟨rfl, rfl⟩, ⟨_, HR5.out.1, fun j v hv => by rw [e2] at hv; simpa using hv⟩, ⟨_, HR5.out.2, fun j v hv => by rw [e3] at hv; simpa using hv⟩, fun ho => (h4 _ ho).2.1 rfl, fun ho => (h4 _ ho).2.2 rfl, fun k hk => (h4 k hk).1, HB5.out⟩
  clear HX5 HR5 HB5
  rintro ⟨tm, df⟩ wr ⟨S, i, hil, hsz, hdf, t5, t6, t8, t10, t11, t60, t61, t62, his, d2, d3, rm, rk, fm, fk, hown, hB⟩
  have hdf : df = [] := hdf
  subst hdf
  obtain ⟨g, hg, hte⟩ := arr132 (t := tm) hsz
  subst hte
  clear hg hsz
  have t5 : g 5 = _ := t5
  have t6 : g 6 = _ := t6
  have t8 : g 8 = _ := t8
  have t10 : g 10 = _ := t10
  have t11 : g 11 = _ := t11
  have t60 : g 60 = _ := t60
  have t61 : g 61 = _ := t61
  have t62 : g 62 = _ := t62
  have HI : Aside (∀ o, isD Tryz.prog (.st (.ino S)) X (wr.alloc o) ∧ ∀ k, ownD Tryz.prog X (wr.alloc o) k ↔ ownD Tryz.prog X wr k) := fun o => isD_keep his fun k hk => ((Below.refl wr.heap.size wr).alloc (Nat.le_refl _) o).block k (ownD_lt hk)
  have HD : Aside (Doc (S 2) ∧ Doc (S 3)) := ⟨d2, d3⟩
  have HR : Aside (Row wr w4.heap.size 41 (mdL (S 2)) ∧ Row wr (w4.heap.size + 1) 41 (mdL (S 3))) := ⟨rm, rk⟩
  have HF : Aside (¬ ownD Tryz.prog X wr w4.heap.size ∧ ¬ ownD Tryz.prog X wr (w4.heap.size + 1)) := ⟨fm, fk⟩
  have HW : Aside (∀ k, ownD Tryz.prog X wr k → W.heap.size ≤ k) := hown
  have HB : Aside (Below W.heap.size W wr) := hB
  clear his d2 d3 rm rk fm fk hown hB
  obtain rfl : i = 0 := by omega
  · have hd2 : decide (((0 : Nat) : Int) < ((0 : Nat) : Int)) = false := rfl
    clear HI HD HR HF HW
    go_wp2_with fail
    refine HK.out _ _ ?_
    clear HK
    go_wp2_with fail
    go_ret
    exact ⟨rfl, HB.out⟩
theorem moves_true (s : ByteArray) {v : Value} {W : World} (h : MovesAt W v) : Calls Tryz.prog 5 #[.string s, v] W fun e w' => e = .returned (.bool true) ∧ Below W.heap.size W w' := by
  rcases h with rfl | ⟨b, len, cap, rfl, h1, h2, h3⟩
  · exact moves_nil s W
  · exact moves_some s b len cap h1 h2 W h3
end Go.Proofs.YtcnimekhpnejlaaGreat.Ev
