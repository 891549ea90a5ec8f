/- Texts of this seat joined into one: J1, J2, Wh, W1T, W1, W2, W3. -/
import Derived.Test.YtcnimekhpnejlaaGreatVFileBack13
import Derived.Maps.RangeWalk
import Derived.Test.YtcnimekhpnejlaaGreatVFileBack6
import Derived.Test.YtcnimekhpnejlaaGreatVFileBack12

/- Inodes: Clone, walked. -/
namespace Go.Proofs.YtcnimekhpnejlaaGreat.Ev
open Go Go.RowKit
set_option linter.unusedVariables false
set_option linter.unusedSimpArgs false
set_option maxRecDepth 100000

/-- A round of Clone. -/
theorem clo_round {w wr : World} {x m y my : Nat} {S : Int → Nd} {L Lx Ly : LL} {left : Int → Bool} (h : Clos w x m S L y my wr Lx Ly left) {n : Int} {t : Nat × Nat × Nat} (ht : Lx n = some t) (hl : left n = true) {r : Nat} {a : Act} (s3 : a.tmps.getD 3 undef = .pointer (some ⟨y, 0, none⟩)) (s4 : a.tmps.getD 4 undef = .int .i64 n)
    (s5 : a.tmps.getD 5 undef = .pointer (some ⟨t.1, 0, none⟩)) (s17 : a.tmps.getD 17 undef = .pointer (some ⟨r, 0, none⟩)) (hN : 37 ≤ a.tmps.size) (Q : Exit → Act → World → Prop)
    (hQ : ∀ a4 w4 Lx' Ly', a4.tmps.size = a.tmps.size → a4.defers = a.defers → a4.tmps.getD 3 undef = .pointer (some ⟨y, 0, none⟩) → a4.tmps.getD 17 undef = .pointer (some ⟨r, 0, none⟩) → Clos w x m S L y my w4 Lx' Ly' (fun k => left k && decide (k ≠ n)) →
      (∀ k, k < wr.heap.size → ¬ ownBlk x m Lx k → ¬ ownBlk y my Ly k → ¬ ownBlk x m Lx' k ∧ ¬ ownBlk y my Ly' k) → (∀ k, k < wr.heap.size → k = m ∨ (¬ ownBlk x m Lx k ∧ ¬ ownBlk y my Ly k) → w4.heap[k]? = wr.heap[k]?) → Q .normal a4 w4) :
    cloC.wp Tryz.prog Q a wr := by
  obtain ⟨c, hc, hr⟩ := clo_open h ht (.pointer (some ⟨r, 0, none⟩))
  have htm : RelT (envL [my, y, t.1, t.2.1] (rhoV (ofL (inoV (fun k => (Ly k).map (·.1)) n (S n) [])) (cloO c (.pointer (some ⟨r, 0, none⟩))))) cloS.tm a.tmps := by
    refine RelT.also (d := 17) (x := EV.a (.s (.op 1))) (RelT.also (d := 5) (x := EV.a (.s (.ptr 2 0))) (RelT.also (d := 4) (x := EV.a (.s (.xi .i64 (.va 1)))) (RelT.also (d := 3) (x := EV.a (.s (.ptr 1 0))) RelT.nil ?_) ?_) ?_) ?_
    · rw [s3]
      exact ⟨⟨y, 0, 0⟩, envL_at rfl, rfl⟩
    · rw [s4]
      exact (rfl : Value.int .i64 n = _)
    · rw [s5]
      exact ⟨⟨t.1, 0, 0⟩, envL_at rfl, rfl⟩
    · rw [s17]
      exact (⟨rfl, rfl⟩ : _ ∧ _)
  obtain ⟨z0, hz0, htz, hcode⟩ := ways_code (rules_ok (base_ok _ _)) (fun pc hpc => sumH_ok hpc) (clo_ev _) hr rfl (envL_fresh _ _) htm hN
  have hn := h.xs.num n t ht
  obtain ⟨ρ, hρ⟩ : ∃ ρ, ρ = rhoV (ofL (inoV (fun k => (Ly k).map (·.1)) n (S n) [])) (cloO c (.pointer (some ⟨r, 0, none⟩))) := ⟨_, rfl⟩
  rw [← hρ] at htz
  have h1 : X.int ρ (.va 1) = n := by rw [hρ]; rfl
  have h36 : X.bool ρ (.app 36 (.va 2)) = true := by rw [hρ]; rfl
  simp only [cloL, List.mem_cons, List.not_mem_nil, or_false] at hz0
  rcases hz0 with rfl | rfl | rfl | rfl <;> simp only [told_cons, told_nil, lt_true, lt_false, h1, h36, li_int, and_true, true_and, reduceCtorEq, false_and, and_false] at htz
  · omega
  · omega
  · refine hcode _ rfl _ ?_
    clear hcode
    intro q hq E' a4 w4 s4 hg htm4 hsz hdf hv1 hv2
    obtain rfl := List.mem_singleton.1 hq
    have t3 := (List.cons.inj hv1).1.symm
    have t17 := (List.cons.inj (List.cons.inj hv1).2).1.symm
    have v0 := (List.cons.inj hv2).1.symm
    have r1 := (List.cons.inj hv2).2
    have v1 := (List.cons.inj r1).1.symm
    have r2 := (List.cons.inj r1).2
    have v2 := (List.cons.inj r2).1.symm
    have r3 := (List.cons.inj r2).2
    have v3 := (List.cons.inj r3).1.symm
    have r4 := (List.cons.inj r3).2
    have v4 := (List.cons.inj r4).1.symm
    have v5 := (List.cons.inj (List.cons.inj r4).2).1.symm
    obtain ⟨⟨Lx', Ly', hC, hno⟩, hfr, hs⟩ := clo_step h ht hl hc hg v0 v1 v2 v3 v4 v5
    refine hQ a4 w4 Lx' Ly' hsz hdf ?_ ?_ hC hno hfr
    · obtain ⟨q0, hq0, e⟩ := slot_of_view htm4 t3
      have m1 : E'.m 1 = some ⟨y, 0, 0⟩ := hg.ext.m _ _ (envL_at rfl)
      rw [m1] at hq0
      obtain rfl := Option.some.inj hq0
      exact e
    · obtain ⟨e, _⟩ := slot_of_view htm4 t17
      have hρ' : E'.ρ = _ := hg.ext.ρ
      rw [e, hρ']
      rfl

set_option maxHeartbeats 4000000 in
theorem ino_clone {w : World} {x : Nat} {S : Int → Nd} (hx : isD Tryz.prog (.st (.ino S)) x w) : Calls Tryz.prog 19 #[.pointer (some ⟨x, 0, none⟩)] w fun en w' => ∃ a, en = .returned (.pointer (some ⟨a, 0, none⟩)) ∧ isD Tryz.prog (.st (.ino S)) x w' ∧ (∀ k, ownD Tryz.prog x w' k → ownD Tryz.prog x w k ∨ w.heap.size ≤ k) ∧
    isD Tryz.prog (.st (.ino S)) a w' ∧ w.heap.size ≤ a ∧ (∀ k, ownD Tryz.prog a w' k → (ownD Tryz.prog x w k ∨ w.heap.size ≤ k) ∧ ¬ ownD Tryz.prog x w' k) ∧ But (ownD Tryz.prog x w) w w' := by
  obtain ⟨m, L, h⟩ := hx
  obtain ⟨c, hc, hopen⟩ := ino_none h
  have hr := hopen []
  go_enter Tryz.func19, Tryz.ntmps19
  have htm0 : ∀ ρ, RelT (envL [x, m] ρ) clbS.tm ((Value.pointer (some ⟨x, 0, none⟩) :: List.replicate 36 undef).toArray) := fun ρ => RelT.also (d := 0) (x := EV.a (.s (.ptr 0 0))) RelT.nil (show ∃ p, (envL [x, m] ρ).m 0 = some p ∧ _ = Value.pointer (some ⟨p.blk, p.dl + 0, none⟩) from ⟨⟨x, 0, 0⟩, envL_at rfl, rfl⟩)
  obtain ⟨y0, hy0, ht0, hpre⟩ := ways_prefix (rules_ok (base_ok _ _)) (fun pc hpc => sumH_ok hpc) (clb_ev _) hr rfl (envL_fresh _ _) (a := ⟨((Value.pointer (some ⟨x, 0, none⟩) :: List.replicate 36 undef).toArray), []⟩) (htm0 _) (by rw [List.size_toArray, List.length_cons, List.length_replicate]; exact Nat.le_refl _)
  simp only [clbL, List.mem_cons, List.not_mem_nil, or_false] at hy0
  subst hy0
  refine hpre _ rfl _ _ ?_
  clear hpre
  intro q hq E' a1 w1 s1 hg htm hsz hdf hv1 hv2
  obtain rfl := List.mem_singleton.1 hq
  have s0 := (List.cons.inj hv1).1.symm
  have s3 := (List.cons.inj (List.cons.inj hv1).2).1.symm
  have v0 := (List.cons.inj hv2).1.symm
  have r1 := (List.cons.inj hv2).2
  have v1 := (List.cons.inj r1).1.symm
  have r2 := (List.cons.inj r1).2
  have v2 := (List.cons.inj r2).1.symm
  have v3 := (List.cons.inj (List.cons.inj r2).2).1.symm
  obtain ⟨y, my, p, m0, hp, hpd, hpy, hy, hmy, hC⟩ := clo_begin h hc hg v0 v1 v2 v3
  have e0 : a1.tmps.getD 0 undef = .pointer (some ⟨x, 0, none⟩) := by
    obtain ⟨q0, hq0, e⟩ := slot_of_view htm s0
    rw [m0] at hq0
    obtain rfl := Option.some.inj hq0
    exact e
  have e3 : a1.tmps.getD 3 undef = .pointer (some ⟨y, 0, none⟩) := by
    obtain ⟨q0, hq0, e⟩ := slot_of_view htm s3
    rw [hp] at hq0
    obtain rfl := Option.some.inj hq0
    rw [e, hpd, hpy]
  obtain ⟨tm1, df1⟩ := a1
  have hdf : df1 = [] := hdf
  subst hdf
  obtain ⟨g, hgd, hte⟩ := arr37 (t := tm1) hsz
  have f0 : g 0 = .pointer (some ⟨x, 0, none⟩) := (hgd 0).symm.trans e0
  have f3 : g 3 = .pointer (some ⟨y, 0, none⟩) := (hgd 3).symm.trans e3
  clear e0 e3
  subst hte
  clear hgd htm hsz s0 s3 v0 v1 v2 v3 r1 r2 hv1 hv2 hq hg m0 hp hpd hpy ht0 hr hopen
  show Code.wp _ _ _ _ _
  rw [f0, f3]
  obtain ⟨w2, hrange, ⟨cnt, hR⟩, hgr, hsz2⟩ := hC.xs.map.range und_int und_works
  obtain ⟨cx, hcx, hrx⟩ := hC.xs.cell
  have hcell := row_map hrx
  have hC2 : Clos w x m S L y my w2 L (fun _ => none) (fun k => (L k).isSome) := by
    refine hC.kept (fun k hk => ?_) (fun k hk => ?_) ?_
    · exact hgr.block k (hC.xs.lt hk) (by simp)
    · exact hgr.block k (hC.ys.lt hk) (by simp)
    · exact hC.but.trans (But.new ⟨hgr.os, hgr.tape, hgr.output, hgr.size, fun k hk => hgr.block k hk (by simp)⟩)
  have hrn : ∀ k, ownBlk x m L k ∨ ownBlk y my (fun _ => none) k → k ≠ w1.heap.size := fun k hk e => by
    rcases hk with hk | hk
    · have := hC.xs.lt hk
      omega
    · have := hC.ys.lt hk
      omega
  have hrw : w.heap.size ≤ w1.heap.size := hC.but.size
  generalize w1.heap.size = r at *
  clear hgr hsz2
  go_wp2_with fail
  have hrn0 : ∀ k, (L k).isSome = ((fun n => (L n).map (·.1)) k).isSome := fun k => by simp
  have hR0 : RangeI elPtr Tryz.prog 3 w2 m r 4096 (fun n => (L n).map (·.1)) (fun k => (L k).isSome) cnt := by
    rw [show (fun k => (L k).isSome) = fun k => ((fun n => (L n).map (·.1)) k).isSome from funext hrn0]
    exact hR
  refine wp_loop (fun a wr => ∃ g : Nat → Value, a = ⟨(g 0 :: g 1 :: g 2 :: g 3 :: g 4 :: g 5 :: g 6 :: g 7 :: g 8 :: g 9 :: g 10 :: g 11 :: g 12 :: g 13 :: g 14 :: g 15 :: g 16 :: g 17 :: g 18 :: g 19 :: g 20 :: g 21 :: g 22 :: g 23 :: g 24 :: g 25 :: g 26 :: g 27 :: g 28 :: g 29 :: g 30 :: g 31 :: g 32 :: g 33 :: g 34 :: g 35 :: g 36 :: []).toArray, []⟩ ∧ g 3 = .pointer (some ⟨y, 0, none⟩) ∧ g 17 = .pointer (some ⟨r, 0, none⟩) ∧ ∃ Lx Ly left cnt, Clos w x m S L y my wr Lx Ly left ∧ RangeI elPtr Tryz.prog 3 wr m r 4096 (fun n => (L n).map (·.1)) left cnt ∧ (∀ k, ownBlk x m Lx k ∨ ownBlk y my Ly k → k ≠ r) ∧ w.heap.size ≤ r)
    (fun _ wr => wr.rangeLeft m r) ⟨fun i => ((Value.pointer (some ⟨x, 0, none⟩)) :: g 1 :: g 2 :: (Value.pointer (some ⟨y, 0, none⟩)) :: g 4 :: g 5 :: g 6 :: g 7 :: g 8 :: g 9 :: g 10 :: g 11 :: g 12 :: (Value.pointer (some ⟨x, 0, none⟩)) :: (Value.pointer (some ⟨x, 0, none⟩)) :: (Value.pointer (some ⟨x, 36, none⟩)) :: (Value.map (some m)) :: (Value.pointer (some ⟨r, 0, none⟩)) :: g 18 :: g 19 :: g 20 :: g 21 :: g 22 :: g 23 :: g 24 :: g 25 :: g 26 :: g 27 :: g 28 :: g 29 :: g 30 :: g 31 :: g 32 :: g 33 :: g 34 :: g 35 :: g 36 :: []).getD i undef, rfl, rfl, rfl, L, _, _, cnt, hC2, hR0, hrn, hrw⟩ ?_
  clear hR hR0 hrn hC2 hC hrange hcell hrx hcx f0 f3
  clear g cnt w2 w1
  rintro _ wr ⟨g, rfl, f3, f17, Lx, Ly, left, cnt, hC, hR, hrn, hrw⟩
  rw [f3, f17]
  rcases hR.next und_int 0 with ⟨h0, hall, hnext⟩ | ⟨i, a, w3, cnt', hl, ha, hnext, hR3, hlt, hgr, hsz, hentry⟩
  · go_wp2_with fail
    go_ret
    have hS : seenS S Ly = S := by
      funext k
      have h1 := hC.seen k
      rw [hall k] at h1
      unfold seenS
      cases hL : L k with
      | some t => rw [hL] at h1; rw [if_pos (by simpa using h1)]
      | none => rw [hL] at h1; rw [if_neg (by rw [h1]; simp), h.off k hL]
    have hy2 := hC.ys
    rw [hS] at hy2
    refine ⟨y, rfl, ⟨m, Lx, hC.xs⟩, fun k hk => ?_, ⟨my, Ly, hy2⟩, hy, fun k hk => ⟨?_, fun ho => ?_⟩, ?_⟩
    · exact (hC.xown k ((ownD_ino hC.xs k).1 hk)).imp (fun ho => (ownD_ino h k).2 ho) id
    · exact (hC.yown k ((ownD_ino hy2 k).1 hk)).1.imp (fun ho => (ownD_ino h k).2 ho) id
    · exact (hC.yown k ((ownD_ino hy2 k).1 hk)).2 ((ownD_ino hC.xs k).1 ho)
    · exact hC.but.mono fun k _ ho => (ownD_ino h k).2 ho
  · have ha : (L i).map (·.1) = some a := ha
    rw [← hC.same i] at ha
    obtain ⟨t, ht, rfl⟩ := Option.map_eq_some_iff.1 ha
    have hC3 : Clos w x m S L y my w3 Lx Ly left := by
      refine hC.kept (fun k hk => ?_) (fun k hk => ?_) ?_
      · exact hgr.block k (hC.xs.lt hk) (fun e => hrn k (.inl hk) (Option.some.inj e))
      · exact hgr.block k (hC.ys.lt hk) (fun e => hrn k (.inr hk) (Option.some.inj e))
      · refine ⟨hgr.os.trans hC.but.os, hgr.tape.trans hC.but.tape, hgr.output.trans hC.but.output, Nat.le_trans hC.but.size hgr.size, fun k hk hn => ?_⟩
        rw [← hC.but.block k hk hn]
        refine hgr.block k (Nat.lt_of_lt_of_le hk hC.but.size) fun e => ?_
        obtain rfl := Option.some.inj e
        omega
    go_wp2_with fail
    refine clo_round hC3 ht hl rfl rfl rfl rfl (Nat.le_refl _) _ fun a4 w4 Lx' Ly' hsz4 hdf4 q3 q17 hC4 hno4 hfr4 => ?_
    have nr : ¬ ownBlk x m Lx r ∧ ¬ ownBlk y my Ly r := ⟨fun ho => hrn r (.inl ho) rfl, fun ho => hrn r (.inr ho) rfl⟩
    have hml : m < w3.heap.size := hC3.xs.lt (.inr (.inl rfl))
    have hR4 := hR3.kept (hfr4 m hml (.inl rfl)) (hfr4 r hR3.lt (.inr nr))
    obtain ⟨tm4, df4⟩ := a4
    have hdf4 : df4 = [] := hdf4
    subst hdf4
    obtain ⟨g4, hg4, hte4⟩ := arr37 (t := tm4) hsz4
    have k3 : g4 3 = .pointer (some ⟨y, 0, none⟩) := (hg4 3).symm.trans q3
    have k17 : g4 17 = .pointer (some ⟨r, 0, none⟩) := (hg4 17).symm.trans q17
    refine And.intro ⟨g4, by rw [hte4], k3, k17, Lx', Ly', _, cnt', hC4, hR4, fun k hk e => ?_, hrw⟩ ?_
    · subst e
      have := hno4 k hR3.lt nr.1 nr.2
      exact hk.elim this.1 this.2
    · rw [hR4.left_eq, hR.left_eq]
      exact hlt
end Go.Proofs.YtcnimekhpnejlaaGreat.Ev

/- file.whole, walked. -/
namespace Go.Proofs.YtcnimekhpnejlaaGreat.Ev
open Go Go.RowKit
set_option linter.unusedVariables false
set_option linter.unusedSimpArgs false
set_option maxRecDepth 100000

theorem run_loadVar_pre {P : Program} (w : World) (g : Nat) (ty : TypeId) (vs : List Value) (d : TypeDesc) (hc : ∀ (j : Nat) v, vs[j]? = some v → w.cell? ⟨g, j, none⟩ = some v)
    (hu : P.underlying ty = some d) (hd : (match d with | .struct _ | .array _ _ => true | _ => false) = true) (hi : (P.info? ty).map (·.size) = some vs.length) :
    (loadVar ty ⟨g, 0, none⟩).run P w = .ok (.agg vs.toArray) w := by
  have hl : (loadCells ⟨g, 0, none⟩ vs.length).run P w = .ok vs.toArray w :=
    run_loadCells_list (P := P) w ⟨g, 0, none⟩ vs (fun j v hv => by
      have hadd : (⟨g, 0, none⟩ : Addr).add j = ⟨g, j, none⟩ := by unfold Addr.add; split <;> simp_all
      rw [hadd]
      exact hc j v hv)
  cases hq : P.info? ty with
  | none => simp [hq] at hi
  | some i =>
    have hs : i.size = vs.length := by simpa [hq] using hi
    have hagg : (isAgg ty).run P w = .ok true w := by
      unfold isAgg
      rw [Sem.run_bind, run_underlying hu w]
      cases d <;> simp_all
    simp [loadVar, hagg, Go.sizeOf, typeInfo, hq, hs, hl]
theorem wpList_load_pre {P : Program} {ops : Array Oper} {rest : List Oper} {o : Oper} {a : Act} {w : World} {Q : Exit → Act → World → Prop} (hgd : o.guard = none) (ty : TypeId) (x : Operand) (ho : o.op = .load ty x)
    (g : Nat) (hx : a.eval x = .pointer (some ⟨g, 0, none⟩)) (vs : List Value) (d : TypeDesc) (hc : ∀ (j : Nat) v, vs[j]? = some v → w.cell? ⟨g, j, none⟩ = some v)
    (hu : P.underlying ty = some d) (hd : (match d with | .struct _ | .array _ _ => true | _ => false) = true) (hi : (P.info? ty).map (·.size) = some vs.length)
    (h : wpList P ops Q rest (a.put o.dst (.agg vs.toArray)) w) : wpList P ops Q (o :: rest) a w :=
  wpList_plain hgd fun K hK => by
    unfold Oper.wp execOp
    simp only [ho, hx, Instr.loadAt, Instr.sureAddr, Sem.run_bind, Sem.run_pure, Result.andThen_ok, run_loadVar_pre w g ty vs d hc hu hd hi]
    exact hK _ _ h
theorem inoCells_len (c : Value) (m : Nat) : (inoCells c m).length = 37 := rfl
theorem inoCells_one {c : Value} (hc : c.oneCell' = true) (m : Nat) : ∀ v ∈ inoCells c m, v.oneCell' = true := fun v hv => by
  unfold inoCells treeZ sumZ at hv
  simp only [List.mem_cons, List.mem_append, List.mem_replicate, List.not_mem_nil, or_false] at hv
  rcases hv with rfl | (rfl | rfl | ⟨_, rfl⟩) | rfl | rfl
  · exact hc
  all_goals rfl
theorem info_ino : (Tryz.prog.info? 107).map (·.size) = some 37 := by kernel_rfl
set_option maxHeartbeats 4000000 in
theorem whole_any (x f : Nat) (cb : Array Value) (w : World) (R : Ending → World → Prop) (eg : ∀ args w, (callFunc f args).run Tryz.prog w = .ok (.enter f args) w)
    (h : Calls Tryz.prog 19 #[.pointer (some ⟨x, 0, none⟩)] w fun en w1 => ∃ a, en = .returned (.pointer (some ⟨a, 0, none⟩)) ∧ Calls Tryz.prog f (#[.pointer (some ⟨a, 0, none⟩)] ++ cb) w1 fun en2 w2 => ∃ n : Int, en2 = .returned (.int .i64 n) ∧
      (n ≠ 0 → R (.returned (.int .i64 n)) w2) ∧
      (n = 0 → ∃ cx cy mx my, cx.oneCell' = true ∧ cy.oneCell' = true ∧ Row w2 x 107 (inoCells cx mx) ∧ Row w2 a 107 (inoCells cy my) ∧ x ≠ a ∧ ∀ w3, Touch x w2 w3 → Row w3 x 107 (inoCells cy my) → R (.returned (.int .i64 0)) w3)) :
    Calls Tryz.prog 33 #[.pointer (some ⟨x, 0, none⟩), .func (.func f) #[] cb] w R := by
  have H : Aside _ := h
  clear h
  go_enter Tryz.func33, Tryz.ntmps33
  go_wp2_with fail
  refine Calls.mono H.out ?_
  rintro en w1 ⟨a, rfl, hf⟩
  have HF : Aside _ := hf
  clear hf H
  go_wp2_with fail
  refine Calls.mono HF.out ?_
  rintro en w2 ⟨n, rfl, hn1, hn2⟩
  have HN1 : Aside _ := hn1
  have HN2 : Aside _ := hn2
  clear hn1 hn2 HF
  by_cases hn : n = 0
  · obtain ⟨cx, cy, mx, my, hcx, hcy, rx, ry, hne, hR⟩ := HN2.out hn
    have HR : Aside _ := hR
    clear HN1 HN2 hR
    subst hn
    obtain ⟨csx, hbx, hpx⟩ := rx
    have hl := inoCells_len cy my
    have hsz : 37 ≤ csx.size := (Array.getElem?_eq_some_iff.1 (hpx 36 (.map (some mx)) rfl)).1
    obtain ⟨w3, cs', hst, ht, hg3, hs3, hget⟩ := run_puts Tryz.prog x 0 107 0 0 (inoCells cy my) 0 csx w2 hbx (by rw [hl]; omega) (fun j _ => by omega) (inoCells_one hcy my)
    have hcell : ∀ (j : Nat) v, (inoCells cy my)[j]? = some v → w2.cell? ⟨a, j, none⟩ = some v := fun j v hv => row_cell ry hv
    have hrow : Row w3 x 107 (inoCells cy my) := ⟨cs', hg3, fun j v hv => by
      have hj : j < 37 := by rw [← hl]; exact (List.getElem?_eq_some_iff.1 hv).1
      rw [hget, if_pos (by rw [hl]; omega)]
      simpa using hv⟩
    have HRow : Aside _ := hrow
    have HCell : Aside _ := hcell
    have hinf : (Tryz.prog.info? 107).map (·.size) = some (inoCells cy my).length := info_ino.trans (congrArg some hl.symm)
    have HInf : Aside _ := hinf
    clear hrow hcell hget hbx hpx hg3 hs3 hsz hinf ry
    generalize hv : inoCells cy my = vs at *
    clear hv
    go_wp2_with (refine wpList_load_pre rfl 107 _ rfl a rfl vs _ HCell.out Tryz.underlying107 rfl HInf.out ?_)
    exact HR.out w3 ht HRow.out
  · have hb : (n != 0) = true := by simpa using hn
    have hd : decide (n = 0) = false := decide_eq_false hn
    go_wp2_with fail
    exact HN1.out hn
end Go.Proofs.YtcnimekhpnejlaaGreat.Ev

/- file.whole: a closure does something with a copy of inodes; if all is well, the copy is what there is. -/
namespace Go.Proofs.YtcnimekhpnejlaaGreat.Ev
open Go Go.RowKit
set_option linter.unusedVariables false
set_option linter.unusedSimpArgs false
set_option maxRecDepth 10000

/-- Inodes whose head was written over by the head of others. -/
theorem Inos.moved {w2 w3 : World} {x a my : Nat} {S : Int → Nd} {Ly : LL} (h : Inos Tryz.prog w2 a S my Ly) (ht : Touch x w2 w3) (hx : ¬ ownBlk a my Ly x) {c : Value} (hc : c.oneCell' = true) (hrow : Row w3 x 107 (inoCells c my)) :
    Inos Tryz.prog w3 x S my Ly ∧ ∀ k, ownBlk x my Ly k → k = x ∨ ownBlk a my Ly k := by
  have keep : ∀ k, ownBlk a my Ly k → w3.heap[k]? = w2.heap[k]? := fun k hk => ht.other k fun e => hx (e ▸ hk)
  refine ⟨⟨⟨c, hc, hrow⟩, h.map.kept (keep my (.inr (.inl rfl))), fun n t hn => (h.work n t hn).kept (keep _ (.inr (.inr ⟨n, t, hn, .inl rfl⟩))) (keep _ (.inr (.inr ⟨n, t, hn, .inr (.inl rfl)⟩))) (keep _ (.inr (.inr ⟨n, t, hn, .inr (.inr rfl)⟩))), h.off, h.inj, h.map_ne, h.ok, h.num⟩, fun k hk => ?_⟩
  rcases hk with rfl | rfl | hk
  · exact .inl rfl
  · exact .inr (.inr (.inl rfl))
  · exact .inr (.inr (.inr hk))

theorem sumWhole_ok {v : Nat → D} {o : Nat → Value} {pc : List (X × Bool)} (hpc : Told (rhoI v o) pc) {R : Rules} {call : Call} (hcall : CallOk (ctx R (rhoI v o) pc) call) : CallOk (ctx R (rhoI v o) pc) (sumWhole (fun f => (funT.get f).isSome) pc call) := by
  intro g args h nx r he E w vs hr hρ hf hargs
  replace hρ : E.ρ = rhoI v o := hρ
  have hA : ∀ b W k, E.ρ.A.own b W k ↔ ownD Tryz.prog b W k := fun b W k => by rw [hρ]; rfl
  have hI : ∀ d b W, E.ρ.A.is d b W ↔ isD Tryz.prog d b W := fun d b W => by rw [hρ]; rfl
  unfold sumWhole at he
  split at he
  · rename_i hg
    subst hg
    split at he
    · rename_i i f cs
      split at he
      · rename_i e hi
        split at he
        · rename_i hcond
          obtain ⟨h57, hfun⟩ := hcond
          obtain ⟨S, hS⟩ := told57 hpc h57
          obtain ⟨fn, hfn⟩ := Option.isSome_iff_exists.1 hfun
          obtain ⟨r0, hr0, he⟩ := Option.bind_eq_some_iff.1 he
          split at he
          · rename_i n e1 e2 hr1 hgi hgx
            match vs, hargs with
            | [u1, u2], hargs =>
              obtain ⟨⟨p, hp, rfl⟩, ⟨cb, rfl, hcb⟩, _⟩ := hargs
              have his := hr.abs.ab i e p hi hp
              have his2 := (hI _ _ _).1 his
              rw [hρ, hS] at his2
              have hd : p.dl = 0 := by
                obtain ⟨o2, _, h2⟩ := hr.blk hi hp
                exact h2
              rw [hd]
              have efn := funs_ok (C := ctx R (rhoI v o) pc) rfl f fn hfn
              obtain ⟨bd, hbd⟩ : ∃ bd, fn.body = some bd := by
                cases hb : fn.body with
                | some bd => exact ⟨bd, rfl⟩
                | none =>
                  have := efn.2.2
                  rw [hb] at this
                  cases this
              refine whole_any p.blk f cb.toArray w _ (enters_of efn.1 efn.2.1 hbd) ((ino_clone his2).mono fun en w1 ⟨a, h1, h2, h3, h4, h5, h6, h7⟩ => ⟨a, h1, ?_⟩)
              -- the copy
              have hg1 := Goes.acall (nx := nx) hr hi hp (e' := e) (w' := w1) ((hI _ _ _).2 (by rw [hρ, hS]; exact h2)) (fun k hk => (h3 k ((hA _ _ _).1 hk)).imp (fun h => (hA _ _ _).2 h) id) h7.os h7.tape h7.output h7.size (fun k hk hn => h7.block k hk fun ho => hn ((hA _ _ _).2 ho))
              have hown : ∀ k, E.ρ.A.own a w1 k → Owned E h w k ∨ w.heap.size ≤ k := fun k hk => by
                rcases (h6 k ((hA _ _ _).1 hk)).1 with h8 | h8
                · exact .inl (Owned.abs hi hp ((hA _ _ _).2 h8))
                · exact .inr h8
              have hdis : ∀ k, E.ρ.A.own a w1 k → ¬ Owned E (h.set i (.abs e)) w1 k := fun k hk ho => by
                obtain ⟨hk1, hk2⟩ := h6 k ((hA _ _ _).1 hk)
                rcases ho with ⟨j, cc, q, hj, hq, rfl⟩ | ⟨j, e2, q, hj, hq, ho⟩
                · by_cases hji : j = i
                  · subst hji
                    rw [hp] at hq
                    obtain rfl := Option.some.inj hq
                    exact hk2 ((hA _ _ _).1 (E.ρ.A.self _ _ _ ((hI _ _ _).2 h2)))
                  · rw [T.get_set, if_neg hji] at hj
                    obtain ⟨o2, ho2, _⟩ := hr.blk hj hq
                    have := lt_of_heap ho2
                    rcases hk1 with h8 | h8
                    · exact hr.abs.far i e p j cc q hi hp hj hq hji ((hA _ _ _).2 h8)
                    · omega
                · by_cases hji : j = i
                  · subst hji
                    rw [hp] at hq
                    obtain rfl := Option.some.inj hq
                    exact hk2 ((hA _ _ _).1 ho)
                  · rw [T.get_set, if_neg hji] at hj
                    have hB := hr.abs.ab j e2 q hj hq
                    have h9 := E.ρ.A.keep _ _ w w1 hB (fun k hk => h7.block k (E.ρ.A.lt _ _ _ hB k hk) fun ho => hr.abs.apart j e2 q i e p hj hq hi hp (fun e3 => hji e3.symm) k hk ((hA _ _ _).2 ho)) h7.size
                    have ho := (h9.2 k).1 ho
                    have := E.ρ.A.lt _ _ _ hB k ho
                    rcases hk1 with h8 | h8
                    · exact hr.abs.apart j e2 q i e p hj hq hi hp (fun e3 => hji e3.symm) k ho ((hA _ _ _).2 h8)
                    · omega
              have hg2 := Goes.adopt2 hg1 (hf nx (Nat.le_refl _)) (a := a) (e := e) ((hI _ _ _).2 (by rw [hρ, hS]; exact h4)) h5 hown hdis
              have hg3 : Goes E h nx w (E.put nx ⟨a, 0, 0⟩) (h.set nx (.abs e)) (nx + 1) w1 := hg2.sub fun j b hb => by
                rw [T.get_set] at hb ⊢
                split at hb
                · rw [if_pos ‹_›]; exact hb
                · rw [if_neg ‹_›, T.get_set]
                  by_cases e3 : j = i
                  · subst e3
                    rw [if_pos rfl]
                    rw [hi] at hb
                    exact hb
                  · rw [if_neg e3]
                    exact hb
              have hf2 : FreshU (E.put nx ⟨a, 0, 0⟩) (nx + 1) := fun j hj => by
                rw [Env.put_ne E _ (by omega)]
                exact hf j (by omega)
              have hrel2 : Rels (EV.rel (E.put nx ⟨a, 0, 0⟩)) (.a (.s (.ptr nx 0)) :: ptrs cs) (.pointer (some ⟨a, 0, none⟩) :: cb) :=
                ⟨⟨⟨a, 0, 0⟩, Env.put_at _ _ _, rfl⟩, ptrs_rel (Rels.imp (fun _ _ => relP.ext hg3.ext) hcb)⟩
              have hc := hcall f _ _ _ r0 hr0 _ w1 _ hg3.rel hρ hf2 hrel2
              have hvs : ((.pointer (some ⟨a, 0, none⟩) :: cb : List Value)).toArray = #[.pointer (some ⟨a, 0, none⟩)] ++ cb.toArray := by simp
              rw [hvs] at hc
              refine hc.mono fun en2 w2 ⟨v2, E2, q1, q2, q3⟩ => ?_
              rw [hr1] at q3
              have q3 : v2 = .int .i64 n := q3
              subst q3
              have hG := hg3.trans q2
              have hρ2 : E2.ρ = rhoI v o := hG.ext.ρ.trans hρ
              refine ⟨n, q1, fun hn => ?_, fun hn => ?_⟩
              · rw [if_neg hn] at he
                obtain rfl := Option.some.inj he
                exact ⟨_, E2, rfl, hG, rfl⟩
              · rw [if_pos hn] at he
                split at he
                · rename_i h57b
                  obtain ⟨S1, hS1⟩ := told57 hpc h57b.1
                  obtain ⟨S2, hS2⟩ := told57 hpc h57b.2
                  obtain rfl := Option.some.inj he
                  have hne : i ≠ nx := fun e3 => by
                    rw [e3, hf nx (Nat.le_refl _)] at hp
                    cases hp
                  have hp2 : E2.m i = some p := hG.ext.m _ _ hp
                  have hq2 : E2.m nx = some ⟨a, 0, 0⟩ := q2.ext.m _ _ (Env.put_at _ _ _)
                  have hA2 : ∀ b W k, E2.ρ.A.own b W k ↔ ownD Tryz.prog b W k := fun b W k => by rw [hρ2]; rfl
                  have hI2 : ∀ d b W, E2.ρ.A.is d b W ↔ isD Tryz.prog d b W := fun d b W => by rw [hρ2]; rfl
                  have a1 := (hI2 _ _ _).1 (hG.rel.abs.ab i e1 p hgi hp2)
                  have a2 := (hI2 _ _ _).1 (hG.rel.abs.ab nx e2 _ hgx hq2)
                  rw [hρ2, hS1] at a1
                  rw [hρ2, hS2] at a2
                  obtain ⟨mx, Lx, hx⟩ := a1
                  obtain ⟨my, Ly, hy⟩ := a2
                  obtain ⟨cx, hcx, rx⟩ := hx.cell
                  obtain ⟨cy, hcy, ry⟩ := hy.cell
                  have hfar : ¬ ownBlk a my Ly p.blk := fun ho => hG.rel.abs.far nx e2 _ i _ p hgx hq2 hgi hp2 hne ((hA2 _ _ _).2 ((ownD_ino hy _).2 ho))
                  refine ⟨cx, cy, mx, my, hcx, hcy, rx, ry, fun e3 => hfar (e3 ▸ .inl rfl), fun w3 ht hrow => ?_⟩
                  obtain ⟨hI3, ho3⟩ := Inos.moved hy ht hfar hcy hrow
                  refine ⟨_, E2, rfl, Goes.moved hG hgi hgx hne hp2 hq2 ht ((hI2 _ _ _).2 (by rw [hρ2, hS2]; exact ⟨my, Ly, hI3⟩)) (fun k hk => ?_), rfl⟩
                  rcases ho3 k ((ownD_ino hI3 k).1 ((hA2 _ _ _).1 hk)) with h8 | h8
                  · exact .inl h8
                  · exact .inr ((hA2 _ _ _).2 ((ownD_ino hy k).2 h8))
                · cases he
          · cases he
        · cases he
      · cases he
    · cases he
  · cases he
end Go.Proofs.YtcnimekhpnejlaaGreat.Ev

/- What calls come to, on all their ways (written by wip/tools/tabs.py). -/
namespace Go.Proofs.YtcnimekhpnejlaaGreat.Ev
open Go
def wrtT : PT := (.node (.app 57 (.va 0)) (.node (.app 902 (.va 1)) (.node (.lt (.va 1) (.li 1)) .dead (.node (.lt (.li 4096) (.va 1)) .dead (.node (.eq (.app 50 (.cons (.va 0) (.va 1))) (.li 0)) .dead (.node (.eq (.app 50 (.cons (.va 0) (.va 1))) (.li 2)) .dead (.node (.lt (.va 2) (.li 0)) .leaf (.node (.lt (.li 1048576) (.va 2)) .leaf (.node (.lt (.bin .sub .i64 (.li 1048576) (.va 2)) (.len (.va 3))) .leaf (.node (.seq (.va 3) (.ls ⟨#[]⟩)) .leaf (.node (.lt (.app 52 (.cons (.va 0) (.va 1))) (.bin .add .i64 (.va 2) (.len (.va 3)))) (.node (.app 59 (.va 4)) (.node (.lt (.bin .add .i64 (.va 2) (.len (.va 3))) (.li 0)) .dead (.node (.lt (.li 1048576) (.bin .add .i64 (.va 2) (.len (.va 3)))) .dead (.node (.app 57 (.app 56 (.cons (.va 0) (.cons (.va 1) (.cons (.bin .add .i64 (.va 2) (.len (.va 3))) (.va 4)))))) (.node (.eq (.app 50 (.cons (.app 56 (.cons (.va 0) (.cons (.va 1) (.cons (.bin .add .i64 (.va 2) (.len (.va 3))) (.va 4))))) (.va 1))) (.li 0)) .dead (.node (.app 62 (.cons (.app 56 (.cons (.va 0) (.cons (.va 1) (.cons (.bin .add .i64 (.va 2) (.len (.va 3))) (.va 4))))) (.cons (.va 1) (.cons (.va 2) (.va 3))))) (.node (.app 57 (.app 60 (.cons (.app 56 (.cons (.va 0) (.cons (.va 1) (.cons (.bin .add .i64 (.va 2) (.len (.va 3))) (.va 4))))) (.cons (.va 1) (.cons (.va 2) (.cons (.va 3) (.va 4))))))) .leaf .dead) .dead)) .dead))) .dead) (.node (.app 59 (.va 4)) (.node (.app 62 (.cons (.va 0) (.cons (.va 1) (.cons (.va 2) (.va 3))))) (.node (.app 57 (.app 60 (.cons (.va 0) (.cons (.va 1) (.cons (.va 2) (.cons (.va 3) (.va 4))))))) .leaf .dead) .dead) .dead)))))))))) .dead) .dead)
def wrtL : List (List (X × Bool) × Option (EV × List (Option BV))) := [
  ([((.lt (.va 1) (.li 1)), true), ((.app 902 (.va 1)), true), ((.app 57 (.va 0)), true)], none),
  ([((.lt (.li 4096) (.va 1)), true), ((.lt (.va 1) (.li 1)), false), ((.app 902 (.va 1)), true), ((.app 57 (.va 0)), true)], none),
  ([((.eq (.app 50 (.cons (.va 0) (.va 1))) (.li 0)), true), ((.lt (.li 4096) (.va 1)), false), ((.lt (.va 1) (.li 1)), false), ((.app 902 (.va 1)), true), ((.app 57 (.va 0)), true)], none),
  ([((.eq (.app 50 (.cons (.va 0) (.va 1))) (.li 2)), true), ((.eq (.app 50 (.cons (.va 0) (.va 1))) (.li 0)), false), ((.lt (.li 4096) (.va 1)), false), ((.lt (.va 1) (.li 1)), false), ((.app 902 (.va 1)), true), ((.app 57 (.va 0)), true)], none),
  ([((.lt (.va 2) (.li 0)), true), ((.eq (.app 50 (.cons (.va 0) (.va 1))) (.li 2)), false), ((.eq (.app 50 (.cons (.va 0) (.va 1))) (.li 0)), false), ((.lt (.li 4096) (.va 1)), false), ((.lt (.va 1) (.li 1)), false), ((.app 902 (.va 1)), true), ((.app 57 (.va 0)), true)], some ((.tup [(.s (.int .i64 0)), (.s (.int .i64 1))]), [some (.abs (.va 0))])),
  ([((.lt (.li 1048576) (.va 2)), true), ((.lt (.va 2) (.li 0)), false), ((.eq (.app 50 (.cons (.va 0) (.va 1))) (.li 2)), false), ((.eq (.app 50 (.cons (.va 0) (.va 1))) (.li 0)), false), ((.lt (.li 4096) (.va 1)), false), ((.lt (.va 1) (.li 1)), false), ((.app 902 (.va 1)), true), ((.app 57 (.va 0)), true)], some ((.tup [(.s (.int .i64 0)), (.s (.int .i64 160))]), [some (.abs (.va 0))])),
  ([((.lt (.bin .sub .i64 (.li 1048576) (.va 2)) (.len (.va 3))), true), ((.lt (.li 1048576) (.va 2)), false), ((.lt (.va 2) (.li 0)), false), ((.eq (.app 50 (.cons (.va 0) (.va 1))) (.li 2)), false), ((.eq (.app 50 (.cons (.va 0) (.va 1))) (.li 0)), false), ((.lt (.li 4096) (.va 1)), false), ((.lt (.va 1) (.li 1)), false), ((.app 902 (.va 1)), true), ((.app 57 (.va 0)), true)], some ((.tup [(.s (.int .i64 0)), (.s (.int .i64 160))]), [some (.abs (.va 0))])),
  ([((.seq (.va 3) (.ls ⟨#[]⟩)), true), ((.lt (.bin .sub .i64 (.li 1048576) (.va 2)) (.len (.va 3))), false), ((.lt (.li 1048576) (.va 2)), false), ((.lt (.va 2) (.li 0)), false), ((.eq (.app 50 (.cons (.va 0) (.va 1))) (.li 2)), false), ((.eq (.app 50 (.cons (.va 0) (.va 1))) (.li 0)), false), ((.lt (.li 4096) (.va 1)), false), ((.lt (.va 1) (.li 1)), false), ((.app 902 (.va 1)), true), ((.app 57 (.va 0)), true)], some ((.tup [(.s (.xi .i64 (.va 2))), (.s (.int .i64 0))]), [some (.abs (.va 0))])),
  ([((.lt (.bin .add .i64 (.va 2) (.len (.va 3))) (.li 0)), true), ((.app 59 (.va 4)), true), ((.lt (.app 52 (.cons (.va 0) (.va 1))) (.bin .add .i64 (.va 2) (.len (.va 3)))), true), ((.seq (.va 3) (.ls ⟨#[]⟩)), false), ((.lt (.bin .sub .i64 (.li 1048576) (.va 2)) (.len (.va 3))), false), ((.lt (.li 1048576) (.va 2)), false), ((.lt (.va 2) (.li 0)), false), ((.eq (.app 50 (.cons (.va 0) (.va 1))) (.li 2)), false), ((.eq (.app 50 (.cons (.va 0) (.va 1))) (.li 0)), false), ((.lt (.li 4096) (.va 1)), false), ((.lt (.va 1) (.li 1)), false), ((.app 902 (.va 1)), true), ((.app 57 (.va 0)), true)], none),
  ([((.lt (.li 1048576) (.bin .add .i64 (.va 2) (.len (.va 3)))), true), ((.lt (.bin .add .i64 (.va 2) (.len (.va 3))) (.li 0)), false), ((.app 59 (.va 4)), true), ((.lt (.app 52 (.cons (.va 0) (.va 1))) (.bin .add .i64 (.va 2) (.len (.va 3)))), true), ((.seq (.va 3) (.ls ⟨#[]⟩)), false), ((.lt (.bin .sub .i64 (.li 1048576) (.va 2)) (.len (.va 3))), false), ((.lt (.li 1048576) (.va 2)), false), ((.lt (.va 2) (.li 0)), false), ((.eq (.app 50 (.cons (.va 0) (.va 1))) (.li 2)), false), ((.eq (.app 50 (.cons (.va 0) (.va 1))) (.li 0)), false), ((.lt (.li 4096) (.va 1)), false), ((.lt (.va 1) (.li 1)), false), ((.app 902 (.va 1)), true), ((.app 57 (.va 0)), true)], none),
  ([((.eq (.app 50 (.cons (.app 56 (.cons (.va 0) (.cons (.va 1) (.cons (.bin .add .i64 (.va 2) (.len (.va 3))) (.va 4))))) (.va 1))) (.li 0)), true), ((.app 57 (.app 56 (.cons (.va 0) (.cons (.va 1) (.cons (.bin .add .i64 (.va 2) (.len (.va 3))) (.va 4)))))), true), ((.lt (.li 1048576) (.bin .add .i64 (.va 2) (.len (.va 3)))), false), ((.lt (.bin .add .i64 (.va 2) (.len (.va 3))) (.li 0)), false), ((.app 59 (.va 4)), true), ((.lt (.app 52 (.cons (.va 0) (.va 1))) (.bin .add .i64 (.va 2) (.len (.va 3)))), true), ((.seq (.va 3) (.ls ⟨#[]⟩)), false), ((.lt (.bin .sub .i64 (.li 1048576) (.va 2)) (.len (.va 3))), false), ((.lt (.li 1048576) (.va 2)), false), ((.lt (.va 2) (.li 0)), false), ((.eq (.app 50 (.cons (.va 0) (.va 1))) (.li 2)), false), ((.eq (.app 50 (.cons (.va 0) (.va 1))) (.li 0)), false), ((.lt (.li 4096) (.va 1)), false), ((.lt (.va 1) (.li 1)), false), ((.app 902 (.va 1)), true), ((.app 57 (.va 0)), true)], none),
  ([((.app 57 (.app 60 (.cons (.app 56 (.cons (.va 0) (.cons (.va 1) (.cons (.bin .add .i64 (.va 2) (.len (.va 3))) (.va 4))))) (.cons (.va 1) (.cons (.va 2) (.cons (.va 3) (.va 4))))))), true), ((.app 62 (.cons (.app 56 (.cons (.va 0) (.cons (.va 1) (.cons (.bin .add .i64 (.va 2) (.len (.va 3))) (.va 4))))) (.cons (.va 1) (.cons (.va 2) (.va 3))))), true), ((.eq (.app 50 (.cons (.app 56 (.cons (.va 0) (.cons (.va 1) (.cons (.bin .add .i64 (.va 2) (.len (.va 3))) (.va 4))))) (.va 1))) (.li 0)), false), ((.app 57 (.app 56 (.cons (.va 0) (.cons (.va 1) (.cons (.bin .add .i64 (.va 2) (.len (.va 3))) (.va 4)))))), true), ((.lt (.li 1048576) (.bin .add .i64 (.va 2) (.len (.va 3)))), false), ((.lt (.bin .add .i64 (.va 2) (.len (.va 3))) (.li 0)), false), ((.app 59 (.va 4)), true), ((.lt (.app 52 (.cons (.va 0) (.va 1))) (.bin .add .i64 (.va 2) (.len (.va 3)))), true), ((.seq (.va 3) (.ls ⟨#[]⟩)), false), ((.lt (.bin .sub .i64 (.li 1048576) (.va 2)) (.len (.va 3))), false), ((.lt (.li 1048576) (.va 2)), false), ((.lt (.va 2) (.li 0)), false), ((.eq (.app 50 (.cons (.va 0) (.va 1))) (.li 2)), false), ((.eq (.app 50 (.cons (.va 0) (.va 1))) (.li 0)), false), ((.lt (.li 4096) (.va 1)), false), ((.lt (.va 1) (.li 1)), false), ((.app 902 (.va 1)), true), ((.app 57 (.va 0)), true)], some ((.tup [(.s (.xi .i64 (.bin .add .i64 (.va 2) (.len (.va 3))))), (.s (.int .i64 0))]), [some (.abs (.app 60 (.cons (.app 56 (.cons (.va 0) (.cons (.va 1) (.cons (.bin .add .i64 (.va 2) (.len (.va 3))) (.va 4))))) (.cons (.va 1) (.cons (.va 2) (.cons (.va 3) (.va 4)))))))])),
  ([((.app 57 (.app 60 (.cons (.app 56 (.cons (.va 0) (.cons (.va 1) (.cons (.bin .add .i64 (.va 2) (.len (.va 3))) (.va 4))))) (.cons (.va 1) (.cons (.va 2) (.cons (.va 3) (.va 4))))))), false), ((.app 62 (.cons (.app 56 (.cons (.va 0) (.cons (.va 1) (.cons (.bin .add .i64 (.va 2) (.len (.va 3))) (.va 4))))) (.cons (.va 1) (.cons (.va 2) (.va 3))))), true), ((.eq (.app 50 (.cons (.app 56 (.cons (.va 0) (.cons (.va 1) (.cons (.bin .add .i64 (.va 2) (.len (.va 3))) (.va 4))))) (.va 1))) (.li 0)), false), ((.app 57 (.app 56 (.cons (.va 0) (.cons (.va 1) (.cons (.bin .add .i64 (.va 2) (.len (.va 3))) (.va 4)))))), true), ((.lt (.li 1048576) (.bin .add .i64 (.va 2) (.len (.va 3)))), false), ((.lt (.bin .add .i64 (.va 2) (.len (.va 3))) (.li 0)), false), ((.app 59 (.va 4)), true), ((.lt (.app 52 (.cons (.va 0) (.va 1))) (.bin .add .i64 (.va 2) (.len (.va 3)))), true), ((.seq (.va 3) (.ls ⟨#[]⟩)), false), ((.lt (.bin .sub .i64 (.li 1048576) (.va 2)) (.len (.va 3))), false), ((.lt (.li 1048576) (.va 2)), false), ((.lt (.va 2) (.li 0)), false), ((.eq (.app 50 (.cons (.va 0) (.va 1))) (.li 2)), false), ((.eq (.app 50 (.cons (.va 0) (.va 1))) (.li 0)), false), ((.lt (.li 4096) (.va 1)), false), ((.lt (.va 1) (.li 1)), false), ((.app 902 (.va 1)), true), ((.app 57 (.va 0)), true)], none),
  ([((.app 62 (.cons (.app 56 (.cons (.va 0) (.cons (.va 1) (.cons (.bin .add .i64 (.va 2) (.len (.va 3))) (.va 4))))) (.cons (.va 1) (.cons (.va 2) (.va 3))))), false), ((.eq (.app 50 (.cons (.app 56 (.cons (.va 0) (.cons (.va 1) (.cons (.bin .add .i64 (.va 2) (.len (.va 3))) (.va 4))))) (.va 1))) (.li 0)), false), ((.app 57 (.app 56 (.cons (.va 0) (.cons (.va 1) (.cons (.bin .add .i64 (.va 2) (.len (.va 3))) (.va 4)))))), true), ((.lt (.li 1048576) (.bin .add .i64 (.va 2) (.len (.va 3)))), false), ((.lt (.bin .add .i64 (.va 2) (.len (.va 3))) (.li 0)), false), ((.app 59 (.va 4)), true), ((.lt (.app 52 (.cons (.va 0) (.va 1))) (.bin .add .i64 (.va 2) (.len (.va 3)))), true), ((.seq (.va 3) (.ls ⟨#[]⟩)), false), ((.lt (.bin .sub .i64 (.li 1048576) (.va 2)) (.len (.va 3))), false), ((.lt (.li 1048576) (.va 2)), false), ((.lt (.va 2) (.li 0)), false), ((.eq (.app 50 (.cons (.va 0) (.va 1))) (.li 2)), false), ((.eq (.app 50 (.cons (.va 0) (.va 1))) (.li 0)), false), ((.lt (.li 4096) (.va 1)), false), ((.lt (.va 1) (.li 1)), false), ((.app 902 (.va 1)), true), ((.app 57 (.va 0)), true)], none),
  ([((.app 57 (.app 56 (.cons (.va 0) (.cons (.va 1) (.cons (.bin .add .i64 (.va 2) (.len (.va 3))) (.va 4)))))), false), ((.lt (.li 1048576) (.bin .add .i64 (.va 2) (.len (.va 3)))), false), ((.lt (.bin .add .i64 (.va 2) (.len (.va 3))) (.li 0)), false), ((.app 59 (.va 4)), true), ((.lt (.app 52 (.cons (.va 0) (.va 1))) (.bin .add .i64 (.va 2) (.len (.va 3)))), true), ((.seq (.va 3) (.ls ⟨#[]⟩)), false), ((.lt (.bin .sub .i64 (.li 1048576) (.va 2)) (.len (.va 3))), false), ((.lt (.li 1048576) (.va 2)), false), ((.lt (.va 2) (.li 0)), false), ((.eq (.app 50 (.cons (.va 0) (.va 1))) (.li 2)), false), ((.eq (.app 50 (.cons (.va 0) (.va 1))) (.li 0)), false), ((.lt (.li 4096) (.va 1)), false), ((.lt (.va 1) (.li 1)), false), ((.app 902 (.va 1)), true), ((.app 57 (.va 0)), true)], none),
  ([((.app 59 (.va 4)), false), ((.lt (.app 52 (.cons (.va 0) (.va 1))) (.bin .add .i64 (.va 2) (.len (.va 3)))), true), ((.seq (.va 3) (.ls ⟨#[]⟩)), false), ((.lt (.bin .sub .i64 (.li 1048576) (.va 2)) (.len (.va 3))), false), ((.lt (.li 1048576) (.va 2)), false), ((.lt (.va 2) (.li 0)), false), ((.eq (.app 50 (.cons (.va 0) (.va 1))) (.li 2)), false), ((.eq (.app 50 (.cons (.va 0) (.va 1))) (.li 0)), false), ((.lt (.li 4096) (.va 1)), false), ((.lt (.va 1) (.li 1)), false), ((.app 902 (.va 1)), true), ((.app 57 (.va 0)), true)], none),
  ([((.app 57 (.app 60 (.cons (.va 0) (.cons (.va 1) (.cons (.va 2) (.cons (.va 3) (.va 4))))))), true), ((.app 62 (.cons (.va 0) (.cons (.va 1) (.cons (.va 2) (.va 3))))), true), ((.app 59 (.va 4)), true), ((.lt (.app 52 (.cons (.va 0) (.va 1))) (.bin .add .i64 (.va 2) (.len (.va 3)))), false), ((.seq (.va 3) (.ls ⟨#[]⟩)), false), ((.lt (.bin .sub .i64 (.li 1048576) (.va 2)) (.len (.va 3))), false), ((.lt (.li 1048576) (.va 2)), false), ((.lt (.va 2) (.li 0)), false), ((.eq (.app 50 (.cons (.va 0) (.va 1))) (.li 2)), false), ((.eq (.app 50 (.cons (.va 0) (.va 1))) (.li 0)), false), ((.lt (.li 4096) (.va 1)), false), ((.lt (.va 1) (.li 1)), false), ((.app 902 (.va 1)), true), ((.app 57 (.va 0)), true)], some ((.tup [(.s (.xi .i64 (.bin .add .i64 (.va 2) (.len (.va 3))))), (.s (.int .i64 0))]), [some (.abs (.app 60 (.cons (.va 0) (.cons (.va 1) (.cons (.va 2) (.cons (.va 3) (.va 4)))))))])),
  ([((.app 57 (.app 60 (.cons (.va 0) (.cons (.va 1) (.cons (.va 2) (.cons (.va 3) (.va 4))))))), false), ((.app 62 (.cons (.va 0) (.cons (.va 1) (.cons (.va 2) (.va 3))))), true), ((.app 59 (.va 4)), true), ((.lt (.app 52 (.cons (.va 0) (.va 1))) (.bin .add .i64 (.va 2) (.len (.va 3)))), false), ((.seq (.va 3) (.ls ⟨#[]⟩)), false), ((.lt (.bin .sub .i64 (.li 1048576) (.va 2)) (.len (.va 3))), false), ((.lt (.li 1048576) (.va 2)), false), ((.lt (.va 2) (.li 0)), false), ((.eq (.app 50 (.cons (.va 0) (.va 1))) (.li 2)), false), ((.eq (.app 50 (.cons (.va 0) (.va 1))) (.li 0)), false), ((.lt (.li 4096) (.va 1)), false), ((.lt (.va 1) (.li 1)), false), ((.app 902 (.va 1)), true), ((.app 57 (.va 0)), true)], none),
  ([((.app 62 (.cons (.va 0) (.cons (.va 1) (.cons (.va 2) (.va 3))))), false), ((.app 59 (.va 4)), true), ((.lt (.app 52 (.cons (.va 0) (.va 1))) (.bin .add .i64 (.va 2) (.len (.va 3)))), false), ((.seq (.va 3) (.ls ⟨#[]⟩)), false), ((.lt (.bin .sub .i64 (.li 1048576) (.va 2)) (.len (.va 3))), false), ((.lt (.li 1048576) (.va 2)), false), ((.lt (.va 2) (.li 0)), false), ((.eq (.app 50 (.cons (.va 0) (.va 1))) (.li 2)), false), ((.eq (.app 50 (.cons (.va 0) (.va 1))) (.li 0)), false), ((.lt (.li 4096) (.va 1)), false), ((.lt (.va 1) (.li 1)), false), ((.app 902 (.va 1)), true), ((.app 57 (.va 0)), true)], none),
  ([((.app 59 (.va 4)), false), ((.lt (.app 52 (.cons (.va 0) (.va 1))) (.bin .add .i64 (.va 2) (.len (.va 3)))), false), ((.seq (.va 3) (.ls ⟨#[]⟩)), false), ((.lt (.bin .sub .i64 (.li 1048576) (.va 2)) (.len (.va 3))), false), ((.lt (.li 1048576) (.va 2)), false), ((.lt (.va 2) (.li 0)), false), ((.eq (.app 50 (.cons (.va 0) (.va 1))) (.li 2)), false), ((.eq (.app 50 (.cons (.va 0) (.va 1))) (.li 0)), false), ((.lt (.li 4096) (.va 1)), false), ((.lt (.va 1) (.li 1)), false), ((.app 902 (.va 1)), true), ((.app 57 (.va 0)), true)], none),
  ([((.app 902 (.va 1)), false), ((.app 57 (.va 0)), true)], none),
  ([((.app 57 (.va 0)), false)], none)]
def rdtT : PT := (.node (.app 57 (.va 0)) (.node (.app 902 (.va 1)) (.node (.lt (.va 1) (.li 1)) .dead (.node (.lt (.li 4096) (.va 1)) .dead (.node (.eq (.app 50 (.cons (.va 0) (.va 1))) (.li 0)) .dead (.node (.eq (.app 50 (.cons (.va 0) (.va 1))) (.li 2)) .dead (.node (.lt (.va 2) (.li 0)) .leaf (.node (.lt (.va 3) (.li 0)) .leaf (.node (.lt (.va 2) (.app 52 (.cons (.va 0) (.va 1)))) (.node (.lt (.li 1048576) (.bin .add .i64 (.va 2) (.mn (.va 3) (.bin .sub .i64 (.app 52 (.cons (.va 0) (.va 1))) (.va 2))))) .dead .leaf) .leaf))))))) .dead) .dead)
def rdtL : List (List (X × Bool) × Option (EV × List (Option BV))) := [
  ([((.lt (.va 1) (.li 1)), true), ((.app 902 (.va 1)), true), ((.app 57 (.va 0)), true)], none),
  ([((.lt (.li 4096) (.va 1)), true), ((.lt (.va 1) (.li 1)), false), ((.app 902 (.va 1)), true), ((.app 57 (.va 0)), true)], none),
  ([((.eq (.app 50 (.cons (.va 0) (.va 1))) (.li 0)), true), ((.lt (.li 4096) (.va 1)), false), ((.lt (.va 1) (.li 1)), false), ((.app 902 (.va 1)), true), ((.app 57 (.va 0)), true)], none),
  ([((.eq (.app 50 (.cons (.va 0) (.va 1))) (.li 2)), true), ((.eq (.app 50 (.cons (.va 0) (.va 1))) (.li 0)), false), ((.lt (.li 4096) (.va 1)), false), ((.lt (.va 1) (.li 1)), false), ((.app 902 (.va 1)), true), ((.app 57 (.va 0)), true)], none),
  ([((.lt (.va 2) (.li 0)), true), ((.eq (.app 50 (.cons (.va 0) (.va 1))) (.li 2)), false), ((.eq (.app 50 (.cons (.va 0) (.va 1))) (.li 0)), false), ((.lt (.li 4096) (.va 1)), false), ((.lt (.va 1) (.li 1)), false), ((.app 902 (.va 1)), true), ((.app 57 (.va 0)), true)], some ((.tup [(.s (.str ⟨#[]⟩)), (.s (.int .i64 1))]), [some (.abs (.va 0))])),
  ([((.lt (.va 3) (.li 0)), true), ((.lt (.va 2) (.li 0)), false), ((.eq (.app 50 (.cons (.va 0) (.va 1))) (.li 2)), false), ((.eq (.app 50 (.cons (.va 0) (.va 1))) (.li 0)), false), ((.lt (.li 4096) (.va 1)), false), ((.lt (.va 1) (.li 1)), false), ((.app 902 (.va 1)), true), ((.app 57 (.va 0)), true)], some ((.tup [(.s (.str ⟨#[]⟩)), (.s (.int .i64 1))]), [some (.abs (.va 0))])),
  ([((.lt (.li 1048576) (.bin .add .i64 (.va 2) (.mn (.va 3) (.bin .sub .i64 (.app 52 (.cons (.va 0) (.va 1))) (.va 2))))), true), ((.lt (.va 2) (.app 52 (.cons (.va 0) (.va 1)))), true), ((.lt (.va 3) (.li 0)), false), ((.lt (.va 2) (.li 0)), false), ((.eq (.app 50 (.cons (.va 0) (.va 1))) (.li 2)), false), ((.eq (.app 50 (.cons (.va 0) (.va 1))) (.li 0)), false), ((.lt (.li 4096) (.va 1)), false), ((.lt (.va 1) (.li 1)), false), ((.app 902 (.va 1)), true), ((.app 57 (.va 0)), true)], none),
  ([((.lt (.li 1048576) (.bin .add .i64 (.va 2) (.mn (.va 3) (.bin .sub .i64 (.app 52 (.cons (.va 0) (.va 1))) (.va 2))))), false), ((.lt (.va 2) (.app 52 (.cons (.va 0) (.va 1)))), true), ((.lt (.va 3) (.li 0)), false), ((.lt (.va 2) (.li 0)), false), ((.eq (.app 50 (.cons (.va 0) (.va 1))) (.li 2)), false), ((.eq (.app 50 (.cons (.va 0) (.va 1))) (.li 0)), false), ((.lt (.li 4096) (.va 1)), false), ((.lt (.va 1) (.li 1)), false), ((.app 902 (.va 1)), true), ((.app 57 (.va 0)), true)], some ((.tup [(.s (.xs (.app 61 (.cons (.va 0) (.cons (.va 1) (.cons (.va 2) (.bin .add .i64 (.va 2) (.mn (.va 3) (.bin .sub .i64 (.app 52 (.cons (.va 0) (.va 1))) (.va 2)))))))))), (.s (.int .i64 0))]), [some (.abs (.va 0))])),
  ([((.lt (.va 2) (.app 52 (.cons (.va 0) (.va 1)))), false), ((.lt (.va 3) (.li 0)), false), ((.lt (.va 2) (.li 0)), false), ((.eq (.app 50 (.cons (.va 0) (.va 1))) (.li 2)), false), ((.eq (.app 50 (.cons (.va 0) (.va 1))) (.li 0)), false), ((.lt (.li 4096) (.va 1)), false), ((.lt (.va 1) (.li 1)), false), ((.app 902 (.va 1)), true), ((.app 57 (.va 0)), true)], some ((.tup [(.s (.str ⟨#[]⟩)), (.s (.int .i64 0))]), [some (.abs (.va 0))])),
  ([((.app 902 (.va 1)), false), ((.app 57 (.va 0)), true)], none),
  ([((.app 57 (.va 0)), false)], none)]
def trtT : PT := (.node (.app 57 (.va 0)) (.node (.app 902 (.va 1)) (.node (.lt (.va 1) (.li 1)) .dead (.node (.lt (.li 4096) (.va 1)) .dead (.node (.eq (.app 50 (.cons (.va 0) (.va 1))) (.li 0)) .dead (.node (.eq (.app 50 (.cons (.va 0) (.va 1))) (.li 2)) .dead (.node (.lt (.va 2) (.li 0)) .leaf (.node (.lt (.li 1048576) (.va 2)) .leaf (.node (.app 59 (.va 4)) .leaf .dead))))))) .dead) .dead)
def trtL : List (List (X × Bool) × Option (EV × List (Option BV))) := [
  ([((.lt (.va 1) (.li 1)), true), ((.app 902 (.va 1)), true), ((.app 57 (.va 0)), true)], none),
  ([((.lt (.li 4096) (.va 1)), true), ((.lt (.va 1) (.li 1)), false), ((.app 902 (.va 1)), true), ((.app 57 (.va 0)), true)], none),
  ([((.eq (.app 50 (.cons (.va 0) (.va 1))) (.li 0)), true), ((.lt (.li 4096) (.va 1)), false), ((.lt (.va 1) (.li 1)), false), ((.app 902 (.va 1)), true), ((.app 57 (.va 0)), true)], none),
  ([((.eq (.app 50 (.cons (.va 0) (.va 1))) (.li 2)), true), ((.eq (.app 50 (.cons (.va 0) (.va 1))) (.li 0)), false), ((.lt (.li 4096) (.va 1)), false), ((.lt (.va 1) (.li 1)), false), ((.app 902 (.va 1)), true), ((.app 57 (.va 0)), true)], none),
  ([((.lt (.va 2) (.li 0)), true), ((.eq (.app 50 (.cons (.va 0) (.va 1))) (.li 2)), false), ((.eq (.app 50 (.cons (.va 0) (.va 1))) (.li 0)), false), ((.lt (.li 4096) (.va 1)), false), ((.lt (.va 1) (.li 1)), false), ((.app 902 (.va 1)), true), ((.app 57 (.va 0)), true)], some ((.a (.s (.int .i64 1))), [some (.abs (.va 0))])),
  ([((.lt (.li 1048576) (.va 2)), true), ((.lt (.va 2) (.li 0)), false), ((.eq (.app 50 (.cons (.va 0) (.va 1))) (.li 2)), false), ((.eq (.app 50 (.cons (.va 0) (.va 1))) (.li 0)), false), ((.lt (.li 4096) (.va 1)), false), ((.lt (.va 1) (.li 1)), false), ((.app 902 (.va 1)), true), ((.app 57 (.va 0)), true)], some ((.a (.s (.int .i64 160))), [some (.abs (.va 0))])),
  ([((.app 59 (.va 4)), true), ((.lt (.li 1048576) (.va 2)), false), ((.lt (.va 2) (.li 0)), false), ((.eq (.app 50 (.cons (.va 0) (.va 1))) (.li 2)), false), ((.eq (.app 50 (.cons (.va 0) (.va 1))) (.li 0)), false), ((.lt (.li 4096) (.va 1)), false), ((.lt (.va 1) (.li 1)), false), ((.app 902 (.va 1)), true), ((.app 57 (.va 0)), true)], some ((.a (.s (.int .i64 0))), [some (.abs (.app 56 (.cons (.va 0) (.cons (.va 1) (.cons (.va 2) (.va 4))))))])),
  ([((.app 59 (.va 4)), false), ((.lt (.li 1048576) (.va 2)), false), ((.lt (.va 2) (.li 0)), false), ((.eq (.app 50 (.cons (.va 0) (.va 1))) (.li 2)), false), ((.eq (.app 50 (.cons (.va 0) (.va 1))) (.li 0)), false), ((.lt (.li 4096) (.va 1)), false), ((.lt (.va 1) (.li 1)), false), ((.app 902 (.va 1)), true), ((.app 57 (.va 0)), true)], none),
  ([((.app 902 (.va 1)), false), ((.app 57 (.va 0)), true)], none),
  ([((.app 57 (.va 0)), false)], none)]
def smtT : PT := (.node (.app 57 (.va 0)) (.node (.app 902 (.va 1)) (.node (.lt (.va 1) (.li 1)) .dead (.node (.lt (.li 4096) (.va 1)) .dead (.node (.eq (.app 50 (.cons (.va 0) (.va 1))) (.li 0)) .dead (.node (.app 902 (.va 5)) (.node (.lt (.va 5) (.li 1)) .dead (.node (.lt (.li 4096) (.va 5)) .dead (.node (.eq (.app 50 (.cons (.va 0) (.va 5))) (.li 0)) .dead (.node (.eq (.app 50 (.cons (.va 0) (.va 1))) (.li 2)) .dead (.node (.eq (.app 50 (.cons (.va 0) (.va 5))) (.li 2)) .dead (.node (.eq (.app 52 (.cons (.va 0) (.va 1))) (.app 52 (.cons (.va 0) (.va 5)))) (.node (.lt (.li 1048576) (.app 52 (.cons (.va 0) (.va 1)))) .dead (.node (.lt (.li 1048576) (.app 52 (.cons (.va 0) (.va 5)))) .dead .leaf)) .leaf)))))) .dead)))) .dead) .dead)
def smtL : List (List (X × Bool) × Option (EV × List (Option BV))) := [
  ([((.lt (.va 1) (.li 1)), true), ((.app 902 (.va 1)), true), ((.app 57 (.va 0)), true)], none),
  ([((.lt (.li 4096) (.va 1)), true), ((.lt (.va 1) (.li 1)), false), ((.app 902 (.va 1)), true), ((.app 57 (.va 0)), true)], none),
  ([((.eq (.app 50 (.cons (.va 0) (.va 1))) (.li 0)), true), ((.lt (.li 4096) (.va 1)), false), ((.lt (.va 1) (.li 1)), false), ((.app 902 (.va 1)), true), ((.app 57 (.va 0)), true)], none),
  ([((.lt (.va 5) (.li 1)), true), ((.app 902 (.va 5)), true), ((.eq (.app 50 (.cons (.va 0) (.va 1))) (.li 0)), false), ((.lt (.li 4096) (.va 1)), false), ((.lt (.va 1) (.li 1)), false), ((.app 902 (.va 1)), true), ((.app 57 (.va 0)), true)], none),
  ([((.lt (.li 4096) (.va 5)), true), ((.lt (.va 5) (.li 1)), false), ((.app 902 (.va 5)), true), ((.eq (.app 50 (.cons (.va 0) (.va 1))) (.li 0)), false), ((.lt (.li 4096) (.va 1)), false), ((.lt (.va 1) (.li 1)), false), ((.app 902 (.va 1)), true), ((.app 57 (.va 0)), true)], none),
  ([((.eq (.app 50 (.cons (.va 0) (.va 5))) (.li 0)), true), ((.lt (.li 4096) (.va 5)), false), ((.lt (.va 5) (.li 1)), false), ((.app 902 (.va 5)), true), ((.eq (.app 50 (.cons (.va 0) (.va 1))) (.li 0)), false), ((.lt (.li 4096) (.va 1)), false), ((.lt (.va 1) (.li 1)), false), ((.app 902 (.va 1)), true), ((.app 57 (.va 0)), true)], none),
  ([((.eq (.app 50 (.cons (.va 0) (.va 1))) (.li 2)), true), ((.eq (.app 50 (.cons (.va 0) (.va 5))) (.li 0)), false), ((.lt (.li 4096) (.va 5)), false), ((.lt (.va 5) (.li 1)), false), ((.app 902 (.va 5)), true), ((.eq (.app 50 (.cons (.va 0) (.va 1))) (.li 0)), false), ((.lt (.li 4096) (.va 1)), false), ((.lt (.va 1) (.li 1)), false), ((.app 902 (.va 1)), true), ((.app 57 (.va 0)), true)], none),
  ([((.eq (.app 50 (.cons (.va 0) (.va 5))) (.li 2)), true), ((.eq (.app 50 (.cons (.va 0) (.va 1))) (.li 2)), false), ((.eq (.app 50 (.cons (.va 0) (.va 5))) (.li 0)), false), ((.lt (.li 4096) (.va 5)), false), ((.lt (.va 5) (.li 1)), false), ((.app 902 (.va 5)), true), ((.eq (.app 50 (.cons (.va 0) (.va 1))) (.li 0)), false), ((.lt (.li 4096) (.va 1)), false), ((.lt (.va 1) (.li 1)), false), ((.app 902 (.va 1)), true), ((.app 57 (.va 0)), true)], none),
  ([((.lt (.li 1048576) (.app 52 (.cons (.va 0) (.va 1)))), true), ((.eq (.app 52 (.cons (.va 0) (.va 1))) (.app 52 (.cons (.va 0) (.va 5)))), true), ((.eq (.app 50 (.cons (.va 0) (.va 5))) (.li 2)), false), ((.eq (.app 50 (.cons (.va 0) (.va 1))) (.li 2)), false), ((.eq (.app 50 (.cons (.va 0) (.va 5))) (.li 0)), false), ((.lt (.li 4096) (.va 5)), false), ((.lt (.va 5) (.li 1)), false), ((.app 902 (.va 5)), true), ((.eq (.app 50 (.cons (.va 0) (.va 1))) (.li 0)), false), ((.lt (.li 4096) (.va 1)), false), ((.lt (.va 1) (.li 1)), false), ((.app 902 (.va 1)), true), ((.app 57 (.va 0)), true)], none),
  ([((.lt (.li 1048576) (.app 52 (.cons (.va 0) (.va 5)))), true), ((.lt (.li 1048576) (.app 52 (.cons (.va 0) (.va 1)))), false), ((.eq (.app 52 (.cons (.va 0) (.va 1))) (.app 52 (.cons (.va 0) (.va 5)))), true), ((.eq (.app 50 (.cons (.va 0) (.va 5))) (.li 2)), false), ((.eq (.app 50 (.cons (.va 0) (.va 1))) (.li 2)), false), ((.eq (.app 50 (.cons (.va 0) (.va 5))) (.li 0)), false), ((.lt (.li 4096) (.va 5)), false), ((.lt (.va 5) (.li 1)), false), ((.app 902 (.va 5)), true), ((.eq (.app 50 (.cons (.va 0) (.va 1))) (.li 0)), false), ((.lt (.li 4096) (.va 1)), false), ((.lt (.va 1) (.li 1)), false), ((.app 902 (.va 1)), true), ((.app 57 (.va 0)), true)], none),
  ([((.lt (.li 1048576) (.app 52 (.cons (.va 0) (.va 5)))), false), ((.lt (.li 1048576) (.app 52 (.cons (.va 0) (.va 1)))), false), ((.eq (.app 52 (.cons (.va 0) (.va 1))) (.app 52 (.cons (.va 0) (.va 5)))), true), ((.eq (.app 50 (.cons (.va 0) (.va 5))) (.li 2)), false), ((.eq (.app 50 (.cons (.va 0) (.va 1))) (.li 2)), false), ((.eq (.app 50 (.cons (.va 0) (.va 5))) (.li 0)), false), ((.lt (.li 4096) (.va 5)), false), ((.lt (.va 5) (.li 1)), false), ((.app 902 (.va 5)), true), ((.eq (.app 50 (.cons (.va 0) (.va 1))) (.li 0)), false), ((.lt (.li 4096) (.va 1)), false), ((.lt (.va 1) (.li 1)), false), ((.app 902 (.va 1)), true), ((.app 57 (.va 0)), true)], some ((.tup [(.s (.xb (.seq (.app 61 (.cons (.va 0) (.cons (.va 1) (.cons (.li 0) (.app 52 (.cons (.va 0) (.va 1))))))) (.app 61 (.cons (.va 0) (.cons (.va 5) (.cons (.li 0) (.app 52 (.cons (.va 0) (.va 5)))))))))), (.s (.int .i64 0))]), [some (.abs (.va 0))])),
  ([((.eq (.app 52 (.cons (.va 0) (.va 1))) (.app 52 (.cons (.va 0) (.va 5)))), false), ((.eq (.app 50 (.cons (.va 0) (.va 5))) (.li 2)), false), ((.eq (.app 50 (.cons (.va 0) (.va 1))) (.li 2)), false), ((.eq (.app 50 (.cons (.va 0) (.va 5))) (.li 0)), false), ((.lt (.li 4096) (.va 5)), false), ((.lt (.va 5) (.li 1)), false), ((.app 902 (.va 5)), true), ((.eq (.app 50 (.cons (.va 0) (.va 1))) (.li 0)), false), ((.lt (.li 4096) (.va 1)), false), ((.lt (.va 1) (.li 1)), false), ((.app 902 (.va 1)), true), ((.app 57 (.va 0)), true)], some ((.tup [(.s (.bool false)), (.s (.int .i64 0))]), [some (.abs (.va 0))])),
  ([((.app 902 (.va 5)), false), ((.eq (.app 50 (.cons (.va 0) (.va 1))) (.li 0)), false), ((.lt (.li 4096) (.va 1)), false), ((.lt (.va 1) (.li 1)), false), ((.app 902 (.va 1)), true), ((.app 57 (.va 0)), true)], none),
  ([((.app 902 (.va 1)), false), ((.app 57 (.va 0)), true)], none),
  ([((.app 57 (.va 0)), false)], none)]
end Go.Proofs.YtcnimekhpnejlaaGreat.Ev

/- Files: Write, Read, Truncate, Same. -/
namespace Go.Proofs.YtcnimekhpnejlaaGreat.Ev
open Go Go.RowKit
set_option linter.unusedVariables false
set_option linter.unusedSimpArgs false
set_option maxRecDepth 10000

noncomputable def sumW (ρ : Rho) (pc : List (X × Bool)) : Call := sumOr (sumWhole (fun f => (funT.get f).isSome) pc (evCall (ctx rules0 ρ pc) funT.get (sumFi pc) 100000 1000)) (sumFi pc)
theorem sumW_ok {v : Nat → D} {o : Nat → Value} {pc : List (X × Bool)} (hpc : Told (rhoI v o) pc) : CallOk (ctx rules0 (rhoI v o) pc) (sumW (rhoI v o) pc) :=
  sumOr_ok (sumWhole_ok hpc (evCall_ok (rules0_ok _ pc hpc) (show (ctx rules0 (rhoI v o) pc).P.follows .mixedOrders = true from mixed) (funs_ok (C := ctx rules0 (rhoI v o) pc) rfl) (sumFi_ok hpc) 1000)) (sumFi_ok hpc)
theorem wrt_ev (ρ : Rho) : ways (fun pc => (evCall (ctx rules0 ρ pc) funT.get (sumW ρ pc) 100000 1000 10 [.a (.s (.ptr 0 0)), .a (.s (.xi .i64 (.va 1))), .a (.s (.xi .i64 (.va 2))), .a (.s (.xs (.va 3))), .a (.s (.xi .u64 (.va 4)))] oneM 1).map (view [0])) wrtT [] = some wrtL := by kernel_rfl
theorem rdt_ev (ρ : Rho) : ways (fun pc => (evCall (ctx rules0 ρ pc) funT.get (sumFi pc) 100000 1000 11 [.a (.s (.ptr 0 0)), .a (.s (.xi .i64 (.va 1))), .a (.s (.xi .i64 (.va 2))), .a (.s (.xi .i64 (.va 3)))] oneM 1).map (view [0])) rdtT [] = some rdtL := by kernel_rfl
theorem trt_ev (ρ : Rho) : ways (fun pc => (evCall (ctx rules0 ρ pc) funT.get (sumFi pc) 100000 1000 12 [.a (.s (.ptr 0 0)), .a (.s (.xi .i64 (.va 1))), .a (.s (.xi .i64 (.va 2))), .a (.s (.xi .u64 (.va 4)))] oneM 1).map (view [0])) trtT [] = some trtL := by kernel_rfl
theorem smt_ev (ρ : Rho) : ways (fun pc => (evCall (ctx rules0 ρ pc) funT.get (sumFi pc) 100000 1000 13 [.a (.s (.ptr 0 0)), .a (.s (.xi .i64 (.va 1))), .a (.s (.xi .i64 (.va 5)))] oneM 1).map (view [0])) smtT [] = some smtL := by kernel_rfl
end Go.Proofs.YtcnimekhpnejlaaGreat.Ev

/- Files: what Write, Read, Truncate and Same answer. -/
namespace Go.Proofs.YtcnimekhpnejlaaGreat.Ev
open Go Go.RowKit
set_option linter.unusedVariables false
set_option linter.unusedSimpArgs false
set_option maxRecDepth 10000

theorem one_came {w : World} {x : Nat} {d : D} (h : isD Tryz.prog d x w) {v : Nat → D} {o : Nat → Value} {g : Nat} {vs : Array Value} {ev : EV} {e : X} (hc : Came Tryz.prog g vs (envL [x] (rhoI v o)) oneM 1 w [0] (ev, [some (.abs e)])) {Q : Value → D → Prop} (hQ : ∀ E' u, E'.ρ = rhoI v o → ev.rel E' u → Q u (e.val (rhoI v o))) :
    Calls Tryz.prog g vs w fun en w' => ∃ u d', en = .returned u ∧ Q u d' ∧ isD Tryz.prog d' x w' ∧ (∀ k, ownD Tryz.prog x w' k → ownD Tryz.prog x w k ∨ w.heap.size ≤ k) ∧ But (ownD Tryz.prog x w) w w' := by
  refine Calls.mono hc fun en w' ⟨u, E', h', nx', he, hg, hv, hview⟩ => ?_
  have hd := one_done h hg (List.cons.inj hview).1.symm
  exact ⟨u, _, he, hQ E' u hg.ext.ρ hv, hd.1, hd.2.1, hd.2.2⟩
theorem seq_bool {ρ : Rho} {a b : X} {s t : ByteArray} (ha : a.str ρ = s) (hb : b.str ρ = t) : X.bool ρ (.seq a b) = decide (s.data.toList = t.data.toList) := by
  show ((a.str ρ).toList == (b.str ρ).toList) = _
  rw [ha, hb, ByteArray.toList_eq, ByteArray.toList_eq]
  exact Bool.eq_iff_iff.2 (by simp)
theorem tupV2 {E : Env} {a b : AV} {v va vb : Value} (h : (EV.tup [a, b]).rel E v) (ha : ∀ x, a.rel E x → x = va) (hb : ∀ x, b.rel E x → x = vb) : v = .tuple #[va, vb] := tup2 h ha hb
/-- What an inode of a file is to be. -/
structure FileN (S : Int → Nd) (n : Int) : Prop where
  num : 1 ≤ n ∧ n ≤ 4096
  kind : (S n).kind = 1
theorem size_le {w : World} {x : Nat} {S : Int → Nd} (h : isD Tryz.prog (.st (.ino S)) x w) (n : Int) : (S n).bytes.length ≤ 1048576 := by
  obtain ⟨m, L, hI⟩ := h
  exact (hI.ok n).size

/-- Read. -/
theorem file_read {w : World} {x : Nat} {S : Int → Nd} (h : isD Tryz.prog (.st (.ino S)) x w) {n : Int} (hn : FileN S n) {a m : Int} (ha : i64 a) (hm : i64 m) :
    Acts Tryz.prog 11 x [.int .i64 n, .int .i64 a, .int .i64 m] w fun u d => d = .st (.ino S) ∧ u = if a < 0 ∨ m < 0 then .tuple #[.string ⟨#[]⟩, .int .i64 1] else .tuple #[.string ⟨(readB (S n).bytes a.toNat m.toNat).toArray⟩, .int .i64 0] := by
  have hsz := size_le h n
  obtain ⟨hn1, hn2⟩ := hn
  unfold i64 at ha hm
  obtain ⟨ρ, hρ⟩ : ∃ ρ, ρ = rhoI (ofL [.st (.ino S), .i n, .i a, .i m]) fun _ => undef := ⟨_, rfl⟩
  have hr : HRel (envL [x] ρ) oneM w := by rw [hρ]; exact one_open h _ _
  have hok : Rels (EV.rel (envL [x] ρ)) [EV.a (.s (.ptr 0 0)), .a (.s (.xi .i64 (.va 1))), .a (.s (.xi .i64 (.va 2))), .a (.s (.xi .i64 (.va 3)))] [.pointer (some ⟨x, 0, none⟩), .int .i64 n, .int .i64 a, .int .i64 m] := by
    rw [hρ]
    exact ⟨⟨⟨x, 0, 0⟩, envL_at rfl, rfl⟩, rfl, rfl, rfl, trivial⟩
  obtain ⟨y, hy, ht, hcm⟩ := ways_calls (R := rules0) (rules0_ok ρ) (fun pc hpc => by rw [hρ] at hpc ⊢; exact sumFi_ok hpc) (rdt_ev ρ) hr rfl (envL_fresh _ _) hok
  have h1 : X.int ρ (.va 1) = n := by rw [hρ]; rfl
  have h2 : X.int ρ (.va 2) = a := by rw [hρ]; rfl
  have h3 : X.int ρ (.va 3) = m := by rw [hρ]; rfl
  have q57 : X.bool ρ (.app 57 (.va 0)) = true := by rw [hρ]; rfl
  have q902 : X.bool ρ (.app 902 (.va 1)) = true := by
    rw [hρ]
    exact decide_eq_true (show -9223372036854775808 ≤ n ∧ n ≤ 9223372036854775807 by omega)
  have q50 : X.int ρ (.app 50 (.cons (.va 0) (.va 1))) = 1 := by rw [hρ]; exact hn2
  have q52 : X.int ρ (.app 52 (.cons (.va 0) (.va 1))) = ((S n).bytes.length : Nat) := by rw [hρ]; rfl
  have hend : 0 ≤ a → 0 ≤ m → a < ((S n).bytes.length : Nat) → X.int ρ (.bin .add .i64 (.va 2) (.mn (.va 3) (.bin .sub .i64 (.app 52 (.cons (.va 0) (.va 1))) (.va 2)))) = (a.toNat + min m.toNat ((S n).bytes.length - a.toNat) : Nat) := fun g1 g2 g3 => by
    show IntKind.i64.wrap (X.int ρ (.va 2) + (if IntKind.i64.wrap (X.int ρ (.app 52 (.cons (.va 0) (.va 1))) - X.int ρ (.va 2)) < X.int ρ (.va 3) then IntKind.i64.wrap (X.int ρ (.app 52 (.cons (.va 0) (.va 1))) - X.int ρ (.va 2)) else X.int ρ (.va 3))) = _
    rw [h2, h3, q52, wrap_i (n := ((S n).bytes.length : Nat) - a) (by omega) (by omega)]
    split <;> rw [wrap_i (by omega) (by omega)] <;> omega
  have hcm2 : ∀ r, y.2 = some r → Came Tryz.prog 11 #[.pointer (some ⟨x, 0, none⟩), .int .i64 n, .int .i64 a, .int .i64 m] (envL [x] (rhoI (ofL [.st (.ino S), .i n, .i a, .i m]) fun _ => undef)) oneM 1 w [0] r := by
    rw [← hρ]
    exact hcm
  simp only [rdtL, List.mem_cons, List.not_mem_nil, or_false] at hy
  rcases hy with rfl | rfl | rfl | rfl | rfl | rfl | rfl | rfl | rfl | rfl | rfl <;> simp only [told_cons, told_nil, eq_true, eq_false, lt_true, lt_false, h1, h2, h3, q57, q902, q50, q52, li_int, and_true, true_and, reduceCtorEq, false_and, and_false] at ht
  all_goals first
    | omega
    | (have := hend (by omega) (by omega) (by omega); omega)
    | skip
  · refine one_came h (hcm2 _ rfl) fun E' u hE hv => ⟨rfl, ?_⟩
    rw [if_pos (by omega)]
    exact tup2 hv (fun x hx => hx) int_v
  · refine one_came h (hcm2 _ rfl) fun E' u hE hv => ⟨rfl, ?_⟩
    rw [if_pos (by omega)]
    exact tup2 hv (fun x hx => hx) int_v
  · refine one_came h (hcm2 _ rfl) fun E' u hE hv => ⟨rfl, ?_⟩
    rw [if_neg (by omega)]
    refine tup2 hv (fun x hx => ?_) int_v
    have hx : x = .string (X.str E'.ρ (.app 61 (.cons (.va 0) (.cons (.va 1) (.cons (.va 2) (.bin .add .i64 (.va 2) (.mn (.va 3) (.bin .sub .i64 (.app 52 (.cons (.va 0) (.va 1))) (.va 2))))))))) := hx
    rw [hx, hE, ← hρ]
    have e1 : X.str ρ (.app 61 (.cons (.va 0) (.cons (.va 1) (.cons (.va 2) (.bin .add .i64 (.va 2) (.mn (.va 3) (.bin .sub .i64 (.app 52 (.cons (.va 0) (.va 1))) (.va 2)))))))) = ⟨(rdB (S n).bytes a.toNat (X.int ρ (.bin .add .i64 (.va 2) (.mn (.va 3) (.bin .sub .i64 (.app 52 (.cons (.va 0) (.va 1))) (.va 2))))).toNat).toArray⟩ := by
      rw [hρ]
      rfl
    rw [e1, hend (by omega) (by omega) (by omega), Int.toNat_natCast, rdB_read (by omega)]
  · refine one_came h (hcm2 _ rfl) fun E' u hE hv => ⟨rfl, ?_⟩
    rw [if_neg (by omega), readB_past (by omega)]
    exact tup2 hv (fun x hx => hx) int_v

/-- Truncate. -/
theorem file_truncate {w : World} {x : Nat} {S : Int → Nd} (h : isD Tryz.prog (.st (.ino S)) x w) {n : Int} (hn : FileN S n) {a : Int} (ha : i64 a) {st : Int} (hst : 0 ≤ st ∧ st ≤ 18446744073709551615) :
    Acts Tryz.prog 12 x [.int .i64 n, .int .i64 a, .int .u64 st] w fun u d => if a < 0 then d = .st (.ino S) ∧ u = .int .i64 1 else if 1048576 < a then d = .st (.ino S) ∧ u = .int .i64 160 else d = .st (.ino (updS S n (resN (S n) a.toNat st))) ∧ u = .int .i64 0 := by
  obtain ⟨hn1, hn2⟩ := hn
  unfold i64 at ha
  obtain ⟨ρ, hρ⟩ : ∃ ρ, ρ = rhoI (ofL [.st (.ino S), .i n, .i a, .z, .i st]) fun _ => undef := ⟨_, rfl⟩
  have hr : HRel (envL [x] ρ) oneM w := by rw [hρ]; exact one_open h _ _
  have hok : Rels (EV.rel (envL [x] ρ)) [EV.a (.s (.ptr 0 0)), .a (.s (.xi .i64 (.va 1))), .a (.s (.xi .i64 (.va 2))), .a (.s (.xi .u64 (.va 4)))] [.pointer (some ⟨x, 0, none⟩), .int .i64 n, .int .i64 a, .int .u64 st] := by
    rw [hρ]
    exact ⟨⟨⟨x, 0, 0⟩, envL_at rfl, rfl⟩, rfl, rfl, rfl, trivial⟩
  obtain ⟨y, hy, ht, hcm⟩ := ways_calls (R := rules0) (rules0_ok ρ) (fun pc hpc => by rw [hρ] at hpc ⊢; exact sumFi_ok hpc) (trt_ev ρ) hr rfl (envL_fresh _ _) hok
  have h1 : X.int ρ (.va 1) = n := by rw [hρ]; rfl
  have h2 : X.int ρ (.va 2) = a := by rw [hρ]; rfl
  have q57 : X.bool ρ (.app 57 (.va 0)) = true := by rw [hρ]; rfl
  have q902 : X.bool ρ (.app 902 (.va 1)) = true := by
    rw [hρ]
    exact decide_eq_true (show -9223372036854775808 ≤ n ∧ n ≤ 9223372036854775807 by omega)
  have q50 : X.int ρ (.app 50 (.cons (.va 0) (.va 1))) = 1 := by rw [hρ]; exact hn2
  have q59 : X.bool ρ (.app 59 (.va 4)) = true := by
    rw [hρ]
    exact decide_eq_true (show 0 ≤ st ∧ st ≤ 18446744073709551615 by exact hst)
  have hcm2 : ∀ r, y.2 = some r → Came Tryz.prog 12 #[.pointer (some ⟨x, 0, none⟩), .int .i64 n, .int .i64 a, .int .u64 st] (envL [x] (rhoI (ofL [.st (.ino S), .i n, .i a, .z, .i st]) fun _ => undef)) oneM 1 w [0] r := by
    rw [← hρ]
    exact hcm
  simp only [trtL, List.mem_cons, List.not_mem_nil, or_false] at hy
  rcases hy with rfl | rfl | rfl | rfl | rfl | rfl | rfl | rfl | rfl | rfl <;> simp only [told_cons, told_nil, eq_true, eq_false, lt_true, lt_false, h1, h2, q57, q902, q50, q59, li_int, and_true, true_and, reduceCtorEq, false_and, and_false] at ht
  all_goals first
    | omega
    | skip
  · refine one_came h (hcm2 _ rfl) fun E' u hE hv => ?_
    rw [if_pos (by omega)]
    exact ⟨rfl, hv⟩
  · refine one_came h (hcm2 _ rfl) fun E' u hE hv => ?_
    rw [if_neg (by omega), if_pos (by omega)]
    exact ⟨rfl, hv⟩
  · refine one_came h (hcm2 _ rfl) fun E' u hE hv => ?_
    rw [if_neg (by omega), if_neg (by omega)]
    exact ⟨rfl, hv⟩

/-- Same. -/
theorem file_same {w : World} {x : Nat} {S : Int → Nd} (h : isD Tryz.prog (.st (.ino S)) x w) {n m : Int} (hn : FileN S n) (hm : FileN S m) :
    Acts Tryz.prog 13 x [.int .i64 n, .int .i64 m] w fun u d => d = .st (.ino S) ∧ u = .tuple #[.bool (decide ((S n).bytes = (S m).bytes)), .int .i64 0] := by
  have hsz := size_le h n
  have hsz2 := size_le h m
  obtain ⟨hn1, hn2⟩ := hn
  obtain ⟨hm1, hm2⟩ := hm
  obtain ⟨ρ, hρ⟩ : ∃ ρ, ρ = rhoI (ofL [.st (.ino S), .i n, .z, .z, .z, .i m]) fun _ => undef := ⟨_, rfl⟩
  have hr : HRel (envL [x] ρ) oneM w := by rw [hρ]; exact one_open h _ _
  have hok : Rels (EV.rel (envL [x] ρ)) [EV.a (.s (.ptr 0 0)), .a (.s (.xi .i64 (.va 1))), .a (.s (.xi .i64 (.va 5)))] [.pointer (some ⟨x, 0, none⟩), .int .i64 n, .int .i64 m] := by
    rw [hρ]
    exact ⟨⟨⟨x, 0, 0⟩, envL_at rfl, rfl⟩, rfl, rfl, trivial⟩
  obtain ⟨y, hy, ht, hcm⟩ := ways_calls (R := rules0) (rules0_ok ρ) (fun pc hpc => by rw [hρ] at hpc ⊢; exact sumFi_ok hpc) (smt_ev ρ) hr rfl (envL_fresh _ _) hok
  have h1 : X.int ρ (.va 1) = n := by rw [hρ]; rfl
  have h5 : X.int ρ (.va 5) = m := by rw [hρ]; rfl
  have q57 : X.bool ρ (.app 57 (.va 0)) = true := by rw [hρ]; rfl
  have q902 : X.bool ρ (.app 902 (.va 1)) = true := by
    rw [hρ]
    exact decide_eq_true (show -9223372036854775808 ≤ n ∧ n ≤ 9223372036854775807 by omega)
  have q902b : X.bool ρ (.app 902 (.va 5)) = true := by
    rw [hρ]
    exact decide_eq_true (show -9223372036854775808 ≤ m ∧ m ≤ 9223372036854775807 by omega)
  have q50 : X.int ρ (.app 50 (.cons (.va 0) (.va 1))) = 1 := by rw [hρ]; exact hn2
  have q50b : X.int ρ (.app 50 (.cons (.va 0) (.va 5))) = 1 := by rw [hρ]; exact hm2
  have q52 : X.int ρ (.app 52 (.cons (.va 0) (.va 1))) = ((S n).bytes.length : Nat) := by rw [hρ]; rfl
  have q52b : X.int ρ (.app 52 (.cons (.va 0) (.va 5))) = ((S m).bytes.length : Nat) := by rw [hρ]; rfl
  have hcm2 : ∀ r, y.2 = some r → Came Tryz.prog 13 #[.pointer (some ⟨x, 0, none⟩), .int .i64 n, .int .i64 m] (envL [x] (rhoI (ofL [.st (.ino S), .i n, .z, .z, .z, .i m]) fun _ => undef)) oneM 1 w [0] r := by
    rw [← hρ]
    exact hcm
  simp only [smtL, List.mem_cons, List.not_mem_nil, or_false] at hy
  rcases hy with rfl | rfl | rfl | rfl | rfl | rfl | rfl | rfl | rfl | rfl | rfl | rfl | rfl | rfl | rfl <;> simp only [told_cons, told_nil, eq_true, eq_false, lt_true, lt_false, h1, h5, q57, q902, q902b, q50, q50b, q52, q52b, li_int, and_true, true_and, reduceCtorEq, false_and, and_false] at ht
  all_goals first
    | omega
    | skip
  · refine one_came h (hcm2 _ rfl) fun E' u hE hv => ⟨rfl, ?_⟩
    refine tup2 hv (fun x hx => ?_) int_v
    have hx : x = .bool (X.bool E'.ρ (.seq (.app 61 (.cons (.va 0) (.cons (.va 1) (.cons (.li 0) (.app 52 (.cons (.va 0) (.va 1))))))) (.app 61 (.cons (.va 0) (.cons (.va 5) (.cons (.li 0) (.app 52 (.cons (.va 0) (.va 5))))))))) := hx
    rw [hx, hE, ← hρ]
    have e1 : X.str ρ (.app 61 (.cons (.va 0) (.cons (.va 1) (.cons (.li 0) (.app 52 (.cons (.va 0) (.va 1))))))) = ⟨(rdB (S n).bytes 0 (X.int ρ (.app 52 (.cons (.va 0) (.va 1)))).toNat).toArray⟩ := by rw [hρ]; rfl
    have e2 : X.str ρ (.app 61 (.cons (.va 0) (.cons (.va 5) (.cons (.li 0) (.app 52 (.cons (.va 0) (.va 5))))))) = ⟨(rdB (S m).bytes 0 (X.int ρ (.app 52 (.cons (.va 0) (.va 5)))).toNat).toArray⟩ := by rw [hρ]; rfl
    rw [q52, Int.toNat_natCast, rdB_all] at e1
    rw [q52b, Int.toNat_natCast, rdB_all] at e2
    rw [seq_bool e1 e2]
  · refine one_came h (hcm2 _ rfl) fun E' u hE hv => ⟨rfl, ?_⟩
    have hne : decide ((S n).bytes = (S m).bytes) = false := decide_eq_false fun e => by
      rw [e] at ht
      exact ht.1 rfl
    rw [hne]
    exact tup2 hv (fun x hx => hx) int_v
end Go.Proofs.YtcnimekhpnejlaaGreat.Ev

/- Files: what Write answers. -/
namespace Go.Proofs.YtcnimekhpnejlaaGreat.Ev
open Go Go.RowKit
set_option linter.unusedVariables false
set_option linter.unusedSimpArgs false
set_option maxRecDepth 10000

/-- Write. -/
theorem file_write {w : World} {x : Nat} {S : Int → Nd} (h : isD Tryz.prog (.st (.ino S)) x w) {n : Int} (hn : FileN S n) {a : Int} (ha : i64 a) {s : ByteArray} {st : Int} (hst : 0 ≤ st ∧ st ≤ 18446744073709551615) :
    Acts Tryz.prog 10 x [.int .i64 n, .int .i64 a, .string s, .int .u64 st] w fun u d => if 0 ≤ a ∧ a + (s.size : Nat) ≤ 1048576 then d = .st (.ino (updS S n (wrN (S n) a.toNat s.data.toList st))) ∧ u = .tuple #[.int .i64 (a + (s.size : Nat)), .int .i64 0]
      else d = .st (.ino S) ∧ u = .tuple #[.int .i64 0, .int .i64 (if a < 0 then 1 else 160)] := by
  have hsz := size_le h n
  have hl := ba_size s
  obtain ⟨hn1, hn2⟩ := hn
  unfold i64 at ha
  obtain ⟨ρ, hρ⟩ : ∃ ρ, ρ = rhoI (ofL [.st (.ino S), .i n, .i a, .s s, .i st]) fun _ => undef := ⟨_, rfl⟩
  have hr : HRel (envL [x] ρ) oneM w := by rw [hρ]; exact one_open h _ _
  have hok : Rels (EV.rel (envL [x] ρ)) [EV.a (.s (.ptr 0 0)), .a (.s (.xi .i64 (.va 1))), .a (.s (.xi .i64 (.va 2))), .a (.s (.xs (.va 3))), .a (.s (.xi .u64 (.va 4)))] [.pointer (some ⟨x, 0, none⟩), .int .i64 n, .int .i64 a, .string s, .int .u64 st] := by
    rw [hρ]
    exact ⟨⟨⟨x, 0, 0⟩, envL_at rfl, rfl⟩, rfl, rfl, rfl, rfl, trivial⟩
  obtain ⟨y, hy, ht, hcm⟩ := ways_calls (R := rules0) (rules0_ok ρ) (fun pc hpc => by rw [hρ] at hpc ⊢; exact sumW_ok hpc) (wrt_ev ρ) hr rfl (envL_fresh _ _) hok
  have h1 : X.int ρ (.va 1) = n := by rw [hρ]; rfl
  have h2 : X.int ρ (.va 2) = a := by rw [hρ]; rfl
  have h3 : X.str ρ (.va 3) = s := by rw [hρ]; rfl
  have hln : X.int ρ (.len (.va 3)) = (s.size : Nat) := by show (((X.str ρ (.va 3)).size : Nat) : Int) = _; rw [h3]
  have q57 : X.bool ρ (.app 57 (.va 0)) = true := by rw [hρ]; rfl
  have q902 : X.bool ρ (.app 902 (.va 1)) = true := by
    rw [hρ]
    exact decide_eq_true (show -9223372036854775808 ≤ n ∧ n ≤ 9223372036854775807 by omega)
  have q50 : X.int ρ (.app 50 (.cons (.va 0) (.va 1))) = 1 := by rw [hρ]; exact hn2
  have q52 : X.int ρ (.app 52 (.cons (.va 0) (.va 1))) = ((S n).bytes.length : Nat) := by rw [hρ]; rfl
  have q59 : X.bool ρ (.app 59 (.va 4)) = true := by
    rw [hρ]
    exact decide_eq_true (show 0 ≤ st ∧ st ≤ 18446744073709551615 by exact hst)
  have hseq : X.bool ρ (.seq (.va 3) (.ls ⟨#[]⟩)) = decide (s.data.toList = []) := seq_bool (t := ⟨#[]⟩) h3 rfl
  have hsub : 0 ≤ a → X.int ρ (.bin .sub .i64 (.li 1048576) (.va 2)) = 1048576 - a := fun g => by
    show IntKind.i64.wrap (1048576 - X.int ρ (.va 2)) = _
    rw [h2, wrap_i (by omega) (by omega)]
  have hend : 0 ≤ a → a + (s.size : Nat) ≤ 1048576 → X.int ρ (.bin .add .i64 (.va 2) (.len (.va 3))) = a + (s.size : Nat) := fun g1 g2 => by
    show IntKind.i64.wrap (X.int ρ (.va 2) + X.int ρ (.len (.va 3))) = _
    rw [h2, hln, wrap_i (by omega) (by omega)]
  have q57r : X.bool ρ (.app 57 (.app 56 (.cons (.va 0) (.cons (.va 1) (.cons (.bin .add .i64 (.va 2) (.len (.va 3))) (.va 4)))))) = true := by rw [hρ]; rfl
  have q57l : ∀ e, X.bool ρ (.app 57 e) = true → X.bool ρ (.app 57 (.app 60 (.cons e (.cons (.va 1) (.cons (.va 2) (.cons (.va 3) (.va 4))))))) = true := fun e he => by
    rw [hρ] at he ⊢
    have he : (FNi 57 (X.val (rhoI (ofL [.st (.ino S), .i n, .i a, .s s, .i st]) fun _ => undef) e)).bool = true := he
    obtain ⟨S1, hS1⟩ : ∃ S1, X.val (rhoI (ofL [.st (.ino S), .i n, .i a, .s s, .i st]) fun _ => undef) e = .st (.ino S1) := by
      generalize X.val _ e = d at he ⊢
      cases d with
      | st q =>
        cases q with
        | ino S1 => exact ⟨S1, rfl⟩
        | _ => cases he
      | _ => cases he
    show (FNi 57 (FNi 60 (.p (X.val _ e) _))).bool = true
    rw [hS1]
    rfl
  have q57a := q57l _ q57r
  have q57b := q57l _ q57
  have q50r : X.int ρ (.app 50 (.cons (.app 56 (.cons (.va 0) (.cons (.va 1) (.cons (.bin .add .i64 (.va 2) (.len (.va 3))) (.va 4))))) (.va 1))) = 1 := by
    rw [hρ]
    show ((updS S n (resN (S n) _ st)) n).kind = 1
    rw [updS_at]
    exact hn2
  have q62r : 0 ≤ a → a + (s.size : Nat) ≤ 1048576 → X.bool ρ (.app 62 (.cons (.app 56 (.cons (.va 0) (.cons (.va 1) (.cons (.bin .add .i64 (.va 2) (.len (.va 3))) (.va 4))))) (.cons (.va 1) (.cons (.va 2) (.va 3))))) = true := fun g1 g2 => by
    have e1 : X.bool ρ (.app 62 (.cons (.app 56 (.cons (.va 0) (.cons (.va 1) (.cons (.bin .add .i64 (.va 2) (.len (.va 3))) (.va 4))))) (.cons (.va 1) (.cons (.va 2) (.va 3))))) = decide (0 ≤ a ∧ a + (s.size : Nat) ≤ (((updS S n (resN (S n) (X.int ρ (.bin .add .i64 (.va 2) (.len (.va 3)))).toNat st)) n).bytes.length : Nat)) := by rw [hρ]; rfl
    rw [e1, updS_at, hend g1 g2]
    refine decide_eq_true ⟨g1, ?_⟩
    show _ ≤ ((resizeB (S n).bytes _).length : Int)
    rw [resizeB_length]
    omega
  have q62 : 0 ≤ a → a + (s.size : Nat) ≤ ((S n).bytes.length : Nat) → X.bool ρ (.app 62 (.cons (.va 0) (.cons (.va 1) (.cons (.va 2) (.va 3))))) = true := fun g1 g2 => by
    have e1 : X.bool ρ (.app 62 (.cons (.va 0) (.cons (.va 1) (.cons (.va 2) (.va 3))))) = decide (0 ≤ a ∧ a + (s.size : Nat) ≤ ((S n).bytes.length : Nat)) := by rw [hρ]; rfl
    rw [e1]
    exact decide_eq_true ⟨g1, g2⟩
  have hcm2 : ∀ r, y.2 = some r → Came Tryz.prog 10 #[.pointer (some ⟨x, 0, none⟩), .int .i64 n, .int .i64 a, .string s, .int .u64 st] (envL [x] (rhoI (ofL [.st (.ino S), .i n, .i a, .s s, .i st]) fun _ => undef)) oneM 1 w [0] r := by
    rw [← hρ]
    exact hcm
  simp only [wrtL, List.mem_cons, List.not_mem_nil, or_false] at hy
  rcases hy with rfl | rfl | rfl | rfl | rfl | rfl | rfl | rfl | rfl | rfl | rfl | rfl | rfl | rfl | rfl | rfl | rfl | rfl | rfl | rfl | rfl | rfl <;> simp only [told_cons, told_nil, eq_true, eq_false, lt_true, lt_false, h1, h2, hln, hseq, q57, q57r, q57a, q57b, q902, q50, q50r, q52, q59, li_int, and_true, true_and, reduceCtorEq, false_and, and_false, decide_eq_true_eq, decide_eq_false_iff_not] at ht
  all_goals first
    | omega
    | (have := hsub (by omega); have := hend (by omega) (by omega); omega)
    | (have := hsub (by omega); have := hend (by omega) (by omega); have := q62r (by omega) (by omega); simp only [this, reduceCtorEq, and_true, true_and, false_and, and_false] at ht; done)
    | (have := hsub (by omega); have := hend (by omega) (by omega); have := q62 (by omega) (by omega); simp only [this, reduceCtorEq, and_true, true_and, false_and, and_false] at ht; done)
    | skip
  · refine one_came h (hcm2 _ rfl) fun E' u hE hv => ?_
    rw [if_neg (by omega), if_pos (by omega)]
    exact ⟨rfl, tup2 hv (fun x hx => hx) int_v⟩
  · refine one_came h (hcm2 _ rfl) fun E' u hE hv => ?_
    rw [if_neg (by omega), if_neg (by omega)]
    exact ⟨rfl, tup2 hv (fun x hx => hx) int_v⟩
  · have := hsub (by omega)
    refine one_came h (hcm2 _ rfl) fun E' u hE hv => ?_
    rw [if_neg (by omega), if_neg (by omega)]
    exact ⟨rfl, tup2 hv (fun x hx => hx) int_v⟩
  · have h0 : s.size = 0 := by rw [← hl, ht.1]; rfl
    refine one_came h (hcm2 _ rfl) fun E' u hE hv => ?_
    rw [if_pos (by omega), ht.1, h0]
    refine ⟨?_, ?_⟩
    · have e1 : wrN (S n) a.toNat [] st = S n := if_pos rfl
      rw [e1]
      show D.st (.ino S) = _
      congr 2
      funext k
      unfold updS
      split
      · rename_i e; rw [e]
      · rfl
    · refine tup2 hv (fun x hx => ?_) int_v
      have hx : x = .int .i64 (X.int E'.ρ (.va 2)) := hx
      rw [hx, hE, ← hρ, h2]
      simp
  · have hs1 := hsub (by omega)
    have hs2 := hend (by omega) (by omega)
    have hne : s.data.toList ≠ [] := by
      intro e
      simp only [e, not_true_eq_false, false_and, and_false] at ht
    refine one_came h (hcm2 _ rfl) fun E' u hE hv => ?_
    rw [if_pos (by omega)]
    refine ⟨?_, ?_⟩
    · show D.st (.ino (updS (updS S n (resN (S n) (X.int (rhoI (ofL [.st (.ino S), .i n, .i a, .s s, .i st]) fun _ => undef) (.bin .add .i64 (.va 2) (.len (.va 3)))).toNat st)) n (layN ((updS S n (resN (S n) (X.int (rhoI (ofL [.st (.ino S), .i n, .i a, .s s, .i st]) fun _ => undef) (.bin .add .i64 (.va 2) (.len (.va 3)))).toNat st)) n) a.toNat s.data.toList st))) = _
      rw [updS_two, updS_at, ← hρ, hs2]
      congr 3
      have e1 : layN (resN (S n) (a + (s.size : Nat)).toNat st) a.toNat s.data.toList st = { resN (S n) (a + (s.size : Nat)).toNat st with bytes := overB (resizeB (S n).bytes (a + (s.size : Nat)).toNat) a.toNat s.data.toList, stamp := st } := if_neg hne
      have e2 : wrN (S n) a.toNat s.data.toList st = { S n with bytes := writeB (S n).bytes a.toNat s.data.toList, stamp := st } := if_neg hne
      rw [e1, e2]
      unfold writeB
      rw [if_neg hne, hl, show max (S n).bytes.length (a.toNat + s.size) = (a + (s.size : Nat)).toNat by omega]
      rfl
    · refine tup2 hv (fun x hx => ?_) int_v
      have hx : x = .int .i64 (X.int E'.ρ (.bin .add .i64 (.va 2) (.len (.va 3)))) := hx
      rw [hx, hE, ← hρ, hs2]
  · have hs1 := hsub (by omega)
    have hs2 := hend (by omega) (by omega)
    have hne : s.data.toList ≠ [] := by
      intro e
      simp only [e, not_true_eq_false, false_and, and_false] at ht
    refine one_came h (hcm2 _ rfl) fun E' u hE hv => ?_
    rw [if_pos (by omega)]
    refine ⟨?_, ?_⟩
    · show D.st (.ino (updS S n (layN (S n) a.toNat s.data.toList st))) = _
      congr 3
      have e1 : layN (S n) a.toNat s.data.toList st = { S n with bytes := overB (S n).bytes a.toNat s.data.toList, stamp := st } := if_neg hne
      have e2 : wrN (S n) a.toNat s.data.toList st = { S n with bytes := writeB (S n).bytes a.toNat s.data.toList, stamp := st } := if_neg hne
      rw [e1, e2]
      unfold writeB
      have e3 : resizeB (S n).bytes (S n).bytes.length = (S n).bytes := rdB_all (S n).bytes
      rw [if_neg hne, hl, show max (S n).bytes.length (a.toNat + s.size) = (S n).bytes.length by omega, e3]
    · refine tup2 hv (fun x hx => ?_) int_v
      have hx : x = .int .i64 (X.int E'.ρ (.bin .add .i64 (.va 2) (.len (.va 3)))) := hx
      rw [hx, hE, ← hρ, hs2]
end Go.Proofs.YtcnimekhpnejlaaGreat.Ev
