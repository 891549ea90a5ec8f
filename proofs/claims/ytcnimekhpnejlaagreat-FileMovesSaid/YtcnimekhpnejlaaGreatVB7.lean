/- Texts of this seat joined into one: I3, I4, I5T, I5. -/
import Derived.Test.YtcnimekhpnejlaaGreatVB6

/- Inodes: Get. -/
namespace Go.Proofs.YtcnimekhpnejlaaGreat.Ev
open Go Go.RowKit
set_option linter.unusedVariables false
set_option linter.unusedSimpArgs false
set_option maxRecDepth 10000

theorem wrap_i {n : Int} (h0 : -9223372036854775808 ≤ n) (h1 : n ≤ 9223372036854775807) : IntKind.i64.wrap n = n := by
  simp [IntKind.wrap, IntKind.bits, IntKind.signed]
  omega
/-- The place of a number. -/
theorem quo_int {ρ : Rho} {n : Int} (hv : ρ.v 1 = .i n) (h0 : 1 ≤ n) (h1 : n ≤ 4096) : X.int ρ (.bin .quo .i64 (.bin .sub .i64 (.va 1) (.li 1)) (.li 4)) = (n - 1) / 4 := by
  show IntKind.i64.wrap ((IntKind.i64.wrap ((ρ.v 1).int - 1)).tdiv 4) = _
  rw [hv]
  show IntKind.i64.wrap ((IntKind.i64.wrap (n - 1)).tdiv 4) = _
  rw [wrap_i (n := n - 1) (by omega) (by omega), Int.tdiv_eq_ediv_of_nonneg (by omega), wrap_i (by omega) (by omega)]
theorem rem_int {ρ : Rho} {n : Int} (hv : ρ.v 1 = .i n) (h0 : 1 ≤ n) (h1 : n ≤ 4096) : X.int ρ (.bin .rem .i64 (.bin .sub .i64 (.va 1) (.li 1)) (.li 4)) = (n - 1) % 4 := by
  show (IntKind.i64.wrap ((ρ.v 1).int - 1)).tmod 4 = _
  rw [hv]
  show (IntKind.i64.wrap (n - 1)).tmod 4 = _
  rw [wrap_i (n := n - 1) (by omega) (by omega), Int.tmod_eq_emod_of_nonneg (by omega)]

/-- Inodes of which one is not kept, closed as they were. -/
theorem ino_same {w w' : World} {x m : Nat} {S : Int → Nd} {L : Int → Option (Nat × Nat × Nat)} (h : Inos Tryz.prog w x S m L) {v : Nat → D} {o : Nat → Value} (hc : (o 0).oneCell' = true) (hv0 : v 0 = .st (.works fun k => (L k).map (·.1)))
    {nx nx' : Nat} {E' : Env} {h' : T Blk} (hg : Goes (envL [x, m] (rhoV v o)) inoA nx w E' h' nx' w')
    (v0 : (h'.get 0).map Blk.view = some (.cells 107 (inoL 1))) (v1 : (h'.get 1).map Blk.view = some (.opq (.va 0) [(.li 0, 0)])) :
    isD Tryz.prog (.st (.ino S)) x w' ∧ (∀ k, ownD Tryz.prog x w' k → ownD Tryz.prog x w k ∨ w.heap.size ≤ k) ∧ But (ownD Tryz.prog x w) w w' := by
  have hρ : E'.ρ = rhoV v o := hg.ext.ρ
  have m0 : E'.m 0 = some ⟨x, 0, 0⟩ := hg.ext.m _ _ (envL_at rfl)
  have m1 : E'.m 1 = some ⟨m, 0, 0⟩ := hg.ext.m _ _ (envL_at rfl)
  have hrow := row_of_view hg.rel v0 inoL_one m0
  rw [inoL_den rfl m1] at hrow
  obtain ⟨o1, hob, _, hoq⟩ := opq_of_view hg.rel v1 m1
  rw [hρ] at hoq
  have hoq : oqD Tryz.prog (v 0) (linksOf E' [(.li 0, 0)]) o1 := hoq
  rw [hv0] at hoq
  obtain ⟨hmap, _⟩ := hoq.2 _ _ hob
  have owned : ∀ k, Owned (envL [x, m] (rhoV v o)) inoA w k → k = x ∨ k = m := fun k ho => by
    have hb : ∀ j B, inoA.get j = some B → (j = 0 ∨ j = 1) ∧ B.isAbs = false := fun j B hB => by
      have := memL_get hB
      match j, this with
      | 0, h => obtain rfl := Option.some.inj h; exact ⟨.inl rfl, rfl⟩
      | 1, h => obtain rfl := Option.some.inj h; exact ⟨.inr rfl, rfl⟩
      | j + 2, h => simp [inoAs] at h
    rcases ho with ⟨j, B, q, hB, hq, rfl⟩ | ⟨j, e, q, hB, _, _⟩
    · have e1 := (envL_inv hq).1
      rcases (hb j B hB).1 with rfl | rfl
      · exact .inl (Option.some.inj e1).symm
      · exact .inr (Option.some.inj e1).symm
    · cases (hb j _ hB).2
  have tx := h.tag_x
  have tm := h.tag_m
  have keep : ∀ k t2, L k = some t2 → ∀ j, (j = t2.1 ∨ j = t2.2.1 ∨ j = t2.2.2) → w'.heap[j]? = w.heap[j]? := fun k t2 ht2 j hj =>
    hg.frame.block j (h.lt (.inr (.inr ⟨k, t2, ht2, hj⟩))) fun ho => by
      obtain ⟨g1, g2, g3⟩ := h.tag_t ht2
      have hm := h.map_ne k t2 ht2
      have a1 := ne_tag g1 tx (by decide)
      have a2 := ne_tag g2 tx (by decide)
      have a3 := ne_tag g3 tx (by decide)
      have a4 := ne_tag g1 tm (by decide)
      have a5 := ne_tag g2 tm (by decide)
      have := owned j ho
      omega
  have hI : Inos Tryz.prog w' x S m L := {
    cell := ⟨E'.ρ.o 0, by rw [hρ]; exact hc, hrow⟩
    map := by
      have e1 : (fun k => (L k).map (·.1)) = fun k => if k = 0 then none else (linksOf E' [(.li 0, 0)] k).or ((L k).map (·.1)) := by
        funext k
        split
        · rename_i e0
          subst e0
          cases hL : L 0 with
          | none => rfl
          | some t2 =>
            have := h.num 0 t2 hL
            omega
        · rename_i e0
          rw [linksOf_skip (k := .li 0) (show (0 : Int) ≠ k from fun e => e0 e.symm)]
          rfl
      rw [e1]
      exact hmap
    work := fun k t2 ht2 => (h.work k t2 ht2).kept (keep k t2 ht2 _ (.inl rfl)) (keep k t2 ht2 _ (.inr (.inl rfl))) (keep k t2 ht2 _ (.inr (.inr rfl)))
    off := h.off
    inj := h.inj
    map_ne := h.map_ne
    ok := h.ok
    num := h.num }
  refine ⟨⟨m, L, hI⟩, fun k hk => .inl ((ownD_ino h k).2 ((ownD_ino hI k).1 hk)), ⟨hg.frame.os, hg.frame.tape, hg.frame.output, hg.frame.size, fun k hk hnk => hg.frame.block k hk fun ho => hnk ((ownD_ino h k).2 ?_)⟩⟩
  rcases owned k ho with e2 | e2
  · exact .inl e2
  · exact .inr (.inl e2)

theorem updS_same (S : Int → Nd) (n : Int) : updS S n (S n) = S := by
  funext k
  unfold updS
  split
  · rename_i e; rw [e]
  · rfl

/-- What an inode says of itself. -/
def infoV (n : Int) (N : Nd) : Value := .agg #[.int .i64 n, .int .i64 N.kind, .int .i64 N.links, .int .i64 (N.bytes.length : Nat), .int .u64 N.stamp]
def infoZ : Value := .agg #[.int .i64 0, .int .i64 0, .int .i64 0, .int .i64 0, .int .u64 0]
theorem getP_ev (ρ : Rho) : ways (fun pc => (evCall (ctx rules ρ pc) funT.get (sumH pc) 100000 1000 46 [.a (.s (.ptr 0 0)), .a (.s (.xi .i64 (.va 1)))] inoM 4).map (view [0, 1, 2, 3])) getPT [] = some getPL := by kernel_rfl
theorem getA_ev (ρ : Rho) : ways (fun pc => (evCall (ctx rules ρ pc) funT.get (sumH pc) 100000 1000 46 [.a (.s (.ptr 0 0)), .a (.s (.xi .i64 (.va 1)))] inoA 2).map (view [0, 1])) getAT [] = some getAL := by kernel_rfl

theorem infoZ_v {E : Env} : ∀ y, (AV.agg [.int .i64 0, .int .i64 0, .int .i64 0, .int .i64 0, .int .u64 0]).rel E y → y = infoZ := fun y hy => by
  obtain ⟨vs, rfl, hr⟩ := hy
  rw [dens_of hr rfl]
  rfl
/-- An opened inode that is as it was. -/
theorem ino_back {w : World} {x m : Nat} {S : Int → Nd} {L : Int → Option (Nat × Nat × Nat)} (h : Inos Tryz.prog w x S m L) {n : Int} {t : Nat × Nat × Nat} (ht : L n = some t) {c : Value} (hc : c.oneCell' = true) {l : List D} {g nx : Nat} {vs : List Value} {r : EV} {Q : Value → D → Prop}
    (hcm : Came Tryz.prog g (.pointer (some ⟨x, 0, none⟩) :: vs).toArray (envL [x, m, t.1, t.2.1] (rhoV (ofL (inoV (fun k => (L k).map (·.1)) n (S n) l)) fun _ => c)) inoM nx w [0, 1, 2, 3] (r, [some (.cells 107 (inoL 1)), some (.opq (.va 0) [(.va 1, 2), (.li 0, 0)]), some (.cells 100 [.xi .i64 (.va 1), .xi .i64 (.va 3), .xi .i64 (.va 4), .xi .i64 (.va 5), .xi .u64 (.va 6), .ptr 3 0]), some (.abs (.va 2))]))
    (hQ : ∀ (E : Env) v, E.ρ = rhoV (ofL (inoV (fun k => (L k).map (·.1)) n (S n) l)) (fun _ => c) → r.rel E v → Q v (.st (.ino S))) : Acts Tryz.prog g x vs w Q := by
  refine Calls.mono hcm fun en w' ⟨v, E', h', nx', he, hg, hv, hview⟩ => ?_
  have v0 := (List.cons.inj hview).1.symm
  have r1 := (List.cons.inj hview).2
  have v1 := (List.cons.inj r1).1.symm
  have r2 := (List.cons.inj r1).2
  have v2 := (List.cons.inj r2).1.symm
  have v3 := (List.cons.inj (List.cons.inj r2).2).1.symm
  have hρ : E'.ρ = _ := hg.ext.ρ
  obtain ⟨h1, h2, h3⟩ := ino_done h ht hc rfl rfl hg v0 v1 v2 v3 rfl (h.ok n) (by
    simp only [List.map_cons, List.map_nil, SV.den, hρ]
    rfl) rfl
  rw [updS_same] at h1
  exact ⟨v, _, he, hQ E' v hρ hv, h1, h2, h3⟩
theorem ino_backA {w : World} {x m : Nat} {S : Int → Nd} {L : Int → Option (Nat × Nat × Nat)} (h : Inos Tryz.prog w x S m L) {c : Value} (hc : c.oneCell' = true) {l : List D} {g nx : Nat} {vs : List Value} {r : EV} {Q : Value → D → Prop}
    (hcm : Came Tryz.prog g (.pointer (some ⟨x, 0, none⟩) :: vs).toArray (envL [x, m] (rhoV (ofL (.st (.works fun k => (L k).map (·.1)) :: l)) fun _ => c)) inoA nx w [0, 1] (r, [some (.cells 107 (inoL 1)), some (.opq (.va 0) [(.li 0, 0)])]))
    (hQ : ∀ (E : Env) v, E.ρ = rhoV (ofL (.st (.works fun k => (L k).map (·.1)) :: l)) (fun _ => c) → r.rel E v → Q v (.st (.ino S))) : Acts Tryz.prog g x vs w Q := by
  refine Calls.mono hcm fun en w' ⟨v, E', h', nx', he, hg, hv, hview⟩ => ?_
  have v0 := (List.cons.inj hview).1.symm
  have v1 := (List.cons.inj (List.cons.inj hview).2).1.symm
  have hρ : E'.ρ = _ := hg.ext.ρ
  obtain ⟨h1, h2, h3⟩ := ino_same h hc rfl hg v0 v1
  exact ⟨v, _, he, hQ E' v hρ hv, h1, h2, h3⟩

/-- What Get answers. -/
def getV (S : Int → Nd) (n : Int) : Value := if n < 1 ∨ 4096 < n then .tuple #[infoZ, .int .i64 141] else if (S n).kind = 0 then .tuple #[infoZ, .int .i64 151] else .tuple #[infoV n (S n), .int .i64 0]
theorem ino_get {w : World} {x : Nat} {S : Int → Nd} (h : isD Tryz.prog (.st (.ino S)) x w) {n : Int} (hn : i64 n) : Acts Tryz.prog 46 x [.int .i64 n] w fun u d => d = .st (.ino S) ∧ u = getV S n := by
  obtain ⟨m, L, h⟩ := h
  unfold getV
  cases hL : L n with
  | some t =>
    have hb := h.num n t hL
    rw [if_neg (by omega)]
    obtain ⟨c, hc, hopen⟩ := ino_open h hL
    have hr := hopen []
    obtain ⟨y, hy, ht, hcm⟩ := ways_calls (rules_ok (base_ok _ _)) (fun pc hpc => sumH_ok hpc) (getP_ev _) hr rfl (envL_fresh _ _) (vs := [.pointer (some ⟨x, 0, none⟩), .int .i64 n]) ⟨⟨⟨x, 0, 0⟩, envL_at rfl, rfl⟩, rfl, trivial⟩
    have h1 : X.int (rhoV (ofL (inoV (fun k => (L k).map (·.1)) n (S n) [])) fun _ => c) (.va 1) = n := rfl
    have h3 : X.int (rhoV (ofL (inoV (fun k => (L k).map (·.1)) n (S n) [])) fun _ => c) (.va 3) = (S n).kind := rfl
    simp only [getPL, List.mem_cons, List.not_mem_nil, or_false] at hy
    rcases hy with rfl | rfl | rfl <;> simp only [told_cons, told_nil, eq_true, eq_false, h1, h3, li_int, and_true] at ht
    · omega
    · rw [if_pos ht.1]
      exact ino_back h hL hc (hcm _ rfl) fun E v _ hv => ⟨rfl, tup2 hv infoZ_v int_v⟩
    · rw [if_neg ht.1]
      refine ino_back h hL hc (hcm _ rfl) fun E v hE hv => ⟨rfl, tup2 hv (fun z hz => ?_) int_v⟩
      obtain ⟨ws, rfl, hws⟩ := hz
      rw [dens_of hws rfl]
      simp only [List.map_cons, List.map_nil, SV.den, hE]
      rfl
  | none =>
    have hk : (S n).kind = 0 := by rw [h.off n hL]; rfl
    obtain ⟨c, hc, hopen⟩ := ino_none h
    have hr := hopen [.i n]
    obtain ⟨y, hy, ht, hcm⟩ := ways_calls (rules_ok (base_ok _ _)) (fun pc hpc => sumH_ok hpc) (getA_ev _) hr rfl (envL_fresh _ _) (vs := [.pointer (some ⟨x, 0, none⟩), .int .i64 n]) ⟨⟨⟨x, 0, 0⟩, envL_at rfl, rfl⟩, rfl, trivial⟩
    have h1 : X.int (rhoV (ofL [.st (.works fun k => (L k).map (·.1)), .i n]) fun _ => c) (.va 1) = n := rfl
    have h902 : X.bool (rhoV (ofL [.st (.works fun k => (L k).map (·.1)), .i n]) fun _ => c) (.app 902 (.va 1)) = true := decide_eq_true hn
    have h900 : X.bool (rhoV (ofL [.st (.works fun k => (L k).map (·.1)), .i n]) fun _ => c) (.app 900 (.cons (.va 0) (.va 1))) = false := by
      show ((L n).map (·.1)).isSome = false
      rw [hL]
      rfl
    have hq := fun a b => quo_int (ρ := rhoV (ofL [.st (.works fun k => (L k).map (·.1)), .i n]) fun _ => c) (n := n) rfl a b
    have hm := fun a b => rem_int (ρ := rhoV (ofL [.st (.works fun k => (L k).map (·.1)), .i n]) fun _ => c) (n := n) rfl a b
    have e141 : n < 1 ∨ 4096 < n → Came Tryz.prog 46 #[.pointer (some ⟨x, 0, none⟩), .int .i64 n] (envL [x, m] (rhoV (ofL [.st (.works fun k => (L k).map (·.1)), .i n]) fun _ => c)) inoA 2 w [0, 1] ((.tup [(.agg [(.int .i64 0), (.int .i64 0), (.int .i64 0), (.int .i64 0), (.int .u64 0)]), (.s (.int .i64 141))]), [some (.cells 107 (inoL 1)), some (.opq (.va 0) [((.li 0), 0)])]) →
        Acts Tryz.prog 46 x [.int .i64 n] w fun u d => d = .st (.ino S) ∧ u = if n < 1 ∨ 4096 < n then .tuple #[infoZ, .int .i64 141] else if (S n).kind = 0 then .tuple #[infoZ, .int .i64 151] else .tuple #[infoV n (S n), .int .i64 0] := fun hn hcm => by
      rw [if_pos hn]
      exact ino_backA h hc hcm fun E v _ hv => ⟨rfl, tup2 hv infoZ_v int_v⟩
    have e151 : 1 ≤ n ∧ n ≤ 4096 → Came Tryz.prog 46 #[.pointer (some ⟨x, 0, none⟩), .int .i64 n] (envL [x, m] (rhoV (ofL [.st (.works fun k => (L k).map (·.1)), .i n]) fun _ => c)) inoA 2 w [0, 1] ((.tup [(.agg [(.int .i64 0), (.int .i64 0), (.int .i64 0), (.int .i64 0), (.int .u64 0)]), (.s (.int .i64 151))]), [some (.cells 107 (inoL 1)), some (.opq (.va 0) [((.li 0), 0)])]) →
        Acts Tryz.prog 46 x [.int .i64 n] w fun u d => d = .st (.ino S) ∧ u = if n < 1 ∨ 4096 < n then .tuple #[infoZ, .int .i64 141] else if (S n).kind = 0 then .tuple #[infoZ, .int .i64 151] else .tuple #[infoV n (S n), .int .i64 0] := fun hn hcm => by
      rw [if_neg (by omega), if_pos hk]
      exact ino_backA h hc hcm fun E v _ hv => ⟨rfl, tup2 hv infoZ_v int_v⟩
    simp only [getAL, List.mem_cons, List.not_mem_nil, or_false] at hy
    rcases hy with rfl | rfl | rfl | rfl | rfl | rfl | rfl | rfl | rfl | rfl | rfl | rfl | rfl | rfl <;> simp only [told_cons, told_nil, eq_true, eq_false, lt_true, lt_false, h1, h902, h900, li_int, and_true] at ht <;> first
      | (exact absurd ht.1 (by decide))
      | (exact absurd ht (by decide))
      | (exact e141 (by omega) (hcm _ rfl))
      | (exact e151 (by omega) (hcm _ rfl))
      | (have hq := hq (by omega) (by omega); have hm := hm (by omega) (by omega); rw [hq, hm] at ht; omega)
end Go.Proofs.YtcnimekhpnejlaaGreat.Ev

/- Inodes: Leaf. -/
namespace Go.Proofs.YtcnimekhpnejlaaGreat.Ev
open Go Go.RowKit
set_option linter.unusedVariables false
set_option linter.unusedSimpArgs false
set_option maxRecDepth 10000

/-- How many leaves so many bytes take. -/
theorem leaves_int {ρ : Rho} {e : X} {s : Nat} (he : e.int ρ = s) (hs : s ≤ 1048576) : X.int ρ (.bin .quo .i64 (.bin .sub .i64 (.bin .add .i64 e (.li 256)) (.li 1)) (.li 256)) = (leavesN s : Nat) := by
  show IntKind.i64.wrap ((IntKind.i64.wrap (IntKind.i64.wrap (e.int ρ + 256) - 1)).tdiv 256) = _
  rw [he, wrap_i (n := (s : Int) + 256) (by omega) (by omega), wrap_i (n := (s : Int) + 256 - 1) (by omega) (by omega), Int.tdiv_eq_ediv_of_nonneg (by omega), wrap_i (by omega) (by omega)]
  unfold leavesN
  omega
theorem lfP_ev (ρ : Rho) : ways (fun pc => (evCall (ctx rules ρ pc) funT.get (sumH pc) 100000 1000 52 [.a (.s (.ptr 0 0)), .a (.s (.xi .i64 (.va 1))), .a (.s (.xi .i64 (.va 7)))] inoM 4).map (view [0, 1, 2, 3])) lfPT [] = some lfPL := by kernel_rfl
theorem lfA_ev (ρ : Rho) : ways (fun pc => (evCall (ctx rules ρ pc) funT.get (sumH pc) 100000 1000 52 [.a (.s (.ptr 0 0)), .a (.s (.xi .i64 (.va 1))), .a (.s (.xi .i64 (.va 7)))] inoA 2).map (view [0, 1])) lfAT [] = some lfAL := by kernel_rfl

/-- What Leaf answers. -/
def leafV (S : Int → Nd) (n p : Int) : Value :=
  if n < 1 ∨ 4096 < n then .tuple #[elBlk.val (zeros 256), .int .i64 141]
  else if p < 0 ∨ 4096 ≤ p then .tuple #[elBlk.val (zeros 256), .int .i64 90]
  else if (S n).kind = 0 then .tuple #[elBlk.val (zeros 256), .int .i64 151]
  else .tuple #[elBlk.val (leafOf (S n).bytes p.toNat), .int .i64 0]
theorem ino_leaf {w : World} {x : Nat} {S : Int → Nd} (h : isD Tryz.prog (.st (.ino S)) x w) {n p : Int} (hn : i64 n) (hp : i64 p) : Acts Tryz.prog 52 x [.int .i64 n, .int .i64 p] w fun u d => d = .st (.ino S) ∧ u = leafV S n p := by
  obtain ⟨m, L, h⟩ := h
  unfold leafV
  cases hL : L n with
  | some t =>
    have hb := h.num n t hL
    have hsz := (h.ok n).size
    rw [if_neg (by omega)]
    obtain ⟨c, hc, hopen⟩ := ino_open h hL
    have hr := hopen [.i p]
    obtain ⟨y, hy, ht, hcm⟩ := ways_calls (rules_ok (base_ok _ _)) (fun pc hpc => sumH_ok hpc) (lfP_ev _) hr rfl (envL_fresh _ _) (vs := [.pointer (some ⟨x, 0, none⟩), .int .i64 n, .int .i64 p]) ⟨⟨⟨x, 0, 0⟩, envL_at rfl, rfl⟩, rfl, rfl, trivial⟩
    obtain ⟨ρ, hρ⟩ : ∃ ρ, ρ = rhoV (ofL (inoV (fun k => (L k).map (·.1)) n (S n) [.i p])) fun _ => c := ⟨_, rfl⟩
    rw [← hρ] at ht
    have h1 : X.int ρ (.va 1) = n := by rw [hρ]; rfl
    have h3 : X.int ρ (.va 3) = (S n).kind := by rw [hρ]; rfl
    have h5 : X.int ρ (.va 5) = ((S n).bytes.length : Nat) := by rw [hρ]; rfl
    have h7 : X.int ρ (.va 7) = p := by rw [hρ]; rfl
    have hlv := leaves_int h5 hsz
    have h36 : X.bool ρ (.app 36 (.va 2)) = true := by rw [hρ]; rfl
    have h902 : X.bool ρ (.app 902 (.va 7)) = true := by rw [hρ]; exact decide_eq_true hp
    have h30 : X.bool ρ (.app 30 (.cons (.va 2) (.va 7))) = decide (0 ≤ p ∧ p < (4 ^ heightN (leavesN (S n).bytes.length) : Nat)) := by rw [hρ]; rfl
    have hroom := heightN_room (n := leavesN (S n).bytes.length) (by unfold leavesN; omega)
    have main : ∀ (l : List UInt8) (e : Int) (r : EV), (∀ (E : Env) v, E.ρ = rhoV (ofL (inoV (fun k => (L k).map (·.1)) n (S n) [.i p])) (fun _ => c) → r.rel E v → v = .tuple #[elBlk.val l, .int .i64 e]) →
        (.tuple #[elBlk.val l, .int .i64 e] = if p < 0 ∨ 4096 ≤ p then Value.tuple #[elBlk.val (zeros 256), .int .i64 90] else if (S n).kind = 0 then .tuple #[elBlk.val (zeros 256), .int .i64 151] else .tuple #[elBlk.val (leafOf (S n).bytes p.toNat), .int .i64 0]) →
        Came Tryz.prog 52 #[.pointer (some ⟨x, 0, none⟩), .int .i64 n, .int .i64 p] (envL [x, m, t.1, t.2.1] (rhoV (ofL (inoV (fun k => (L k).map (·.1)) n (S n) [.i p])) fun _ => c)) inoM 4 w [0, 1, 2, 3] (r, [some (.cells 107 (inoL 1)), some (.opq (.va 0) [(.va 1, 2), (.li 0, 0)]), some (.cells 100 [.xi .i64 (.va 1), .xi .i64 (.va 3), .xi .i64 (.va 4), .xi .i64 (.va 5), .xi .u64 (.va 6), .ptr 3 0]), some (.abs (.va 2))]) →
        Acts Tryz.prog 52 x [.int .i64 n, .int .i64 p] w fun u d => d = .st (.ino S) ∧ u = if p < 0 ∨ 4096 ≤ p then Value.tuple #[elBlk.val (zeros 256), .int .i64 90] else if (S n).kind = 0 then .tuple #[elBlk.val (zeros 256), .int .i64 151] else .tuple #[elBlk.val (leafOf (S n).bytes p.toNat), .int .i64 0] := fun l e r hr2 hv hcm =>
      ino_back h hL hc hcm fun E v hE hv2 => ⟨rfl, (hr2 E v hE hv2).trans hv⟩
    have mz : ∀ (e : Int) (E : Env) v, E.ρ = rhoV (ofL (inoV (fun k => (L k).map (·.1)) n (S n) [.i p])) (fun _ => c) → (EV.tup [.agg blk0, .s (.int .i64 e)]).rel E v → v = .tuple #[elBlk.val (zeros 256), .int .i64 e] := fun e E v _ hv => tup2 hv blk0_v int_v
    simp only [lfPL, List.mem_cons, List.not_mem_nil, or_false] at hy
    rcases hy with rfl | rfl | rfl | rfl | rfl | rfl | rfl | rfl | rfl | rfl | rfl | rfl | rfl <;> simp only [told_cons, told_nil, eq_true, eq_false, lt_true, lt_false, h1, h3, h5, h7, hlv, h36, h902, h30, li_int, and_true, true_and, decide_eq_true_eq, decide_eq_false_iff_not] at ht <;> first
      | omega
      | (exact main _ 90 _ (mz 90) (by rw [if_pos (by omega)]) (hcm _ rfl))
      | (exact main _ 151 _ (mz 151) (by rw [if_neg (by omega), if_pos (by omega)]) (hcm _ rfl))
      | (exact main _ 0 _ (mz 0) (by rw [if_neg (by omega), if_neg (by omega), leafOf_past (by omega)]) (hcm _ rfl))
      | (refine main (leafOf (S n).bytes p.toNat) 0 _ (fun E v hE hv => tup2 hv (fun z hz => ?_) int_v) (by rw [if_neg (by omega), if_neg (by omega)]) (hcm _ rfl)
         rw [blkX_inv hz]
         have h6 : X.str E.ρ (.app 31 (.cons (.va 2) (.va 7))) = ⟨(leafOf (S n).bytes p.toNat).toArray⟩ := by rw [hE]; rfl
         rw [h6, pad_of (leafOf_length _ _)])
      | (exact absurd ht (by simp))
      | trace_state
  | none =>
    have hk : (S n).kind = 0 := by rw [h.off n hL]; rfl
    obtain ⟨c, hc, hopen⟩ := ino_none h
    have hr := hopen [.i n, .z, .z, .z, .z, .z, .i p]
    obtain ⟨y, hy, ht, hcm⟩ := ways_calls (rules_ok (base_ok _ _)) (fun pc hpc => sumH_ok hpc) (lfA_ev _) hr rfl (envL_fresh _ _) (vs := [.pointer (some ⟨x, 0, none⟩), .int .i64 n, .int .i64 p]) ⟨⟨⟨x, 0, 0⟩, envL_at rfl, rfl⟩, rfl, rfl, trivial⟩
    obtain ⟨ρ, hρ⟩ : ∃ ρ, ρ = rhoV (ofL (.st (.works fun k => (L k).map (·.1)) :: [.i n, .z, .z, .z, .z, .z, .i p])) fun _ => c := ⟨_, rfl⟩
    rw [← hρ] at ht
    have h1 : X.int ρ (.va 1) = n := by rw [hρ]; rfl
    have h7 : X.int ρ (.va 7) = p := by rw [hρ]; rfl
    have h902 : X.bool ρ (.app 902 (.va 1)) = true := by rw [hρ]; exact decide_eq_true hn
    have h900 : X.bool ρ (.app 900 (.cons (.va 0) (.va 1))) = false := by
      rw [hρ]
      show ((L n).map (·.1)).isSome = false
      rw [hL]
      rfl
    have hv1 : ρ.v 1 = .i n := by rw [hρ]; rfl
    have hq := fun a b => quo_int (ρ := ρ) (n := n) hv1 a b
    have hm := fun a b => rem_int (ρ := ρ) (n := n) hv1 a b
    have main : ∀ (e : Int), (Value.tuple #[elBlk.val (zeros 256), .int .i64 e] = if n < 1 ∨ 4096 < n then Value.tuple #[elBlk.val (zeros 256), .int .i64 141] else if p < 0 ∨ 4096 ≤ p then .tuple #[elBlk.val (zeros 256), .int .i64 90] else if (S n).kind = 0 then .tuple #[elBlk.val (zeros 256), .int .i64 151] else .tuple #[elBlk.val (leafOf (S n).bytes p.toNat), .int .i64 0]) →
        Came Tryz.prog 52 #[.pointer (some ⟨x, 0, none⟩), .int .i64 n, .int .i64 p] (envL [x, m] (rhoV (ofL (.st (.works fun k => (L k).map (·.1)) :: [.i n, .z, .z, .z, .z, .z, .i p])) fun _ => c)) inoA 2 w [0, 1] ((.tup [.agg blk0, .s (.int .i64 e)]), [some (.cells 107 (inoL 1)), some (.opq (.va 0) [(.li 0, 0)])]) →
        Acts Tryz.prog 52 x [.int .i64 n, .int .i64 p] w fun u d => d = .st (.ino S) ∧ u = if n < 1 ∨ 4096 < n then Value.tuple #[elBlk.val (zeros 256), .int .i64 141] else if p < 0 ∨ 4096 ≤ p then .tuple #[elBlk.val (zeros 256), .int .i64 90] else if (S n).kind = 0 then .tuple #[elBlk.val (zeros 256), .int .i64 151] else .tuple #[elBlk.val (leafOf (S n).bytes p.toNat), .int .i64 0] := fun e hv hcm =>
      ino_backA h hc hcm fun E v hE hv2 => ⟨rfl, (tup2 hv2 blk0_v int_v).trans hv⟩
    simp only [lfAL, List.mem_cons, List.not_mem_nil, or_false] at hy
    rcases hy with rfl | rfl | rfl | rfl | rfl | rfl | rfl | rfl | rfl | rfl | rfl | rfl | rfl | rfl | rfl | rfl <;> simp only [told_cons, told_nil, eq_true, eq_false, lt_true, lt_false, h1, h7, h902, h900, li_int, and_true, true_and] at ht <;> first
      | omega
      | (exact main 141 (by rw [if_pos (by omega)]) (hcm _ rfl))
      | (exact main 90 (by rw [if_neg (by omega), if_pos (by omega)]) (hcm _ rfl))
      | (exact main 151 (by rw [if_neg (by omega), if_neg (by omega), if_pos hk]) (hcm _ rfl))
      | (have hq := hq (by omega) (by omega); have hm := hm (by omega) (by omega); rw [hq, hm] at ht; omega)
      | (have hq := hq (by omega) (by omega); rw [hq] at ht; omega)
      | (exact absurd ht.1 (by simp))
      | (exact absurd ht (by simp))
      | trace_state
end Go.Proofs.YtcnimekhpnejlaaGreat.Ev

/- What calls come to, on all their ways (written by wip/tools/tabs.py). -/
namespace Go.Proofs.YtcnimekhpnejlaaGreat.Ev
open Go
def stPT : PT := (.node (.lt (.va 1) (.li 1)) .leaf (.node (.lt (.li 4096) (.va 1)) .leaf (.node (.lt (.va 7) (.li 0)) .leaf (.node (.lt (.va 7) (.li 4096)) (.node (.eq (.va 1) (.li 0)) .dead (.node (.eq (.va 3) (.li 0)) .leaf (.node (.lt (.va 5) (.li 0)) .leaf (.node (.lt (.li 1048576) (.va 5)) .leaf (.node (.lt (.va 7) (.bin .quo .i64 (.bin .sub .i64 (.bin .add .i64 (.va 5) (.li 256)) (.li 1)) (.li 256))) (.node (.lt (.li 4096) (.va 7)) (.node (.lt (.mx (.li 0) (.bin .sub .i64 (.va 5) (.bin .mul .i64 (.va 7) (.li 256)))) (.li 256)) .dead (.node (.app 36 (.va 2)) (.node (.app 32 (.cons (.va 2) (.va 7))) .leaf .dead) .dead)) (.node (.app 36 (.va 2)) (.node (.app 32 (.cons (.va 2) (.va 7))) .leaf .dead) .dead)) .leaf))))) .leaf))))
def stPL : List (List (X × Bool) × Option (EV × List (Option BV))) := [
  ([((.lt (.va 1) (.li 1)), true)], some ((.a (.s (.int .i64 141))), [some (.cells 107 (inoL 1)), some (.opq (.va 0) [((.va 1), 2), ((.li 0), 0)]), some (.cells 100 [(.xi .i64 (.va 1)), (.xi .i64 (.va 3)), (.xi .i64 (.va 4)), (.xi .i64 (.va 5)), (.xi .u64 (.va 6)), (.ptr 3 0)]), some (.abs (.va 2))])),
  ([((.lt (.li 4096) (.va 1)), true), ((.lt (.va 1) (.li 1)), false)], some ((.a (.s (.int .i64 141))), [some (.cells 107 (inoL 1)), some (.opq (.va 0) [((.va 1), 2), ((.li 0), 0)]), some (.cells 100 [(.xi .i64 (.va 1)), (.xi .i64 (.va 3)), (.xi .i64 (.va 4)), (.xi .i64 (.va 5)), (.xi .u64 (.va 6)), (.ptr 3 0)]), some (.abs (.va 2))])),
  ([((.lt (.va 7) (.li 0)), true), ((.lt (.li 4096) (.va 1)), false), ((.lt (.va 1) (.li 1)), false)], some ((.a (.s (.int .i64 90))), [some (.cells 107 (inoL 1)), some (.opq (.va 0) [((.va 1), 2), ((.li 0), 0)]), some (.cells 100 [(.xi .i64 (.va 1)), (.xi .i64 (.va 3)), (.xi .i64 (.va 4)), (.xi .i64 (.va 5)), (.xi .u64 (.va 6)), (.ptr 3 0)]), some (.abs (.va 2))])),
  ([((.eq (.va 1) (.li 0)), true), ((.lt (.va 7) (.li 4096)), true), ((.lt (.va 7) (.li 0)), false), ((.lt (.li 4096) (.va 1)), false), ((.lt (.va 1) (.li 1)), false)], none),
  ([((.eq (.va 3) (.li 0)), true), ((.eq (.va 1) (.li 0)), false), ((.lt (.va 7) (.li 4096)), true), ((.lt (.va 7) (.li 0)), false), ((.lt (.li 4096) (.va 1)), false), ((.lt (.va 1) (.li 1)), false)], some ((.a (.s (.int .i64 151))), [some (.cells 107 (inoL 1)), some (.opq (.va 0) [((.va 1), 2), ((.li 0), 0)]), some (.cells 100 [(.xi .i64 (.va 1)), (.xi .i64 (.va 3)), (.xi .i64 (.va 4)), (.xi .i64 (.va 5)), (.xi .u64 (.va 6)), (.ptr 3 0)]), some (.abs (.va 2))])),
  ([((.lt (.va 5) (.li 0)), true), ((.eq (.va 3) (.li 0)), false), ((.eq (.va 1) (.li 0)), false), ((.lt (.va 7) (.li 4096)), true), ((.lt (.va 7) (.li 0)), false), ((.lt (.li 4096) (.va 1)), false), ((.lt (.va 1) (.li 1)), false)], some ((.a (.s (.int .i64 90))), [some (.cells 107 (inoL 1)), some (.opq (.va 0) [((.va 1), 2), ((.li 0), 0)]), some (.cells 100 [(.xi .i64 (.va 1)), (.xi .i64 (.va 3)), (.xi .i64 (.va 4)), (.xi .i64 (.va 5)), (.xi .u64 (.va 6)), (.ptr 3 0)]), some (.abs (.va 2))])),
  ([((.lt (.li 1048576) (.va 5)), true), ((.lt (.va 5) (.li 0)), false), ((.eq (.va 3) (.li 0)), false), ((.eq (.va 1) (.li 0)), false), ((.lt (.va 7) (.li 4096)), true), ((.lt (.va 7) (.li 0)), false), ((.lt (.li 4096) (.va 1)), false), ((.lt (.va 1) (.li 1)), false)], some ((.a (.s (.int .i64 90))), [some (.cells 107 (inoL 1)), some (.opq (.va 0) [((.va 1), 2), ((.li 0), 0)]), some (.cells 100 [(.xi .i64 (.va 1)), (.xi .i64 (.va 3)), (.xi .i64 (.va 4)), (.xi .i64 (.va 5)), (.xi .u64 (.va 6)), (.ptr 3 0)]), some (.abs (.va 2))])),
  ([((.lt (.mx (.li 0) (.bin .sub .i64 (.va 5) (.bin .mul .i64 (.va 7) (.li 256)))) (.li 256)), true), ((.lt (.li 4096) (.va 7)), true), ((.lt (.va 7) (.bin .quo .i64 (.bin .sub .i64 (.bin .add .i64 (.va 5) (.li 256)) (.li 1)) (.li 256))), true), ((.lt (.li 1048576) (.va 5)), false), ((.lt (.va 5) (.li 0)), false), ((.eq (.va 3) (.li 0)), false), ((.eq (.va 1) (.li 0)), false), ((.lt (.va 7) (.li 4096)), true), ((.lt (.va 7) (.li 0)), false), ((.lt (.li 4096) (.va 1)), false), ((.lt (.va 1) (.li 1)), false)], none),
  ([((.app 32 (.cons (.va 2) (.va 7))), true), ((.app 36 (.va 2)), true), ((.lt (.mx (.li 0) (.bin .sub .i64 (.va 5) (.bin .mul .i64 (.va 7) (.li 256)))) (.li 256)), false), ((.lt (.li 4096) (.va 7)), true), ((.lt (.va 7) (.bin .quo .i64 (.bin .sub .i64 (.bin .add .i64 (.va 5) (.li 256)) (.li 1)) (.li 256))), true), ((.lt (.li 1048576) (.va 5)), false), ((.lt (.va 5) (.li 0)), false), ((.eq (.va 3) (.li 0)), false), ((.eq (.va 1) (.li 0)), false), ((.lt (.va 7) (.li 4096)), true), ((.lt (.va 7) (.li 0)), false), ((.lt (.li 4096) (.va 1)), false), ((.lt (.va 1) (.li 1)), false)], some ((.a (.s (.int .i64 0))), [some (.cells 107 (inoL 1)), some (.opq (.va 0) [((.va 1), 2), ((.li 0), 0)]), some (.cells 100 [(.xi .i64 (.va 1)), (.xi .i64 (.va 3)), (.xi .i64 (.va 4)), (.xi .i64 (.va 5)), (.xi .u64 (.va 9)), (.ptr 3 0)]), some (.abs (.app 33 (.cons (.va 2) (.cons (.va 7) (.va 8)))))])),
  ([((.app 32 (.cons (.va 2) (.va 7))), false), ((.app 36 (.va 2)), true), ((.lt (.mx (.li 0) (.bin .sub .i64 (.va 5) (.bin .mul .i64 (.va 7) (.li 256)))) (.li 256)), false), ((.lt (.li 4096) (.va 7)), true), ((.lt (.va 7) (.bin .quo .i64 (.bin .sub .i64 (.bin .add .i64 (.va 5) (.li 256)) (.li 1)) (.li 256))), true), ((.lt (.li 1048576) (.va 5)), false), ((.lt (.va 5) (.li 0)), false), ((.eq (.va 3) (.li 0)), false), ((.eq (.va 1) (.li 0)), false), ((.lt (.va 7) (.li 4096)), true), ((.lt (.va 7) (.li 0)), false), ((.lt (.li 4096) (.va 1)), false), ((.lt (.va 1) (.li 1)), false)], none),
  ([((.app 36 (.va 2)), false), ((.lt (.mx (.li 0) (.bin .sub .i64 (.va 5) (.bin .mul .i64 (.va 7) (.li 256)))) (.li 256)), false), ((.lt (.li 4096) (.va 7)), true), ((.lt (.va 7) (.bin .quo .i64 (.bin .sub .i64 (.bin .add .i64 (.va 5) (.li 256)) (.li 1)) (.li 256))), true), ((.lt (.li 1048576) (.va 5)), false), ((.lt (.va 5) (.li 0)), false), ((.eq (.va 3) (.li 0)), false), ((.eq (.va 1) (.li 0)), false), ((.lt (.va 7) (.li 4096)), true), ((.lt (.va 7) (.li 0)), false), ((.lt (.li 4096) (.va 1)), false), ((.lt (.va 1) (.li 1)), false)], none),
  ([((.app 32 (.cons (.va 2) (.va 7))), true), ((.app 36 (.va 2)), true), ((.lt (.li 4096) (.va 7)), false), ((.lt (.va 7) (.bin .quo .i64 (.bin .sub .i64 (.bin .add .i64 (.va 5) (.li 256)) (.li 1)) (.li 256))), true), ((.lt (.li 1048576) (.va 5)), false), ((.lt (.va 5) (.li 0)), false), ((.eq (.va 3) (.li 0)), false), ((.eq (.va 1) (.li 0)), false), ((.lt (.va 7) (.li 4096)), true), ((.lt (.va 7) (.li 0)), false), ((.lt (.li 4096) (.va 1)), false), ((.lt (.va 1) (.li 1)), false)], some ((.a (.s (.int .i64 0))), [some (.cells 107 (inoL 1)), some (.opq (.va 0) [((.va 1), 2), ((.li 0), 0)]), some (.cells 100 [(.xi .i64 (.va 1)), (.xi .i64 (.va 3)), (.xi .i64 (.va 4)), (.xi .i64 (.va 5)), (.xi .u64 (.va 9)), (.ptr 3 0)]), some (.abs (.app 33 (.cons (.va 2) (.cons (.va 7) (.app 40 (.cons (.va 8) (.cons (.va 7) (.va 5))))))))])),
  ([((.app 32 (.cons (.va 2) (.va 7))), false), ((.app 36 (.va 2)), true), ((.lt (.li 4096) (.va 7)), false), ((.lt (.va 7) (.bin .quo .i64 (.bin .sub .i64 (.bin .add .i64 (.va 5) (.li 256)) (.li 1)) (.li 256))), true), ((.lt (.li 1048576) (.va 5)), false), ((.lt (.va 5) (.li 0)), false), ((.eq (.va 3) (.li 0)), false), ((.eq (.va 1) (.li 0)), false), ((.lt (.va 7) (.li 4096)), true), ((.lt (.va 7) (.li 0)), false), ((.lt (.li 4096) (.va 1)), false), ((.lt (.va 1) (.li 1)), false)], none),
  ([((.app 36 (.va 2)), false), ((.lt (.li 4096) (.va 7)), false), ((.lt (.va 7) (.bin .quo .i64 (.bin .sub .i64 (.bin .add .i64 (.va 5) (.li 256)) (.li 1)) (.li 256))), true), ((.lt (.li 1048576) (.va 5)), false), ((.lt (.va 5) (.li 0)), false), ((.eq (.va 3) (.li 0)), false), ((.eq (.va 1) (.li 0)), false), ((.lt (.va 7) (.li 4096)), true), ((.lt (.va 7) (.li 0)), false), ((.lt (.li 4096) (.va 1)), false), ((.lt (.va 1) (.li 1)), false)], none),
  ([((.lt (.va 7) (.bin .quo .i64 (.bin .sub .i64 (.bin .add .i64 (.va 5) (.li 256)) (.li 1)) (.li 256))), false), ((.lt (.li 1048576) (.va 5)), false), ((.lt (.va 5) (.li 0)), false), ((.eq (.va 3) (.li 0)), false), ((.eq (.va 1) (.li 0)), false), ((.lt (.va 7) (.li 4096)), true), ((.lt (.va 7) (.li 0)), false), ((.lt (.li 4096) (.va 1)), false), ((.lt (.va 1) (.li 1)), false)], some ((.a (.s (.int .i64 90))), [some (.cells 107 (inoL 1)), some (.opq (.va 0) [((.va 1), 2), ((.li 0), 0)]), some (.cells 100 [(.xi .i64 (.va 1)), (.xi .i64 (.va 3)), (.xi .i64 (.va 4)), (.xi .i64 (.va 5)), (.xi .u64 (.va 6)), (.ptr 3 0)]), some (.abs (.va 2))])),
  ([((.lt (.va 7) (.li 4096)), false), ((.lt (.va 7) (.li 0)), false), ((.lt (.li 4096) (.va 1)), false), ((.lt (.va 1) (.li 1)), false)], some ((.a (.s (.int .i64 90))), [some (.cells 107 (inoL 1)), some (.opq (.va 0) [((.va 1), 2), ((.li 0), 0)]), some (.cells 100 [(.xi .i64 (.va 1)), (.xi .i64 (.va 3)), (.xi .i64 (.va 4)), (.xi .i64 (.va 5)), (.xi .u64 (.va 6)), (.ptr 3 0)]), some (.abs (.va 2))]))]
end Go.Proofs.YtcnimekhpnejlaaGreat.Ev

/- Inodes: Set. -/
namespace Go.Proofs.YtcnimekhpnejlaaGreat.Ev
open Go Go.RowKit
set_option linter.unusedVariables false
set_option linter.unusedSimpArgs false
set_option maxRecDepth 10000

theorem stP_ev (ρ : Rho) : ways (fun pc => (evCall (ctx rules ρ pc) funT.get (sumH pc) 100000 1000 63 [.a (.s (.ptr 0 0)), .a (.s (.xi .i64 (.va 1))), .a (.s (.xi .i64 (.va 7))), .a (.agg (blkX (.va 8))), .a (.s (.xi .u64 (.va 9)))] inoM 4).map (view [0, 1, 2, 3])) stPT [] = some stPL := by kernel_rfl

/-- An inode with another leaf. -/
def setN (N : Nd) (p : Nat) (b : List UInt8) (st : Int) : Nd := { N with bytes := setB N.bytes p b, stamp := st }
theorem leaf_fun {bs b : List UInt8} {p : Nat} (h : b.length = 256) (hp : p < leavesN bs.length) : (fun q => if q = p then cutB b p bs.length else leafOf bs q) = leafOf (setB bs p b) := by
  funext q
  split
  · rename_i e
    rw [e, leafOf_set_same h hp]
  · rename_i e
    rw [leafOf_set_other h hp e]
/-- Set, of a leaf that there is. -/
theorem ino_set {w : World} {x : Nat} {S : Int → Nd} (h : isD Tryz.prog (.st (.ino S)) x w) {n : Int} {p : Nat} (hk : (S n).kind ≠ 0) (hp : p < leavesN (S n).bytes.length) {b : List UInt8} (hb : b.length = 256) {st : Int} (hst : 0 ≤ st ∧ st ≤ 18446744073709551615) :
    Acts Tryz.prog 63 x [.int .i64 n, .int .i64 p, elBlk.val b, .int .u64 st] w fun u d => d = .st (.ino (updS S n (setN (S n) p b st))) ∧ u = .int .i64 0 := by
  obtain ⟨m, L, h⟩ := h
  cases hL : L n with
  | none => exact absurd (by rw [h.off n hL]; rfl) hk
  | some t =>
    have hnb := h.num n t hL
    have hok := h.ok n
    have hsz := hok.size
    have hl4 : leavesN (S n).bytes.length ≤ 4096 := by unfold leavesN; omega
    obtain ⟨c, hc, hopen⟩ := ino_open h hL
    have hr := hopen [.i p, .s ⟨b.toArray⟩, .i st]
    have hblk : (AV.agg (blkX (.va 8))).rel (envL [x, m, t.1, t.2.1] (rhoV (ofL (inoV (fun k => (L k).map (·.1)) n (S n) [.i p, .s ⟨b.toArray⟩, .i st])) fun _ => c)) (elBlk.val b) := by
      have h1 := blkX_rel (E := envL [x, m, t.1, t.2.1] (rhoV (ofL (inoV (fun k => (L k).map (·.1)) n (S n) [.i p, .s ⟨b.toArray⟩, .i st])) fun _ => c)) (.va 8)
      have h2 : pad (X.str (envL [x, m, t.1, t.2.1] (rhoV (ofL (inoV (fun k => (L k).map (·.1)) n (S n) [.i p, .s ⟨b.toArray⟩, .i st])) fun _ => c)).ρ (.va 8)) = b := pad_of hb
      rw [h2] at h1
      exact h1
    obtain ⟨y, hy, ht, hcm⟩ := ways_calls (rules_ok (base_ok _ _)) (fun pc hpc => sumH_ok hpc) (stP_ev _) hr rfl (envL_fresh _ _) (vs := [.pointer (some ⟨x, 0, none⟩), .int .i64 n, .int .i64 p, elBlk.val b, .int .u64 st]) ⟨⟨⟨x, 0, 0⟩, envL_at rfl, rfl⟩, rfl, rfl, hblk, rfl, trivial⟩
    obtain ⟨ρ, hρ⟩ : ∃ ρ, ρ = rhoV (ofL (inoV (fun k => (L k).map (·.1)) n (S n) [.i p, .s ⟨b.toArray⟩, .i st])) fun _ => c := ⟨_, rfl⟩
    rw [← hρ] at ht
    have h1 : X.int ρ (.va 1) = n := by rw [hρ]; rfl
    have h3 : X.int ρ (.va 3) = (S n).kind := by rw [hρ]; rfl
    have h5 : X.int ρ (.va 5) = ((S n).bytes.length : Nat) := by rw [hρ]; rfl
    have h7 : X.int ρ (.va 7) = p := by rw [hρ]; rfl
    have hlv := leaves_int h5 hsz
    have h36 : X.bool ρ (.app 36 (.va 2)) = true := by rw [hρ]; rfl
    have h32 : X.bool ρ (.app 32 (.cons (.va 2) (.va 7))) = true := by
      rw [hρ]
      refine decide_eq_true (?_ : 0 ≤ (p : Int) ∧ (p : Int) < (leavesN (S n).bytes.length : Nat))
      omega
    simp only [stPL, List.mem_cons, List.not_mem_nil, or_false] at hy
    rcases hy with rfl | rfl | rfl | rfl | rfl | rfl | rfl | rfl | rfl | rfl | rfl | rfl | rfl | rfl | rfl | rfl <;> simp only [told_cons, told_nil, eq_true, eq_false, lt_true, lt_false, h1, h3, h5, h7, hlv, h36, h32, li_int, and_true, true_and, reduceCtorEq, false_and, and_false] at ht <;> first
      | omega
      | skip
    refine Calls.mono (hcm _ rfl) fun en w' ⟨v, E', h', nx', he, hg, hv, hview⟩ => ?_
    have v0 := (List.cons.inj hview).1.symm
    have r1 := (List.cons.inj hview).2
    have v1 := (List.cons.inj r1).1.symm
    have r2 := (List.cons.inj r1).2
    have v2 := (List.cons.inj r2).1.symm
    have v3 := (List.cons.inj (List.cons.inj r2).2).1.symm
    have hρ2 : E'.ρ = _ := hg.ext.ρ
    have hlen : (setN (S n) p b st).bytes.length = (S n).bytes.length := setB_length hb
    obtain ⟨g1, g2, g3⟩ := ino_done h hL hc rfl rfl hg v0 v1 v2 v3 rfl (N' := setN (S n) p b st)
      ⟨hok.kind, hok.links, by rw [hlen]; exact hok.size, fun e => absurd e hk, fun e => by rw [hlen]; exact hok.dir e, hst⟩ (by
        simp only [List.map_cons, List.map_nil, SV.den, hρ2, hlen]
        rfl) (by
        rw [hlen]
        show D.st (.grow _ fun q => if q = (p : Int).toNat then pad ⟨(cutB (pad ⟨b.toArray⟩) (p : Int).toNat (((S n).bytes.length : Nat) : Int).toNat).toArray⟩ else leafOf (S n).bytes q) = _
        rw [pad_of hb, pad_of (cutB_length hb _ _), Int.toNat_natCast, Int.toNat_natCast, leaf_fun hb hp]
        rfl)
    exact ⟨v, _, he, ⟨rfl, hv⟩, g1, g2, g3⟩
end Go.Proofs.YtcnimekhpnejlaaGreat.Ev
