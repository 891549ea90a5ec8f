/- Texts of this seat joined into one: B1, Z1, L1, AwT. -/
import Derived.Test.YtcnimekhpnejlaaGreatVFileBack14
import Derived.Test.YtcnimekhpnejlaaGreatVFileBack6
import Derived.Test.YtcnimekhpnejlaaGreatVFileBack13

/- The statements of files begin: a directory and a file. -/
namespace Go.Proofs.YtcnimekhpnejlaaGreat.Ev
open Go Go.RowKit
set_option linter.unusedVariables false
set_option linter.unusedSimpArgs false
set_option maxRecDepth 100000

def mpV : Blk → Option (List (AV × AV × Nat) × Nat)
  | .mp es c => some (es, c)
  | _ => none
/-- The inodes as the statements begin. -/
def S0 : Int → Nd := fun k => if k = 1 then ⟨2, 1, 1, []⟩ else if k = 2 then ⟨1, 1, 1, []⟩ else Nd.none
def treeSV : List SV := [.int .i64 0, .int .u32 0] ++ List.replicate 32 (.int .u8 0)
def wk (n k g : Nat) : List SV := [.int .i64 n, .int .i64 k, .int .i64 1, .int .i64 0, .int .u64 1, .ptr g 0]
def gw (m : Nat) : List SV := .ptr 8 0 :: (treeSV ++ [.int .i64 0, .int .i64 0, .map m])
theorem begun_ev (ρ : Rho) : (evCall (ctx rules0 ρ []) funT.get noSum 100000 1000 8 [] .nil 0).map (fun r => (r.1, [12, 29, 22, 52, 45, 26, 49].map (fun i => (r.2.1.get i).map Blk.view), (r.2.1.get 11).bind mpV, ((r.2.1.get 8).isSome))) =
    some (.tup [.s (.ptr 12 0), .s (.int .i64 2), .s (.bool true)], [some (.cells 107 (.ptr 8 0 :: (treeSV ++ [.int .i64 0, .map 11]))), some (.cells 100 (wk 1 2 22)), some (.cells 159 (gw 26)), some (.cells 100 (wk 2 1 45)), some (.cells 159 (gw 49)), some .empty, some .empty], some ([(.s (.int .i64 1), .s (.ptr 29 0), 32), (.s (.int .i64 2), .s (.ptr 52 0), 55)], 2), true) := by kernel_rfl
theorem treeSV_den {E : Env} : treeSV.map (SV.den E) = treeZ := treeZX_den
theorem treeSV_one : treeSV.all SV.one = true := by decide +kernel
def L0 (p1 p2 p3 q1 q2 q3 : Nat) : Int → Option (Nat × Nat × Nat) := fun k => if k = 1 then some (p1, p2, p3) else if k = 2 then some (q1, q2, q3) else none
theorem nil_rel (ρ : Rho) (w : World) : HRel ⟨fun _ => none, ρ⟩ .nil w := ⟨fun i b h => by simp [T.get] at h, fun i j b c p q h => by simp [T.get] at h, ⟨fun i e p h => by simp [T.get] at h, fun i e p j c q h => by simp [T.get] at h, fun i e p j c q h => by simp [T.get] at h⟩⟩
theorem nil_owned {E : Env} {w : World} {k : Nat} (h : Owned E .nil w k) : False := by
  rcases h with ⟨j, c, q, hj, _⟩ | ⟨j, e, q, hj, _⟩ <;> simp [T.get] at hj
/-- The statements' beginning. -/
theorem begun_any (w : World) : Calls Tryz.prog 8 #[] w fun en w' => ∃ X, en = .returned (.tuple #[.pointer (some ⟨X, 0, none⟩), .int .i64 2, .bool true]) ∧ isD Tryz.prog (.st (.ino S0)) X w' ∧ (∀ k, ownD Tryz.prog X w' k → w.heap.size ≤ k) ∧ Below w.heap.size w w' := by
  obtain ⟨ρ, hρ⟩ : ∃ ρ, ρ = rhoI (ofL []) fun _ => undef := ⟨_, rfl⟩
  obtain ⟨r, hr, hrv⟩ := Option.map_eq_some_iff.1 (begun_ev ρ)
  have hC : (ctx rules0 ρ []).Ok := rules0_ok ρ [] Told.nil
  have hok := evCall_ok hC (show (ctx rules0 ρ []).P.follows .mixedOrders = true from mixed) (funs_ok (C := ctx rules0 ρ []) rfl) (noSum_ok (C := ctx rules0 ρ [])) (F := 100000) 1000
  refine (hok _ _ _ _ r hr ⟨fun _ => none, ρ⟩ w [] (nil_rel ρ w) rfl (fun _ _ => rfl) trivial).mono fun en w' ⟨v, E', he, hg, hv⟩ => ?_
  simp only [Prod.mk.injEq, List.map_cons, List.map_nil, List.cons.injEq, and_true] at hrv
  obtain ⟨hr1, ⟨v12, v29, v22, v52, v45, v26, v49⟩, v11, v8⟩ := hrv
  have hρ' : E'.ρ = ρ := hg.ext.ρ
  have pl : ∀ i B, r.2.1.get i = some B → ∃ p, E'.m i = some p ∧ w.heap.size ≤ p.blk := fun i B hB => by
    obtain ⟨p, o, hp, _⟩ := hg.rel.at_ i B hB
    refine ⟨p, hp, ?_⟩
    rcases hg.own i B p hB hp with ⟨j, c, q, hj, _⟩ | h
    · simp [T.get] at hj
    · exact h
  obtain ⟨B12, hB12⟩ := live_of v12
  obtain ⟨B29, hB29⟩ := live_of v29
  obtain ⟨B22, hB22⟩ := live_of v22
  obtain ⟨B52, hB52⟩ := live_of v52
  obtain ⟨B45, hB45⟩ := live_of v45
  obtain ⟨B26, hB26⟩ := live_of v26
  obtain ⟨B49, hB49⟩ := live_of v49
  obtain ⟨B8, hB8⟩ := Option.isSome_iff_exists.1 v8
  obtain ⟨B11, hB11, v11⟩ := Option.bind_eq_some_iff.1 v11
  obtain ⟨p12, hp12, n12⟩ := pl 12 _ hB12
  obtain ⟨p29, hp29, n29⟩ := pl 29 _ hB29
  obtain ⟨p22, hp22, n22⟩ := pl 22 _ hB22
  obtain ⟨p52, hp52, n52⟩ := pl 52 _ hB52
  obtain ⟨p45, hp45, n45⟩ := pl 45 _ hB45
  obtain ⟨p26, hp26, n26⟩ := pl 26 _ hB26
  obtain ⟨p49, hp49, n49⟩ := pl 49 _ hB49
  obtain ⟨p11, hp11, n11⟩ := pl 11 _ hB11
  obtain ⟨p8, hp8, n8⟩ := pl 8 _ hB8
  have d12 := cells_dl hg.rel v12 hp12
  have d29 := cells_dl hg.rel v29 hp29
  have d22 := cells_dl hg.rel v22 hp22
  have d52 := cells_dl hg.rel v52 hp52
  have d45 := cells_dl hg.rel v45 hp45
  have apart : ∀ {i j : Nat} {B C : Blk} {p q : Pl}, r.2.1.get i = some B → r.2.1.get j = some C → E'.m i = some p → E'.m j = some q → i ≠ j → p.blk ≠ q.blk := fun hi hj hp hq hne e => hne (hg.rel.inj _ _ _ _ _ _ hi hj hp hq e)
  -- rows
  obtain ⟨cx, hcx⟩ : ∃ cx, cx = Value.pointer (some ⟨p8.blk, p8.dl, none⟩) := ⟨_, rfl⟩
  have hc1 : cx.oneCell' = true := by rw [hcx]; rfl
  have r12 := row_of_view hg.rel v12 (by simp only [List.all_cons, List.all_append, treeSV_one]; rfl) hp12
  have e12 : (SV.ptr 8 0 :: (treeSV ++ [.int .i64 0, .map 11])).map (SV.den E') = inoCells cx p11.blk := by
    rw [List.map_cons, List.map_append, treeSV_den]
    simp only [List.map_cons, List.map_nil, SV.den, hp8, hp11, hcx]
    rfl
  rw [e12] at r12
  have egw : ∀ m pm, E'.m m = some pm → (gw m).map (SV.den E') = growCells cx (heightN (leavesN (0 : Nat))) 0 pm.blk := fun m pm hm => by
    unfold gw
    rw [List.map_cons, List.map_append, treeSV_den]
    simp only [List.map_cons, List.map_nil, SV.den, hp8, hm, hcx]
    rfl
  have gone : ∀ m, (gw m).all SV.one = true := fun m => by
    unfold gw
    simp only [List.all_cons, List.all_append, treeSV_one]
    rfl
  have r22 := row_of_view hg.rel v22 (gone 26) hp22
  rw [egw 26 p26 hp26] at r22
  have r45 := row_of_view hg.rel v45 (gone 49) hp45
  rw [egw 49 p49 hp49] at r45
  have r29 := row_of_view hg.rel v29 (by rfl) hp29
  have e29 : (wk 1 2 22).map (SV.den E') = workCells 1 (S0 1) p22.blk := by
    unfold wk
    simp only [List.map_cons, List.map_nil, SV.den, hp22, d22]
    rfl
  rw [e29] at r29
  have r52 := row_of_view hg.rel v52 (by rfl) hp52
  have e52 : (wk 2 1 45).map (SV.den E') = workCells 2 (S0 2) p45.blk := by
    unfold wk
    simp only [List.map_cons, List.map_nil, SV.den, hp45, d45]
    rfl
  rw [e52] at r52
  have m26 := (MapI.of_empty elBlk Tryz.prog 3 (empty_of_view hg.rel v26 hp26)).mono (Nat.zero_le 4096)
  have m49 := (MapI.of_empty elBlk Tryz.prog 3 (empty_of_view hg.rel v49 hp49)).mono (Nat.zero_le 4096)
  have lz : Leaves (fun _ => none) (leavesN ([] : List UInt8).length) (leafOf []) := by
    have e : leafOf [] = fun _ => zeros 256 := by
      funext p
      exact leafOf_past (by simp [leavesN])
    rw [e]
    exact Leaves.none_
  have g1 : IsGrow Tryz.prog w' p22.blk p26.blk (leavesN (S0 1).bytes.length) (leafOf (S0 1).bytes) := ⟨⟨cx, 0, .inl rfl, hc1, r22⟩, _, m26, lz⟩
  have g2 : IsGrow Tryz.prog w' p45.blk p49.blk (leavesN (S0 2).bytes.length) (leafOf (S0 2).bytes) := ⟨⟨cx, 0, .inl rfl, hc1, r45⟩, _, m49, lz⟩
  -- the map
  have hmap : MapI elPtr Tryz.prog 3 w' p11.blk 4096 (fun n => (L0 p29.blk p22.blk p26.blk p52.blk p45.blk p49.blk n).map (·.1)) := by
    unfold mpV at v11
    split at v11
    · rename_i es clock
      simp only [Option.some.injEq, Prod.mk.injEq] at v11
      obtain ⟨rfl, rfl⟩ := v11
      obtain ⟨o, hob, ents, rfl, l, hperm, hrel, hnd, hlt⟩ := hg.rel.blk hB11 hp11
      match l, hrel, hperm, hnd, hlt with
      | [x1, x2], hrel, hperm, hnd, hlt =>
        obtain ⟨⟨k1, ⟨q1, hq1, u1⟩, _⟩, ⟨k2, ⟨q2, hq2, u2⟩, _⟩, _⟩ := hrel
        rw [hp29] at hq1
        obtain rfl := Option.some.inj hq1
        rw [hp52] at hq2
        obtain rfl := Option.some.inj hq2
        have k1 : x1.key = .int .i64 1 := k1
        have k2 : x2.key = .int .i64 2 := k2
        have hmem : ∀ x, x ∈ ents.toList → x = x1 ∨ x = x2 := fun x hx => by
          have := hperm.mem_iff.2 hx
          simpa using this
        refine MapI.of_entries und_int hob (by rw [← Array.length_toList, ← hperm.length_eq]; exact (by decide : 2 ≤ 4096)) (fun x hx => hlt x (hperm.mem_iff.2 hx)) ((hperm.map _).nodup_iff.1 hnd) ((hperm.map _).nodup_iff.1 ?_) (fun x hx => ?_) (fun i a ha => ?_)
        · simp [k1, k2]
        · rcases hmem x hx with rfl | rfl
          · exact ⟨1, p29.blk, by unfold i64; omega, trivial, k1, by rw [u1, d29]; rfl, rfl⟩
          · exact ⟨2, p52.blk, by unfold i64; omega, trivial, k2, by rw [u2, d52]; rfl, rfl⟩
        · unfold L0 at ha
          split at ha
          · rename_i e
            exact ⟨x1, hperm.mem_iff.1 (by simp), by rw [k1, e]⟩
          · split at ha
            · rename_i e
              exact ⟨x2, hperm.mem_iff.1 (by simp), by rw [k2, e]⟩
            · cases ha
      | [], hrel, _, _, _ => exact hrel.elim
      | [_], hrel, _, _, _ => exact hrel.2.elim
      | _ :: _ :: _ :: _, hrel, _, _, _ => exact hrel.2.2.elim
    · cases v11
  have hI : Inos Tryz.prog w' p12.blk S0 p11.blk (L0 p29.blk p22.blk p26.blk p52.blk p45.blk p49.blk) := by
    refine ⟨⟨cx, hc1, r12⟩, hmap, fun n t ht => ?_, fun n ht => ?_, fun n n' t t' ht ht' hne => ?_, fun n t ht => ?_, fun n => ?_, fun n t ht => ?_⟩
    · unfold L0 at ht
      split at ht
      · rename_i e
        obtain rfl := Option.some.inj ht
        rw [e]
        exact ⟨r29, g1⟩
      · split at ht
        · rename_i e
          obtain rfl := Option.some.inj ht
          rw [e]
          exact ⟨r52, g2⟩
        · cases ht
    · unfold L0 at ht
      unfold S0
      split at ht
      · cases ht
      · rename_i e1
        split at ht
        · cases ht
        · rename_i e2
          rw [if_neg e1, if_neg e2]
    · have a1 := apart hB29 hB52 hp29 hp52 (by decide)
      have a2 := apart hB22 hB45 hp22 hp45 (by decide)
      have a3 := apart hB26 hB49 hp26 hp49 (by decide)
      unfold L0 at ht ht'
      split at ht
      · split at ht'
        · omega
        · split at ht'
          · obtain rfl := Option.some.inj ht
            obtain rfl := Option.some.inj ht'
            exact ⟨a1, a2, a3⟩
          · cases ht'
      · split at ht
        · split at ht'
          · obtain rfl := Option.some.inj ht
            obtain rfl := Option.some.inj ht'
            exact ⟨a1.symm, a2.symm, a3.symm⟩
          · split at ht'
            · omega
            · cases ht'
        · cases ht
    · have a3 := apart hB26 hB11 hp26 hp11 (by decide)
      have a4 := apart hB49 hB11 hp49 hp11 (by decide)
      unfold L0 at ht
      split at ht
      · obtain rfl := Option.some.inj ht
        exact a3
      · split at ht
        · obtain rfl := Option.some.inj ht
          exact a4
        · cases ht
    · unfold S0
      split
      · exact ⟨.inr (.inr rfl), by decide, by decide, (fun h => by cases h), fun _ => rfl, by decide⟩
      · split
        · exact ⟨.inr (.inl rfl), by decide, by decide, (fun h => by cases h), (fun h => by cases h), by decide⟩
        · exact none_ok
    · unfold L0 at ht
      split at ht
      · omega
      · split at ht
        · omega
        · cases ht
  have hbel : Below w.heap.size w w' := ⟨hg.frame.os, hg.frame.tape, hg.frame.output, hg.frame.size, fun k hk => hg.frame.block k hk nil_owned⟩
  refine ⟨p12.blk, ?_, ⟨_, _, hI⟩, fun k hk => ?_, hbel⟩
  · rw [hr1] at hv
    obtain ⟨vs, rfl, hvs⟩ := hv
    match vs, hvs with
    | [a, b, c], hvs =>
      obtain ⟨⟨q, hq, h1⟩, h2, h3, _⟩ := hvs
      rw [hp12] at hq
      obtain rfl := Option.some.inj hq
      have h2 : b = .int .i64 2 := h2
      have h3 : c = .bool true := h3
      rw [he, h1, h2, h3, d12]
  · rcases (ownD_ino hI k).1 hk with rfl | rfl | ⟨n, t, ht, hk⟩
    · exact n12
    · exact n11
    · unfold L0 at ht
      split at ht
      · obtain rfl := Option.some.inj ht
        rcases hk with rfl | rfl | rfl
        · exact n29
        · exact n22
        · exact n26
      · split at ht
        · obtain rfl := Option.some.inj ht
          rcases hk with rfl | rfl | rfl
          · exact n52
          · exact n45
          · exact n49
        · cases ht
end Go.Proofs.YtcnimekhpnejlaaGreat.Ev

/- zeros: so many bytes, all zero. -/
namespace Go.Proofs.YtcnimekhpnejlaaGreat.Ev
open Go Go.RowKit
set_option linter.unusedVariables false
set_option linter.unusedSimpArgs false
set_option maxRecDepth 100000
theorem made_zeros (n : Nat) : (madeCells (Value.int .u8 0).cells (n * 1)).toList = (zeros n).map byteV := by
  apply List.ext_getElem?
  intro i
  rw [Array.getElem?_toList, List.getElem?_map, zeros_get]
  unfold madeCells
  by_cases h : i < n
  · rw [if_pos h]
    have e : i % 1 = 0 := by omega
    simp [h, Value.cells, byteV, e]
  · rw [if_neg h]
    simp [h]
set_option maxHeartbeats 1000000 in
theorem zeros_any {n : Int} (hi : i64 n) (hn : n ≤ 1048576) (w : World) : Calls Tryz.prog 14 #[.int .i64 n] w fun e w' => e = .returned (.string ⟨(zeros n.toNat).toArray⟩) ∧ Below w.heap.size w w' := by
  by_cases h0 : n ≤ 0
  · have hd : decide (n ≤ 0) = true := decide_eq_true h0
    rw [show n.toNat = 0 by omega]
    go_enter Tryz.func14, Tryz.ntmps14
    go_wp2_with fail
    go_ret
    exact ⟨rfl, Below.refl _ _⟩
  obtain ⟨n, rfl⟩ : ∃ m : Nat, n = m := ⟨n.toNat, by omega⟩
  have hd : decide ((n : Int) ≤ 0) = false := decide_eq_false h0
  rw [Int.toNat_natCast]
  obtain ⟨iu, hiu, hiu2⟩ := Option.map_eq_some_iff.1 info_u8
  have hz0 : iu.zero = some (.int .u8 0) := congrArg (·.1) hiu2
  have hz1 : iu.size = 1 := congrArg (·.2.1) hiu2
  have hz2 : iu.bytes = 1 := congrArg (·.2.2) hiu2
  go_enter Tryz.func14, Tryz.ntmps14
  go_wp2_with (at_make; refine wpList_make_full _ rfl _ _ 93 rfl w.heap.size 5 iu (.int .u8 0) 1 Tryz.underlying93 hiu hz0 hz1 .i64 .i64 _ _ n rfl rfl rfl rfl (by rw [hz2]; omega) (by unfold maxLen; omega) (Nat.le_refl _) ?_; intro w2 hown hgrow; rw [made_zeros] at hown; have hcv := conv_own hown)
  go_ret
  exact ⟨rfl, (Below.refl _ _).grown hgrow (Nat.le_refl _) (fun k hk => by cases hk)⟩
theorem rZer_ok {v : Nat → D} {o : Nat → Value} {pc : List (X × Bool)} (hpc : Told (rhoI v o) pc) : ∀ g args r, rZer pc g args = some r → POk Tryz.prog (rhoI v o) g args r := by
  intro g args r h E hρ w vs hargs
  unfold rZer at h
  split at h
  · rename_i hg
    subst hg
    split at h
    · rename_i y
      obtain ⟨⟨k, p⟩, hp, h⟩ := Option.bind_eq_some_iff.1 h
      split at h
      · rename_i hc
        obtain ⟨e1, c1, c2⟩ := hc
        have e1 : k = .i64 := e1
        subst e1
        obtain rfl := Option.some.inj h
        match vs, hargs with
        | [u], hargs =>
          have h2 : u = .int .i64 (p.int (rhoI v o)) := by rw [← hρ]; exact asI_rel hp hargs.1
          subst h2
          have c2 : decide (1048576 < p.int (rhoI v o)) = false := truL_ok hpc c2
          have c2 := of_decide_eq_false c2
          refine (zeros_any (inI64_oki hpc c1) (by exact Int.not_lt.1 c2) w).mono fun en w' ⟨he, hB⟩ => ⟨_, he, ?_, hB⟩
          show _ = Value.string ((E.ρ.f 69 (p.val E.ρ)).str)
          rw [hρ]
          rfl
      · cases h
    · cases h
  · cases h
end Go.Proofs.YtcnimekhpnejlaaGreat.Ev

/- The rules of the statements of files hold. -/
namespace Go.Proofs.YtcnimekhpnejlaaGreat.Ev
open Go Go.RowKit
set_option linter.unusedVariables false
set_option linter.unusedSimpArgs false
set_option maxRecDepth 10000
theorem upd_kind {S : Int → Nd} {n : Int} {N : Nd} (h : N.kind = (S n).kind) (m : Int) : (updS S n N m).kind = (S m).kind := by
  unfold updS
  split
  · rename_i e
    rw [h, e]
  · rfl
theorem wrN_kind (N : Nd) (a : Nat) (s : List UInt8) (t : Int) : (wrN N a s t).kind = N.kind := by
  unfold wrN
  split <;> rfl
theorem base_told {v : Nat → D} {o : Nat → Value} : ∀ (k : Nat) (e : X) {S : Int → Nd}, (baseN k e).val (rhoI v o) = .st (.ino S) → ∃ S', e.val (rhoI v o) = .st (.ino S') ∧ ∀ n, (S' n).kind = (S n).kind
  | 0, e, S, h => ⟨S, h, fun _ => rfl⟩
  | k + 1, e, S, h => by
    unfold baseN at h
    split at h
    · rename_i e2 x1 x2 x3 x4
      obtain ⟨S1, h1, h2⟩ := base_told k e2 h
      refine ⟨updS S1 (x1.int (rhoI v o)) (wrN (S1 (x1.int (rhoI v o))) (x2.int (rhoI v o)).toNat (D.bs (x3.val (rhoI v o))) (x4.int (rhoI v o))), ?_, fun n => by rw [upd_kind (wrN_kind _ _ _ _), h2]⟩
      show FNi 65 (.p (e2.val (rhoI v o)) (.p (x1.val (rhoI v o)) (.p (x2.val (rhoI v o)) (.p (x3.val (rhoI v o)) (x4.val (rhoI v o)))))) = _
      rw [h1]
      rfl
    · rename_i e2 x1 x2 x3
      obtain ⟨S1, h1, h2⟩ := base_told k e2 h
      refine ⟨updS S1 (x1.int (rhoI v o)) (resN (S1 (x1.int (rhoI v o))) (x2.int (rhoI v o)).toNat (x3.int (rhoI v o))), ?_, fun n => (upd_kind (by rfl) n).trans (h2 n)⟩
      show FNi 56 (.p (e2.val (rhoI v o)) (.p (x1.val (rhoI v o)) (.p (x2.val (rhoI v o)) (x3.val (rhoI v o))))) = _
      rw [h1]
      rfl
    · exact ⟨S, h, fun _ => rfl⟩
theorem told_file {v : Nat → D} {o : Nat → Value} {pc : List (X × Bool)} (hpc : Told (rhoI v o) pc) {e n : X} (h : isFile pc e n = true) : ∃ S, e.val (rhoI v o) = .st (.ino S) ∧ FileN S (n.int (rhoI v o)) := by
  have h1 : (FNi 68 (.p ((baseN 30 e).val (rhoI v o)) (n.val (rhoI v o)))).bool = true := truL_ok hpc (of_decide_eq_true h)
  generalize hd : (baseN 30 e).val (rhoI v o) = d at h1
  cases d with
  | st x =>
    cases x with
    | ino S =>
      obtain ⟨S', h2, h3⟩ := base_told 30 e hd
      have h1 : decide (1 ≤ n.int (rhoI v o) ∧ n.int (rhoI v o) ≤ 4096 ∧ (S (n.int (rhoI v o))).kind = 1) = true := h1
      have h1 := of_decide_eq_true h1
      exact ⟨S', h2, ⟨h1.1, h1.2.1⟩, by rw [h3]; exact h1.2.2⟩
    | grow => cases h1
    | works => cases h1
    | leaves => cases h1
  | _ => cases h1
theorem rLaw_write {v : Nat → D} {o : Nat → Value} {pc : List (X × Bool)} (hpc : Told (rhoI v o) pc) {e : X} {args : List EV} {r : EV × X} (h : rLaw pc 10 e args = some r) : AOk Tryz.prog (rhoI v o) 10 e args r.1 r.2 := by
  intro E hρ a w vs his hargs
  unfold rLaw at h
  rw [if_pos rfl] at h
  split at h
  · rename_i y z u t
    obtain ⟨⟨k, n⟩, hn, h⟩ := Option.bind_eq_some_iff.1 h
    obtain ⟨⟨k2, p⟩, hp, h⟩ := Option.bind_eq_some_iff.1 h
    obtain ⟨s, hs, h⟩ := Option.bind_eq_some_iff.1 h
    obtain ⟨⟨k3, st⟩, hst, h⟩ := Option.bind_eq_some_iff.1 h
    split at h
    · rename_i hk
      obtain ⟨hk, hk2, hk3, c1, c2, c3⟩ := hk
      have hk : k = .i64 := hk
      have hk2 : k2 = .i64 := hk2
      have hk3 : k3 = .u64 := hk3
      subst hk
      subst hk2
      subst hk3
      obtain ⟨S, he, hf⟩ := told_file hpc c3
      have his2 : isD Tryz.prog (e.val (rhoI v o)) a w := his
      rw [he] at his2
      match vs, hargs with
      | [u, u2, u3, u4], hargs =>
        have hu : u = .int .i64 (n.int (rhoI v o)) := by rw [← hρ]; exact asI_rel hn hargs.1
        have hu2 : u2 = .int .i64 (p.int (rhoI v o)) := by rw [← hρ]; exact asI_rel hp hargs.2.1
        have hu3 : u3 = .string (s.str (rhoI v o)) := by rw [← hρ]; exact asS_rel hs hargs.2.2.1
        have hu4 : u4 = .int .u64 (st.int (rhoI v o)) := by rw [← hρ]; exact asI_rel hst hargs.2.2.2.1
        subst hu
        subst hu2
        subst hu3
        subst hu4
        have hw := file_write his2 hf (inI64_oki hpc c1) (s := s.str (rhoI v o)) (inU64_oki hpc c2)
        obtain ⟨b, hb, h⟩ := Option.bind_eq_some_iff.1 h
        have hb : decide (0 ≤ p.int (rhoI v o) ∧ p.int (rhoI v o) + ((s.str (rhoI v o)).size : Nat) ≤ 1048576) = b := truL_ok hpc hb
        cases b with
        | true =>
          have hb := of_decide_eq_true hb
          rw [if_pos rfl] at h
          obtain rfl := Option.some.inj h
          refine acts_aoi hw fun u d hq => ?_
          rw [if_pos hb] at hq
          obtain ⟨rfl, rfl⟩ := hq
          refine ⟨tup2_mk ?_ rfl, ?_⟩
          · show Value.int .i64 _ = Value.int .i64 (IntKind.i64.wrap (p.int E.ρ + ((s.str E.ρ).size : Nat)))
            rw [hρ, wrap_i (n := p.int (rhoI v o) + ((s.str (rhoI v o)).size : Nat)) (by omega) (by omega)]
          · show _ = FNi 65 (.p (e.val (rhoI v o)) (.p (n.val (rhoI v o)) (.p (p.val (rhoI v o)) (.p (s.val (rhoI v o)) (st.val (rhoI v o))))))
            rw [he]
            rfl
        | false =>
          have hb := of_decide_eq_false hb
          rw [if_neg (by decide)] at h
          obtain ⟨c, hc, rfl⟩ := Option.map_eq_some_iff.1 h
          have hc : decide (p.int (rhoI v o) < 0) = c := truL_ok hpc hc
          refine acts_aoi hw fun u d hq => ?_
          rw [if_neg hb] at hq
          obtain ⟨rfl, rfl⟩ := hq
          refine ⟨tup2_mk rfl ?_, he.symm⟩
          cases c with
          | true => rw [if_pos (of_decide_eq_true hc)]; rfl
          | false => rw [if_neg (of_decide_eq_false hc)]; rfl
    · cases h
  · cases h
theorem rLaw_read {v : Nat → D} {o : Nat → Value} {pc : List (X × Bool)} (hpc : Told (rhoI v o) pc) {e : X} {args : List EV} {r : EV × X} (h : rLaw pc 11 e args = some r) : AOk Tryz.prog (rhoI v o) 11 e args r.1 r.2 := by
  intro E hρ a w vs his hargs
  unfold rLaw at h
  rw [if_neg (by decide), if_pos rfl] at h
  split at h
  · rename_i y z u
    obtain ⟨⟨k, n⟩, hn, h⟩ := Option.bind_eq_some_iff.1 h
    obtain ⟨⟨k2, p⟩, hp, h⟩ := Option.bind_eq_some_iff.1 h
    obtain ⟨⟨k3, q⟩, hq, h⟩ := Option.bind_eq_some_iff.1 h
    split at h
    · rename_i hk
      obtain ⟨hk, hk2, hk3, c1, c2, c3⟩ := hk
      have hk : k = .i64 := hk
      have hk2 : k2 = .i64 := hk2
      have hk3 : k3 = .i64 := hk3
      subst hk
      subst hk2
      subst hk3
      obtain ⟨S, he, hf⟩ := told_file hpc c3
      have his2 : isD Tryz.prog (e.val (rhoI v o)) a w := his
      rw [he] at his2
      match vs, hargs with
      | [u, u2, u3], hargs =>
        have hu : u = .int .i64 (n.int (rhoI v o)) := by rw [← hρ]; exact asI_rel hn hargs.1
        have hu2 : u2 = .int .i64 (p.int (rhoI v o)) := by rw [← hρ]; exact asI_rel hp hargs.2.1
        have hu3 : u3 = .int .i64 (q.int (rhoI v o)) := by rw [← hρ]; exact asI_rel hq hargs.2.2.1
        subst hu
        subst hu2
        subst hu3
        have hw := file_read his2 hf (inI64_oki hpc c1) (inI64_oki hpc c2)
        obtain ⟨b, hb, h⟩ := Option.bind_eq_some_iff.1 h
        have hb : decide (p.int (rhoI v o) < 0) = b := truL_ok hpc hb
        cases b with
        | true =>
          have hb := of_decide_eq_true hb
          rw [if_pos rfl] at h
          obtain rfl := Option.some.inj h
          refine acts_aoi hw fun u d ⟨hd, hq⟩ => ?_
          rw [if_pos (.inl hb)] at hq
          subst hd
          subst hq
          exact ⟨tup2_mk rfl rfl, he.symm⟩
        | false =>
          have hb := of_decide_eq_false hb
          rw [if_neg (by decide)] at h
          obtain ⟨c, hc, rfl⟩ := Option.map_eq_some_iff.1 h
          have hc : decide (q.int (rhoI v o) < 0) = c := truL_ok hpc hc
          refine acts_aoi hw fun u d ⟨hd, hq⟩ => ?_
          subst hd
          cases c with
          | true =>
            rw [if_pos (.inr (of_decide_eq_true hc))] at hq
            subst hq
            exact ⟨tup2_mk rfl rfl, he.symm⟩
          | false =>
            have hc := of_decide_eq_false hc
            rw [if_neg (fun e2 => e2.elim hb hc)] at hq
            subst hq
            refine ⟨tup2_mk ?_ rfl, he.symm⟩
            show _ = Value.string ((E.ρ.f 66 (.p (e.val E.ρ) (.p (n.val E.ρ) (.p (p.val E.ρ) (q.val E.ρ))))).str)
            rw [hρ, he]
            rfl
    · cases h
  · cases h
theorem rLaw_trunc {v : Nat → D} {o : Nat → Value} {pc : List (X × Bool)} (hpc : Told (rhoI v o) pc) {e : X} {args : List EV} {r : EV × X} (h : rLaw pc 12 e args = some r) : AOk Tryz.prog (rhoI v o) 12 e args r.1 r.2 := by
  intro E hρ a w vs his hargs
  unfold rLaw at h
  rw [if_neg (by decide), if_neg (by decide), if_pos rfl] at h
  split at h
  · rename_i y z t
    obtain ⟨⟨k, n⟩, hn, h⟩ := Option.bind_eq_some_iff.1 h
    obtain ⟨⟨k2, p⟩, hp, h⟩ := Option.bind_eq_some_iff.1 h
    obtain ⟨⟨k3, st⟩, hst, h⟩ := Option.bind_eq_some_iff.1 h
    split at h
    · rename_i hk
      obtain ⟨hk, hk2, hk3, c1, c2, c3⟩ := hk
      have hk : k = .i64 := hk
      have hk2 : k2 = .i64 := hk2
      have hk3 : k3 = .u64 := hk3
      subst hk
      subst hk2
      subst hk3
      obtain ⟨S, he, hf⟩ := told_file hpc c3
      have his2 : isD Tryz.prog (e.val (rhoI v o)) a w := his
      rw [he] at his2
      match vs, hargs with
      | [u, u2, u3], hargs =>
        have hu : u = .int .i64 (n.int (rhoI v o)) := by rw [← hρ]; exact asI_rel hn hargs.1
        have hu2 : u2 = .int .i64 (p.int (rhoI v o)) := by rw [← hρ]; exact asI_rel hp hargs.2.1
        have hu3 : u3 = .int .u64 (st.int (rhoI v o)) := by rw [← hρ]; exact asI_rel hst hargs.2.2.1
        subst hu
        subst hu2
        subst hu3
        have hw := file_truncate his2 hf (inI64_oki hpc c1) (inU64_oki hpc c2)
        obtain ⟨b, hb, h⟩ := Option.bind_eq_some_iff.1 h
        have hb : decide (p.int (rhoI v o) < 0) = b := truL_ok hpc hb
        cases b with
        | true =>
          have hb := of_decide_eq_true hb
          rw [if_pos rfl] at h
          obtain rfl := Option.some.inj h
          refine acts_aoi hw fun u d hq => ?_
          rw [if_pos hb] at hq
          obtain ⟨rfl, rfl⟩ := hq
          exact ⟨rfl, he.symm⟩
        | false =>
          have hb := of_decide_eq_false hb
          rw [if_neg (by decide)] at h
          obtain ⟨c, hc, rfl⟩ := Option.map_eq_some_iff.1 h
          have hc : decide (1048576 < p.int (rhoI v o)) = c := truL_ok hpc hc
          refine acts_aoi hw fun u d hq => ?_
          rw [if_neg hb] at hq
          cases c with
          | true =>
            rw [if_pos (of_decide_eq_true hc)] at hq
            obtain ⟨rfl, rfl⟩ := hq
            exact ⟨rfl, he.symm⟩
          | false =>
            rw [if_neg (of_decide_eq_false hc)] at hq
            obtain ⟨rfl, rfl⟩ := hq
            refine ⟨rfl, ?_⟩
            show _ = FNi 56 (.p (e.val (rhoI v o)) (.p (n.val (rhoI v o)) (.p (p.val (rhoI v o)) (st.val (rhoI v o)))))
            rw [he]
            rfl
    · cases h
  · cases h
theorem rLaw_same {v : Nat → D} {o : Nat → Value} {pc : List (X × Bool)} (hpc : Told (rhoI v o) pc) {e : X} {args : List EV} {r : EV × X} (h : rLaw pc 13 e args = some r) : AOk Tryz.prog (rhoI v o) 13 e args r.1 r.2 := by
  intro E hρ a w vs his hargs
  unfold rLaw at h
  rw [if_neg (by decide), if_neg (by decide), if_neg (by decide), if_pos rfl] at h
  split at h
  · rename_i y z
    obtain ⟨⟨k, n⟩, hn, h⟩ := Option.bind_eq_some_iff.1 h
    obtain ⟨⟨k2, p⟩, hp, h⟩ := Option.bind_eq_some_iff.1 h
    split at h
    · rename_i hk
      obtain ⟨hk, hk2, c3, c4⟩ := hk
      have hk : k = .i64 := hk
      have hk2 : k2 = .i64 := hk2
      subst hk
      subst hk2
      obtain rfl := Option.some.inj h
      obtain ⟨S, he, hf⟩ := told_file hpc c3
      obtain ⟨S2, he2, hf2⟩ := told_file hpc c4
      rw [he] at he2
      obtain rfl : S = S2 := by injection he2 with e1; injection e1
      have his2 : isD Tryz.prog (e.val (rhoI v o)) a w := his
      rw [he] at his2
      match vs, hargs with
      | [u, u2], hargs =>
        have hu : u = .int .i64 (n.int (rhoI v o)) := by rw [← hρ]; exact asI_rel hn hargs.1
        have hu2 : u2 = .int .i64 (p.int (rhoI v o)) := by rw [← hρ]; exact asI_rel hp hargs.2.1
        subst hu
        subst hu2
        refine acts_aoi (file_same his2 hf hf2) fun u d ⟨hd, hq⟩ => ?_
        subst hd
        subst hq
        refine ⟨tup2_mk ?_ rfl, he.symm⟩
        show _ = Value.bool ((E.ρ.f 67 (.p (e.val E.ρ) (.p (n.val E.ρ) (p.val E.ρ)))).bool)
        rw [hρ, he]
        rfl
    · cases h
  · cases h
theorem rLaw_ok {v : Nat → D} {o : Nat → Value} {pc : List (X × Bool)} (hpc : Told (rhoI v o) pc) : ∀ g e args r, rLaw pc g e args = some r → AOk Tryz.prog (rhoI v o) g e args r.1 r.2 := by
  intro g e args r h
  by_cases h1 : g = 10
  · subst h1; exact rLaw_write hpc h
  by_cases h2 : g = 11
  · subst h2; exact rLaw_read hpc h
  by_cases h3 : g = 12
  · subst h3; exact rLaw_trunc hpc h
  by_cases h4 : g = 13
  · subst h4; exact rLaw_same hpc h
  exfalso
  unfold rLaw at h
  rw [if_neg h1, if_neg h2, if_neg h3, if_neg h4] at h
  cases h
theorem sumBeg_ok {v : Nat → D} {o : Nat → Value} {pc : List (X × Bool)} {R : Rules} (h0 : v 0 = .st (.ino S0)) : CallOk (ctx R (rhoI v o) pc) sumBeg := by
  intro g args h nx r he E w vs hr hρ hf hargs
  replace hρ : E.ρ = rhoI v o := hρ
  unfold sumBeg at he
  split at he
  · rename_i hg
    subst hg
    split at he
    · obtain rfl := Option.some.inj he
      match vs, hargs with
      | [], hargs =>
        refine (begun_any w).mono fun en w' ⟨a, h1, h2, h3, h4⟩ => ?_
        have hg := Goes.below (nx := nx) hr h4
        have hdis : ∀ k, E.ρ.A.own a w' k → ¬ Owned E h w' k := fun k hk ho => by
          rw [hρ] at hk
          have hk := h3 k hk
          rcases hg.owned ho with ho | hge
          · have := owned_lt hr ho
            omega
          · rcases ho with ⟨j, cc, q, hj, hq, rfl⟩ | ⟨j, e, q, hj, hq, ho⟩
            · obtain ⟨o2, ho2, _⟩ := hr.blk hj hq
              have := lt_of_heap ho2
              omega
            · have h5 := E.ρ.A.keep _ _ w w' (hr.abs.ab j e q hj hq) (fun k hk => h4.block k (E.ρ.A.lt _ _ _ (hr.abs.ab j e q hj hq) k hk)) h4.size
              have := E.ρ.A.lt _ _ _ (hr.abs.ab j e q hj hq) k ((h5.2 k).1 ho)
              omega
        have hg2 := Goes.adopt hg (hf nx (Nat.le_refl _)) (a := a) (e := .va 0) (by rw [hρ]; show isD Tryz.prog (v 0) a w'; rw [h0]; exact h2) (fun k hk => by rw [hρ] at hk; exact h3 k hk) hdis
        exact ⟨_, _, h1, hg2, ⟨_, rfl, ⟨⟨a, 0, 0⟩, Env.put_at _ _ _, rfl⟩, rfl, rfl, trivial⟩⟩
    · cases he
  · cases he
/-- A call without arguments that answers true. -/
def AnsTrue (g : Nat) : Prop := ∀ W, Calls Tryz.prog g #[] W fun e W' => e = .returned (.bool true) ∧ Below W.heap.size W W'
theorem sumTru_ok {C : Ctx} (hP : C.P = Tryz.prog) {l : List Nat} (hl : ∀ g ∈ l, AnsTrue g) : CallOk C (sumTru l) := by
  intro g args h nx r he E w vs hr hρ hf hargs
  rw [hP]
  unfold sumTru at he
  split at he
  · split at he
    · rename_i hg
      obtain rfl := Option.some.inj he
      match vs, hargs with
      | [], _ =>
        refine (hl g (by simpa using hg) w).mono fun e w' ⟨h1, h2⟩ => ?_
        exact ⟨_, E, h1, Goes.below hr h2, rfl⟩
    · cases he
  · cases he
theorem sumB_ok {v : Nat → D} {o : Nat → Value} {pc : List (X × Bool)} (hpc : Told (rhoI v o) pc) {R : Rules} (h0 : v 0 = .st (.ino S0)) : CallOk (ctx R (rhoI v o) pc) (sumB pc) :=
  sumOr_ok (sumBeg_ok h0) (sumOr_ok (sumA_ok (rLaw_ok hpc)) (sumP_ok (rZer_ok hpc)))
end Go.Proofs.YtcnimekhpnejlaaGreat.Ev

/- What calls come to, on all their ways (written by wip/tools/tabs.py). -/
namespace Go.Proofs.YtcnimekhpnejlaaGreat.Ev
open Go
def awkT : PT := (.node (.app 68 (.cons (.va 0) (.li 2))) (.node (.app 64 (.cons (.li 300) (.ls ⟨#[97, 98]⟩))) (.node (.eq (.bin .add .i64 (.li 300) (.len (.ls ⟨#[97, 98]⟩))) (.li 302)) (.node (.seq (.app 66 (.cons (.app 65 (.cons (.va 0) (.cons (.li 2) (.cons (.li 300) (.cons (.ls ⟨#[97, 98]⟩) (.li 1)))))) (.cons (.li 2) (.cons (.li 299) (.li 9))))) (.ls ⟨#[0, 97, 98]⟩)) .leaf .leaf) .leaf) .leaf) .dead)
def awkL : List (List (X × Bool) × Option (EV × List (Option BV))) := [
  ([((.seq (.app 66 (.cons (.app 65 (.cons (.va 0) (.cons (.li 2) (.cons (.li 300) (.cons (.ls ⟨#[97, 98]⟩) (.li 1)))))) (.cons (.li 2) (.cons (.li 299) (.li 9))))) (.ls ⟨#[0, 97, 98]⟩)), true), ((.eq (.bin .add .i64 (.li 300) (.len (.ls ⟨#[97, 98]⟩))) (.li 302)), true), ((.app 64 (.cons (.li 300) (.ls ⟨#[97, 98]⟩))), true), ((.app 68 (.cons (.va 0) (.li 2))), true)], some ((.a (.s (.bool true))), [])),
  ([((.seq (.app 66 (.cons (.app 65 (.cons (.va 0) (.cons (.li 2) (.cons (.li 300) (.cons (.ls ⟨#[97, 98]⟩) (.li 1)))))) (.cons (.li 2) (.cons (.li 299) (.li 9))))) (.ls ⟨#[0, 97, 98]⟩)), false), ((.eq (.bin .add .i64 (.li 300) (.len (.ls ⟨#[97, 98]⟩))) (.li 302)), true), ((.app 64 (.cons (.li 300) (.ls ⟨#[97, 98]⟩))), true), ((.app 68 (.cons (.va 0) (.li 2))), true)], some ((.a (.s (.bool false))), [])),
  ([((.eq (.bin .add .i64 (.li 300) (.len (.ls ⟨#[97, 98]⟩))) (.li 302)), false), ((.app 64 (.cons (.li 300) (.ls ⟨#[97, 98]⟩))), true), ((.app 68 (.cons (.va 0) (.li 2))), true)], some ((.a (.s (.bool false))), [])),
  ([((.app 64 (.cons (.li 300) (.ls ⟨#[97, 98]⟩))), false), ((.app 68 (.cons (.va 0) (.li 2))), true)], some ((.a (.s (.bool false))), [])),
  ([((.app 68 (.cons (.va 0) (.li 2))), false)], none)]
end Go.Proofs.YtcnimekhpnejlaaGreat.Ev
