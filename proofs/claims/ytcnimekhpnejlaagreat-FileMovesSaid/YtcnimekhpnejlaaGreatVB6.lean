/- Texts of this seat joined into one: D1, D2, G3, I0, C1, H1, H2, I1, I2, I1T. -/
import Derived.Test.YtcnimekhpnejlaaGreatVB5
import Derived.Shelf.SlMaps.Clone
import Derived.Shelf.SlMaps.DeleteFunc
import Derived.WalkKit
import Derived.Lib.BufferWrite
import Derived.Laws.CopyOwn
import Derived.Deep.MidRow
import Derived.Deep.RegionHeld3
import Derived.Test.YtcnimekhpnejlaaGreatVB4

/- maps.Clone and maps.DeleteFunc of maps of blocks. -/
namespace Go.Proofs.YtcnimekhpnejlaaGreat.Ev
open Go Go.RowKit Go.Maps Go.Shelf
set_option linter.unusedVariables false
set_option maxRecDepth 100000 in
set_option maxHeartbeats 2000000 in
theorem clone_any (b : Nat) (es : Array MapEntry) (clock : Nat) (w : World) (hb : w.heap[b]? = some (.map es clock)) :
    Calls Tryz.prog 74 #[.map (some b)] w fun e w' => e = .returned (.map (some w.heap.size)) ∧ w' = w.alloc (.map es clock) := by
  have hq := fun w => run_eql_map_nil_sl (P := Tryz.prog) w 157 _ _ (some b) Tryz.underlying157
  go_enter Tryz.func74, Tryz.ntmps74
  go_wp2
  rw [run_callFunc_extern Tryz.func84 (by kernel_rfl) (by kernel_rfl) (by kernel_rfl) (e := Extern.MapsClone.clone) (by kernel_rfl), run_maps_clone_sl w 157 hb]
  simp only [Result.andThen]
  rw [Oper.upon_value]
  go_wp2
  rw [run_typeAssert_map_sl _ 157 20 _ _ _ Tryz.underlying157]
  simp only [Result.andThen]
  rw [Oper.upon_value]
  go_wp2
  go_ret
  exact ⟨rfl, rfl⟩

theorem iblk : (Tryz.prog.info? 116).map (·.size) = some 256 := by kernel_rfl
theorem store_blk (g : Nat) (old D : Array Value) (W : World) (hg : W.heap[g]? = some (.cells old 116 (0, 0))) (ho : old.size = D.size) (h1 : D.all (·.oneCell') = true) :
    (storeCells ⟨g, 0, none⟩ D.toList).run Tryz.prog W = .ok () (W.setRow g D) := by
  have h := run_storeCells_at Tryz.prog g 0 116 D.toList 0 old W hg (by rw [Array.length_toList]; omega) (fun v hv => (Array.all_eq_true_iff_forall_mem.1 h1) v (by simpa using hv))
  rw [show (old.toList.take (0 + 0) ++ D.toList ++ old.toList.drop (0 + 0 + D.toList.length)).toArray = D from by
    rw [List.drop_of_length_le (by rw [Array.length_toList, Array.length_toList]; omega)]
    simp] at h
  exact h
theorem alloc_new (w : World) (o : Obj) : (w.alloc o).heap[w.heap.size]? = some o := (MapKept.heap_alloc w o).1
theorem grownBy_below {w w' : World} (h : Below w.heap.size w w') (r : Option Nat) : w.grownBy w' r := ⟨h.os, h.tape, h.output, h.size, fun k hk _ => h.block k hk⟩

set_option maxRecDepth 100000 in
set_option maxHeartbeats 4000000 in
theorem delete_any (pd : Lit → DataW Unit → Bool) (g : Nat) (cb : Array Value) (b n : Nat) (D : DataW Unit) (w : World) (hown : w.ownsMap Tryz.prog 3 elBlk.R b n D)
    (eg : ∀ args w, (callFunc g args).run Tryz.prog w = .ok (.enter g args) w)
    (hdel : ∀ (W : World) (key val : Value) (kl : Lit) (yd : DataW Unit) (yp : List MemPlace), w.grownBy W (some b) → keyOf Tryz.prog 3 key = some kl → elBlk.R val = some (yd, yp) →
      Calls Tryz.prog g (#[key, val] ++ cb) W fun e w' => e = .returned (.bool (pd kl yd)) ∧ W.grownBy w' none) :
    Calls Tryz.prog 71 #[.map (some b), .func (.func g) #[] cb] w fun e w' => e = .returned (.tuple #[]) ∧ w'.ownsMap Tryz.prog 3 elBlk.R b n (Lib.deleteFuncD pd D) ∧ w.grownBy w' (some b) := by
  have K : Keyed Tryz.prog 3 := Maps.int_keyed und_int
  obtain ⟨es0, rfl, hap, hkeys⟩ := hown.entries K
  have HD : Aside _ := hdel
  clear hdel
  go_enter Tryz.func71, Tryz.ntmps71
  go_wp2_with (first
    | (at_range; refine wpList_range_own _ rfl _ 157 rfl 3 116 K und_leaves elBlk.R b n _ rfl hown ?_; intro w0 hrg0 hg0 hs0)
    | go_in)
  go_frame
  go_loopw [8] (fun _ wr => ∃ (left : Lit → Bool) (cnt : Nat), wr.ranges Tryz.prog 3 elBlk.R b w.heap.size n (Fk pd es0 left) left cnt ∧ w.grownBy wr (some b))
    (fun _ wr => wr.rangeLeft b w.heap.size)
  case atStart => exact ⟨_, _, by rw [Fk_start hkeys]; exact hrg0, hg0.but _⟩
  case round =>
    obtain ⟨left, cnt, hrg, hgw⟩ := hrel
    go_wp2_with (first
      | (at_next; refine wpList_next_ranges _ rfl _ rfl 3 K elBlk.R id id (fun key _ _ => ⟨key, rfl⟩) (fun v _ _ => ⟨v, rfl⟩) b w.heap.size n _ _ _ rfl hrg ?_ ?_)
      | go_in)
    · -- NOTHING IS LEFT
      intro _ hl0
      go_wp2
      go_end0
      exact ⟨rfl, by rw [← Fk_end hl0]; exact hrg.owns, hgw⟩
    · -- AN ENTRY HAS COME
      intro x c kl yd yp w1 cnt1 hkey hlx hv hat hrg1 hlt hg1 hs1 hen
      have hgw1 := hgw.andThen hg1 (fun j hj => by cases hj; exact Or.inl (Nat.le_refl _))
      have hbl := hrg1.owns.lt
      have hrl := hrg1.lt
      obtain ⟨a, ha, hc2, _⟩ := elBlk.of _ _ hv
      subst hc2
      have hz : ∀ w, (zeroValue 116).run Tryz.prog w = .ok (.agg (cellsB (zeros 256))) w := fun w => zero_blk w
      have hZs : (cellsB (zeros 256)).size = 256 := cellsB_size _
      have hcs : (cellsB a).size = 256 := (cellsB_size a).trans ha
      have hC1 := cellsB_one a
      change elBlk.R (.agg (cellsB a)) = _ at hv
      change _ = Result.ok (Value.tuple #[x, .agg (cellsB a)]) w1 at hen
      show wpList Tryz.prog _ _ _ ⟨#[_, _, _, _, _, _, _, _, Value.tuple #[Value.bool true, x, .agg (cellsB a)], _, _, _, _, _, _, _, _, _, _], _⟩ _
      generalize cellsB a = C at *
      generalize cellsB (zeros 256) = Z at *
      have hg0 : (w1.alloc (Obj.cells Z 116)).heap[w1.heap.size]? = some (.cells Z 116 (0, 0)) := alloc_new w1 _
      have hst := store_blk w1.heap.size Z C _ hg0 (by omega) hC1
      have hgS : ((w1.alloc (Obj.cells Z 116)).setRow w1.heap.size C).heap[w1.heap.size]? = some (.cells C 116 (0, 0)) := setRow_heap _ _ Z C 116 (0, 0) hg0
      have hbS : Below w1.heap.size w1 ((w1.alloc (Obj.cells Z 116)).setRow w1.heap.size C) := below_setRow ((Below.refl _ _).alloc (Nat.le_refl _) _) (Nat.le_refl _) _
      generalize (w1.alloc (Obj.cells Z 116)).setRow w1.heap.size C = wS at hst hgS hbS
      have hgrS : w1.grownBy wS none := grownBy_below hbS none
      have hrgS := hrg1.kept hgrS (by simp) (by simp)
      have hgwS := hgw1.andThen hgrS (fun j hj => by cases hj)
      have hc := HD.out wS x (.agg C) kl yd yp hgwS hkey hv
      rw [← hs1] at *
      cases hp : pd kl yd <;> rw [hp] at hc
      · -- IT STAYS
        go_wp2
        refine wp_load_row 116 _ rfl w1.heap.size rfl 116 C (0, 0) _ hgS Tryz.underlying116 rfl (by rw [hcs]; exact iblk) ?_
        go_wp2_with (first
          | (go_at_fn g; refine hc.mono ?_; rintro e w2 ⟨rfl, hg2⟩)
          | go_in)
        have hrg2 := hrgS.kept hg2 (by simp) (by simp)
        go_roundw
        case rel => exact ⟨_, cnt1, by rw [← Fk_stays hap (K.key hkey) hlx hp hat]; exact hrg2, hgwS.andThen hg2 (fun j hj => by cases hj)⟩
        case measure => rw [hrg2.left_eq, hrg.left_eq]; exact hlt
      · -- IT IS STRUCK
        go_wp2
        refine wp_load_row 116 _ rfl w1.heap.size rfl 116 C (0, 0) _ hgS Tryz.underlying116 rfl (by rw [hcs]; exact iblk) ?_
        go_wp2_with (first
          | (go_at_fn g; refine hc.mono ?_; rintro e w2 ⟨rfl, hg2⟩; have hrg2 := hrgS.kept hg2 (by simp) (by simp))
          | (at_delete; refine wpList_delete_ranges _ rfl _ _ 157 3 rfl 116 K und_leaves elBlk.R b w.heap.size n _ _ _ rfl hrg2 _ _ rfl hkey ?_; intro w3 cnt3 hrg3 hle hturn; go_frame)
          | go_in)
        rw [strike_twice] at hrg3
        go_roundw
        case rel => exact ⟨_, cnt3, by rw [← Fk_struck hap (K.key hkey) hlx hp hat]; exact hrg3, (hgwS.andThen hg2 (fun j hj => by cases hj)).andThen hturn.grown (fun j hj => by cases hj; exact Or.inr rfl)⟩
        case measure => rw [hrg3.left_eq, hrg.left_eq]; omega
end Go.Proofs.YtcnimekhpnejlaaGreat.Ev

/- Calls told beforehand: maps.DeleteFunc with Fit's own function, maps.Clone of leaves. -/
namespace Go.Proofs.YtcnimekhpnejlaaGreat.Ev
open Go Go.RowKit Go.Maps
set_option linter.unusedVariables false
set_option linter.unusedSimpArgs false

/-- A block that is written, beside new ones. -/
theorem Goes.grow {E : Env} {h : T Blk} {nx : Nat} {w w' : World} (hr : HRel E h w) {i : Nat} {b b' : Blk} {p : Pl} {o' : Obj} (hb : h.get i = some b) (hp : E.m i = some p)
    (ht : w.grownBy w' (some p.blk)) (ho : w'.heap[p.blk]? = some o') (hrel : b'.rel E p o') (na : b.isAbs = false := by rfl) (na' : b'.isAbs = false := by rfl) : Goes E h nx w E (h.set i b') nx w' := by
  have hne : ∀ j e, (h.set i b').get j = some (.abs e) → j ≠ i ∧ h.get j = some (.abs e) := fun j e hj => by
    rw [T.get_set] at hj
    by_cases e2 : j = i
    · rw [if_pos e2] at hj
      exact absurd (Option.some.inj hj) (Blk.not_abs na' e)
    · rw [if_neg e2] at hj
      exact ⟨e2, hj⟩
  have hni : ∀ j e, h.get j = some (.abs e) → j ≠ i := fun j e hj e2 => by
    subst e2
    rw [hb] at hj
    exact Blk.not_abs na e (Option.some.inj hj)
  have live : ∀ j c, (h.set i b').get j = some c → ∃ c', h.get j = some c' := fun j c hc => by
    rw [T.get_set] at hc
    by_cases e : j = i
    · subst e; exact ⟨b, hb⟩
    · rw [if_neg e] at hc; exact ⟨c, hc⟩
  obtain ⟨hA, hO⟩ := hr.abs.carry (E' := E) (h' := h.set i b') (w' := w') rfl ht.size (fun j e q hj hq k hk => ht.block k (E.ρ.A.lt _ _ _ (hr.abs.ab j e q hj hq) k hk) (fun e2 => hr.abs.far j e q i b p hj hq hb hp (Ne.symm (hni j e hj)) (Option.some.inj e2 ▸ hk)))
    (fun j e q hj hq => ⟨(hne j e hj).2, hq⟩) (fun j c q hj hq => .inl (by obtain ⟨c', hc'⟩ := live j c hj; exact ⟨c', hc', hq⟩))
  exact {
    ext := Ext.refl E
    out := fun _ _ => rfl
    le := Nat.le_refl _
    rel := ⟨fun j c hc => by
        rw [T.get_set] at hc
        by_cases e : j = i
        · rw [if_pos e] at hc
          subst e
          obtain rfl := Option.some.inj hc
          exact ⟨p, o', hp, ho, hrel⟩
        · rw [if_neg e] at hc
          obtain ⟨q, o, hq, ho2, hr2⟩ := hr.at_ j c hc
          refine ⟨q, o, hq, ?_, hr2⟩
          rw [ht.block q.blk (lt_of_heap ho2) (fun e2 => e (hr.inj j i c b q p hc hb hq hp (Option.some.inj e2))), ho2],
      fun j k c d q r hc hd hq hr2 e => by
        obtain ⟨c', hc'⟩ := live j c hc
        obtain ⟨d', hd'⟩ := live k d hd
        exact hr.inj j k c' d' q r hc' hd' hq hr2 e, hA⟩
    frame := ⟨ht.os, ht.tape, ht.output, ht.size, fun k hk hn => ht.block k hk (fun e => hn (by rw [Option.some.inj e]; exact .blk hb hp))⟩
    ids := fun j c hc => .inl (live j c hc)
    own := fun j c q hc hq => by
      obtain ⟨c', hc'⟩ := live j c hc
      exact .inl ⟨j, c', q, hc', hq, rfl⟩
    uown := fun j e q hj hq k hk => .inl (.abs (hne j e hj).2 hq ((hO j e q hj hq k).1 hk)) }


theorem cell_of {W : World} {j i : Nat} {cs : Array Value} {t : TypeId} {fr : Nat × Nat} {v : Value} (h : W.heap[j]? = some (.cells cs t fr)) (hc : cs[i]? = some v) : W.cell? ⟨j, i, none⟩ = some v := by simp [World.cell?, h, hc]
theorem lt_of_cell {W : World} {j i : Nat} {v : Value} (h : W.cell? ⟨j, i, none⟩ = some v) : j < W.heap.size := by
  unfold World.cell? at h
  cases hj : W.heap[j]? with
  | none => simp [hj] at h
  | some o => exact (Array.getElem?_eq_some_iff.1 hj).1
set_option maxRecDepth 100000 in
set_option maxHeartbeats 4000000 in
theorem fit1_any (k q : Int) (v : Value) (yd : DataW Unit) (yp : List MemPlace) (hv : elBlk.R v = some (yd, yp)) (j : Nat) (W : World) (hc : W.cell? ⟨j, 0, none⟩ = some (.int .i64 q)) :
    Calls Tryz.prog 72 #[.int .i64 k, v, .pointer (some ⟨j, 0, none⟩)] W fun e w' => e = .returned (.bool (decide (q ≤ k))) ∧ W.grownBy w' none := by
  obtain ⟨a, ha, hc2, _⟩ := elBlk.of _ _ hv
  subst hc2
  have hcs : (cellsB a).size = 256 := (cellsB_size a).trans ha
  have hC1 := cellsB_one a
  show Calls _ _ #[_, .agg (cellsB a), _] _ _
  generalize cellsB a = C at *
  have hc2 : (W.alloc (Obj.cells C 116)).cell? ⟨j, 0, none⟩ = some (.int .i64 q) := (World.cell?_of_block (Below.heap_alloc W (Obj.cells C 116) j (lt_of_cell hc))).trans hc
  have hg : W.grownBy (W.alloc (Obj.cells C 116)) none := grownBy_below ((Below.refl _ _).alloc (Nat.le_refl _) _) none
  go_enter Tryz.func72, Tryz.ntmps72
  go_wp2
  go_ret
  exact ⟨rfl, hg⟩

/-- Fit's own function: what it deletes. -/
def pdFit (q : Int) : Lit → DataW Unit → Bool
  | .int _ i, _ => decide (q ≤ i)
  | _, _ => false
theorem fit_delete {b N : Nat} {f : Int → Option (List UInt8)} {w : World} (h : MapI elBlk Tryz.prog 3 w b N f) {j : Nat} {q : Int} (hj : j ≠ b) (hc : w.cell? ⟨j, 0, none⟩ = some (.int .i64 q)) :
    Calls Tryz.prog 71 #[.map (some b), .func (.func 72) #[] #[.pointer (some ⟨j, 0, none⟩)]] w fun e w' => e = .returned (.tuple #[]) ∧ MapI elBlk Tryz.prog 3 w' b N (kill f fun k => decide (q ≤ k)) ∧ w.grownBy w' (some b) := by
  obtain ⟨D, ho, h1, h2, h3⟩ := h
  refine (delete_any (pdFit q) 72 _ b N D w ho (enters_of Tryz.func72 (by kernel_rfl) rfl) (fun W key val kl yd yp hg hk hv => ?_)).mono fun e w' ⟨he, ho', hg⟩ => ⟨he, MapI.deleted und_int (fun i d => rfl) ho h1 h2 h3 ho', hg⟩
  have hlt := lt_of_cell hc
  have hcW : W.cell? ⟨j, 0, none⟩ = some (.int .i64 q) := (World.cell?_of_block (hg.block j hlt (fun e => hj (Option.some.inj e)))).trans hc
  obtain ⟨i, rfl, rfl, _⟩ := Maps.keyOf_int_inv und_int hk
  exact fit1_any i q val yd yp hv j W hcW

theorem sumDel_ok {R : Rules} {ρ : Rho} {pc : List (X × Bool)} (hB : Base ρ) (h22 : ∀ f d, ρ.f 22 (.p (.st (.leaves f)) d) = .st (.leaves (kill f fun k => decide (d.int ≤ k)))) : CallOk (ctx R ρ pc) sumDel := by
  intro g args h nx r he E w vs hr hρ hf hargs
  replace hρ : E.ρ = ρ := hρ
  unfold sumDel at he
  split at he
  · rename_i hg
    subst hg
    split at he
    · rename_i i f j
      split at he
      · rename_i hfj
        obtain ⟨rfl, hji⟩ := hfj
        split at he
        · rename_i e t c hi hj
          split at he
          · rename_i hn
            replace he := Option.bind_eq_some_iff.1 he
            obtain ⟨⟨k, q⟩, hq, he⟩ := he
            split at he
            · rename_i hk
              have hk : k = .i64 := hk
              subst hk
              obtain rfl := Option.some.inj he
              match vs, hargs with
              | [v1, v2], hargs =>
                obtain ⟨⟨p, hp, rfl⟩, ⟨ws, rfl, hws⟩, _⟩ := hargs
                match ws, hws with
                | [u], hws =>
                  obtain ⟨⟨pj, hpj, rfl⟩, _⟩ := hws
                  obtain ⟨o, ho, hd, hl, hoq⟩ := hr.blk hi hp
                  obtain ⟨oj, hoj, cs, lo, hi2, rfl, hc⟩ := hr.blk hj hpj
                  have hd2 := hc.dl rfl
                  obtain ⟨v0, hv0, hrel0⟩ := hc.get 0 hn
                  have hv0' := asI_rel hq hrel0
                  subst hv0'
                  rw [hρ, hB.oq] at hoq
                  unfold oqD at hoq
                  split at hoq
                  · exact absurd hoq.1 (by simp [linksOf])
                  · rename_i fm hval
                    obtain ⟨hm, hkeys⟩ := hoq.2 w p.blk ho
                    have hne : pj.blk ≠ p.blk := fun e2 => hji (hr.inj j i _ _ pj p hj hi hpj hp e2)
                    have hcell : w.cell? ⟨pj.blk, 0, none⟩ = some (.int .i64 (q.int ρ)) := by
                      rw [hd2] at hv0
                      rw [← hρ]
                      exact cell_of hoj hv0
                    have hcall := fit_delete hm hne hcell
                    have hz : pj.dl + 0 = 0 := by omega
                    rw [hz]
                    refine hcall.mono fun en w' ⟨h1, h2, h3⟩ => ?_
                    obtain ⟨o', ho'⟩ : ∃ o', w'.heap[p.blk]? = some o' := ⟨_, Array.getElem?_eq_getElem h2.lt⟩
                    refine ⟨.tuple #[], E, h1, Goes.grow hr hi hp h3 ho' ⟨hd, (fun x hx => by simp at hx), ?_⟩, [], rfl, trivial⟩
                    rw [hρ, hB.oq]
                    show oqD _ (ρ.f 22 (.p (e.val ρ) (q.val ρ))) _ _
                    rw [hval, h22]
                    refine ⟨rfl, fun w2 b2 ho2 => ⟨MapI.any h2 ho' w2 b2 ho2, fun i a ha => ?_⟩⟩
                    unfold kill at ha
                    split at ha
                    · cases ha
                    · exact hkeys i a ha
                  · exact hoq.elim
            · cases he
          · cases he
        · cases he
      · cases he
    · cases he
  · cases he

theorem sumClo_ok {R : Rules} {ρ : Rho} {pc : List (X × Bool)} (hB : Base ρ) : CallOk (ctx R ρ pc) sumClo := by
  intro g args h nx r he E w vs hr hρ hf hargs
  replace hρ : E.ρ = ρ := hρ
  unfold sumClo at he
  split at he
  · rename_i hg
    subst hg
    split at he
    · rename_i i
      split at he
      · rename_i e hi
        obtain rfl := Option.some.inj he
        match vs, hargs with
        | [v1], hargs =>
          obtain ⟨⟨p, hp, rfl⟩, _⟩ := hargs
          obtain ⟨o, ho, hd, hl, hoq⟩ := hr.blk hi hp
          have hmap : ∃ es clock, o = .map es clock := by
            have h2 := hoq
            rw [hρ, hB.oq] at h2
            unfold oqD at h2
            split at h2
            · exact absurd h2.1 (by simp [linksOf])
            · obtain ⟨es, clock, h3⟩ := (h2.2 w p.blk ho).1.is_map
              rw [ho] at h3
              exact ⟨es, clock, Option.some.inj h3⟩
            · exact h2.elim
          obtain ⟨es, clock, rfl⟩ := hmap
          refine (clone_any p.blk es clock w ho).mono fun en w' ⟨h1, h2⟩ => ?_
          subst h2
          refine ⟨_, _, h1, Goes.new (o := .map es clock) hr (hf nx (Nat.le_refl _)) ⟨w.heap.size, 0, 0⟩ rfl ⟨rfl, (fun x hx => by simp at hx), ?_⟩, _, Env.put_at _ _ _, rfl⟩
          exact hoq
      · cases he
    · cases he
  · cases he
theorem sumG_ok {R : Rules} {ρ : Rho} {pc : List (X × Bool)} (hB : Base ρ) (h22 : ∀ f d, ρ.f 22 (.p (.st (.leaves f)) d) = .st (.leaves (kill f fun k => decide (d.int ≤ k)))) : CallOk (ctx R ρ pc) sumG := sumOr_ok (sumDel_ok hB h22) (sumClo_ok hB)
end Go.Proofs.YtcnimekhpnejlaaGreat.Ev

/- Grown trees: Fit, Clone, New. -/
namespace Go.Proofs.YtcnimekhpnejlaaGreat.Ev
open Go Go.RowKit
set_option linter.unusedVariables false
set_option linter.unusedSimpArgs false
set_option maxRecDepth 10000

theorem cells_dl {E : Env} {h : T Blk} {w : World} (hr : HRel E h w) {i : Nat} {t : TypeId} {l : List SV} (hv : (h.get i).map Blk.view = some (.cells t l)) {p : Pl} (hp : E.m i = some p) : p.dl = 0 := by
  obtain ⟨B, hB, hv⟩ := Option.map_eq_some_iff.1 hv
  obtain ⟨q, o2, hq, _, hrel⟩ := hr.at_ i B hB
  rw [hp] at hq
  obtain rfl := Option.some.inj hq
  unfold Blk.view at hv
  split at hv
  · obtain ⟨_, _, _, _, hcr⟩ := hrel
    exact hcr.dl rfl
  · cases hv
  · cases hv
  · cases hv
  · cases hv
theorem live_of {h : T Blk} {i : Nat} {v : BV} (hv : (h.get i).map Blk.view = some v) : ∃ B, h.get i = some B := by
  obtain ⟨B, hB, _⟩ := Option.map_eq_some_iff.1 hv
  exact ⟨B, hB⟩
/-- A block that is none of those of the beginning is new. -/
theorem newB {l : List Nat} {bs : List Blk} {ρ : Rho} {nx nx' : Nat} {w w' : World} {E' : Env} {h' : T Blk} (hg : Goes (envL l ρ) (memL bs) nx w E' h' nx' w') (hl : bs.length = l.length) (hlive : ∀ j, j < l.length → ∃ C, h'.get j = some C) {i : Nat} (hi : l.length ≤ i) {B : Blk} (hB : h'.get i = some B) {p : Pl} (hp : E'.m i = some p) : w.heap.size ≤ p.blk := by
  rcases hg.own i B p hB hp with ⟨j, cc, q, hj, hq, e⟩ | h
  · exfalso
    have hj2 := (List.getElem?_eq_some_iff.1 (memL_get hj)).1
    obtain ⟨C, hC⟩ := hlive j (by omega)
    have := hg.rel.inj i j B C p q hB hC hp (hg.ext.m _ _ hq) e.symm
    omega
  · exact h
theorem sumG_rho (v : Nat → D) (o : Nat → Value) (pc : List (X × Bool)) : CallOk (ctx rules (rhoV v o) pc) sumG := sumG_ok (base_ok v o) (fun _ _ => rfl)
theorem fit_ev (ρ : Rho) : ways (fun pc => (evCall (ctx rules ρ pc) funT.get sumG 100000 1000 41 [.a (.s (.ptr 0 0)), .a (.s (.xi .i64 (.va 3)))] (growM (.xi .i64 (.va 1)) (.xi .i64 (.va 2))) 2).map (view [0, 1])) fitT [] = some fitL := by kernel_rfl
theorem clone_ev (ρ : Rho) : ways (fun pc => (evCall (ctx rules ρ pc) funT.get sumG 100000 1000 45 [.a (.s (.ptr 0 0))] (growM (.xi .i64 (.va 1)) (.xi .i64 (.va 2))) 2).map (view [0, 1, 2, 3])) cloneT [] = some cloneL := by kernel_rfl
theorem new_ev (ρ : Rho) : ways (fun pc => (evCall (ctx rules ρ pc) funT.get sumG 100000 1000 68 [.a (.s (.op 0)), .a (.agg treeZX)] .nil 0).map (view [0, 1, 2, 3, 4, 5, 6])) newT [] = some newL := by kernel_rfl

theorem Leaves.fit {f : Int → Option (List UInt8)} {n : Nat} {lf : Nat → List UInt8} (h : Leaves f n lf) {m : Nat} (hm : m ≤ 4096) : Leaves (kill f fun k => decide ((m : Int) ≤ k)) m (fun q => if q < m then lf q else zeros 256) where
  at_ := fun q hq => by
    unfold kill
    rw [if_pos hq, if_neg (by simpa using hq)]
    rcases Nat.lt_or_ge q n with h1 | h1
    · exact h.at_ q h1
    · rw [h.past q h1]
      cases hf : f q with
      | none => rfl
      | some a =>
        have := h.key q a hf
        omega
  past := fun q hq => if_neg (by omega)
  key := fun i a ha => by
    unfold kill at ha
    split at ha
    · cases ha
    · rename_i hi
      have := h.key i a ha
      simp only [decide_eq_true_eq, Int.not_le] at hi
      exact ⟨this.1, hi⟩
  n := hm
  len := fun q => by
    split
    · exact h.len q
    · exact List.length_replicate

theorem grow_fit {w : World} {gb sm n : Nat} {lf : Nat → List UInt8} (h : IsGrow Tryz.prog w gb sm n lf) {m : Nat} (hm : m ≤ 4096) : Acts Tryz.prog 41 gb [.int .i64 m] w fun u d => d = .st (.grow m (fun q => if q < m then lf q else zeros 256)) ∧ u = .int .i64 0 := by
  obtain ⟨c, lim, f, hlim, hf, hne, hopen⟩ := grow_open h
  have hr := hopen [.i m]
  obtain ⟨x, hx, ht, hc⟩ := ways_calls (rules_ok (base_ok _ _)) (fun pc _ => sumG_rho _ _ pc) (fit_ev _) hr rfl (envL_fresh _ _) (vs := [.pointer (some ⟨gb, 0, none⟩), .int .i64 m]) ⟨⟨⟨gb, 0, 0⟩, envL_at rfl, rfl⟩, rfl, trivial⟩
  have h0 : X.int (rhoV (ofL [.st (.leaves f), .i (heightN n), .i lim, .i m]) fun _ => c) (.va 3) = m := rfl
  have key : ∀ (ht' : Nat), heightN m = ht' → Came Tryz.prog 41 #[.pointer (some ⟨gb, 0, none⟩), .int .i64 m] (envL [gb, sm] (rhoV (ofL [.st (.leaves f), .i (heightN n), .i lim, .i m]) fun _ => c)) (growM (.xi .i64 (.va 1)) (.xi .i64 (.va 2))) 2 w [0, 1]
      ((.a (.s (.int .i64 0))), [some (.cells 159 (growL (.int .i64 ht') (.xi .i64 (.mn (.va 2) (.va 3))) 1)), some (.opq (.app 22 (.cons (.va 0) (.va 3))) [])]) →
      Acts Tryz.prog 41 gb [.int .i64 m] w fun u d => d = .st (.grow m (fun q => if q < m then lf q else zeros 256)) ∧ u = .int .i64 0 := fun ht' hh hc => by
    refine Calls.mono hc fun en w' ⟨v, E', h', nx', he, hg, hv, hview⟩ => ?_
    have v0 := (List.cons.inj hview).1.symm
    have v1 := (List.cons.inj (List.cons.inj hview).2).1.symm
    have hρ : E'.ρ = _ := hg.ext.ρ
    obtain ⟨h1, h2, h3⟩ := grow_close h rfl hg v0 v1 rfl rfl (n' := m) (lim2 := if (m : Int) < lim then m else lim) (by rw [SV.den, hh]) (by rw [SV.den, hρ]; rfl) (by split <;> omega) (grow_one hr) (f' := kill f fun k => decide ((m : Int) ≤ k)) rfl (Leaves.fit hf hm)
    exact ⟨v, _, he, ⟨rfl, hv⟩, h1, h2, h3⟩
  simp only [fitL, List.mem_cons, List.not_mem_nil, or_false] at hx
  rcases hx with rfl | rfl | rfl | rfl | rfl | rfl | rfl | rfl | rfl <;> simp only [told_cons, told_nil, lt_true, lt_false, h0, li_int, and_true] at ht
  · omega
  · omega
  · exact key 6 (by unfold heightN; (repeat' split) <;> omega) (hc _ rfl)
  · exact key 5 (by unfold heightN; (repeat' split) <;> omega) (hc _ rfl)
  · exact key 4 (by unfold heightN; (repeat' split) <;> omega) (hc _ rfl)
  · exact key 3 (by unfold heightN; (repeat' split) <;> omega) (hc _ rfl)
  · exact key 2 (by unfold heightN; (repeat' split) <;> omega) (hc _ rfl)
  · exact key 1 (by unfold heightN; (repeat' split) <;> omega) (hc _ rfl)
  · exact key 0 (by unfold heightN; (repeat' split) <;> omega) (hc _ rfl)

/-- Another one, just as it is. -/
theorem grow_clone {w : World} {gb sm n : Nat} {lf : Nat → List UInt8} (h : IsGrow Tryz.prog w gb sm n lf) : Calls Tryz.prog 45 #[.pointer (some ⟨gb, 0, none⟩)] w fun en w' => ∃ a, en = .returned (.pointer (some ⟨a, 0, none⟩)) ∧
    isD Tryz.prog (.st (.grow n lf)) gb w' ∧ (∀ k, ownD Tryz.prog gb w' k ↔ ownD Tryz.prog gb w k) ∧ isD Tryz.prog (.st (.grow n lf)) a w' ∧ (∀ k, ownD Tryz.prog a w' k → w.heap.size ≤ k) ∧ But (ownD Tryz.prog gb w) w w' := by
  obtain ⟨c, lim, f, hlim, hf, hne, hopen⟩ := grow_open h
  have hr := hopen []
  obtain ⟨x, hx, ht, hc⟩ := ways_calls (rules_ok (base_ok _ _)) (fun pc _ => sumG_rho _ _ pc) (clone_ev _) hr rfl (envL_fresh _ _) (vs := [.pointer (some ⟨gb, 0, none⟩)]) ⟨⟨⟨gb, 0, 0⟩, envL_at rfl, rfl⟩, trivial⟩
  simp only [cloneL, List.mem_cons, List.not_mem_nil, or_false] at hx
  subst hx
  refine Calls.mono (hc _ rfl) fun en w' ⟨v, E', h', nx', he, hg, hv, hview⟩ => ?_
  obtain ⟨p2, hp2, rfl⟩ := hv
  have v0 := (List.cons.inj hview).1.symm
  have r1 := (List.cons.inj hview).2
  have v1 := (List.cons.inj r1).1.symm
  have r2 := (List.cons.inj r1).2
  have v2 := (List.cons.inj r2).1.symm
  have v3 := (List.cons.inj (List.cons.inj r2).2).1.symm
  have hρ : E'.ρ = _ := hg.ext.ρ
  have hone := grow_one hr
  obtain ⟨h1, h2, h3⟩ := grow_close h rfl hg v0 v1 rfl rfl (n' := n) (lim2 := lim) (by rw [SV.den, hρ]; rfl) (by rw [SV.den, hρ]; rfl) hlim hone (f' := f) rfl hf
  obtain ⟨B3, hB3, _⟩ := Option.map_eq_some_iff.1 v3
  obtain ⟨B2, hB2, hv2⟩ := Option.map_eq_some_iff.1 v2
  obtain ⟨p3, o3, hp3, ho3, _⟩ := hg.rel.at_ 3 B3 hB3
  have hrow := row_of_view hg.rel v2 (growL_one rfl rfl) hp2
  rw [growL_den (c := c) (h := heightN n) (l := lim) (by rw [hρ]; rfl) hp3 (by rw [SV.den, hρ]; rfl) (by rw [SV.den, hρ]; rfl)] at hrow
  obtain ⟨o, hob, _, hoq⟩ := opq_of_view hg.rel v3 hp3
  rw [hρ] at hoq
  obtain ⟨hm, _⟩ := hoq.2 _ _ hob
  have hG : IsGrow Tryz.prog w' p2.blk p3.blk n lf := ⟨⟨c, lim, hlim, hone, hrow⟩, f, hm, hf⟩
  obtain ⟨sm', hG0⟩ := h1
  have hd2 : p2.dl = 0 := cells_dl hg.rel v2 hp2
  have hsm : sm' = sm := by
    have m1 : E'.m 1 = some ⟨sm, 0, 0⟩ := hg.ext.m _ _ (envL_at rfl)
    have hrow0 := row_of_view hg.rel v0 (growL_one rfl rfl) (hg.ext.m _ _ (envL_at rfl))
    rw [growL_den rfl m1 (h := heightN n) (l := lim) (by rw [SV.den, hρ]; rfl) (by rw [SV.den, hρ]; rfl)] at hrow0
    obtain ⟨⟨c', lim', _, _, hr'⟩, _⟩ := hG0
    have := (hr'.one hrow0).2 37 _ _ rfl rfl
    simpa using this
  subst hsm
  have live : ∀ j, j < [gb, sm'].length → ∃ C, h'.get j = some C := fun j hj => by
    match j, hj with
    | 0, _ => exact live_of v0
    | 1, _ => exact live_of v1
  refine ⟨p2.blk, by rw [he, hd2], ⟨sm', hG0⟩, fun k => (ownD_grow hG0 k).trans (ownD_grow h k).symm, ⟨p3.blk, hG⟩, fun k hk => ?_, h3⟩
  rcases (ownD_grow hG k).1 hk with rfl | rfl
  · exact newB hg rfl live (i := 2) (by simp) hB2 hp2
  · exact newB hg rfl live (i := 3) (by simp) hB3 hp3

theorem treeZX_den {E : Env} : treeZX.map (SV.den E) = treeZ := by
  unfold treeZX treeZ sumZ
  rw [List.map_append, List.map_replicate]
  rfl
theorem treeZX_rel {E : Env} : (AV.agg treeZX).rel E (.agg treeZ.toArray) := by
  refine ⟨treeZ, rfl, ?_⟩
  rw [← treeZX_den (E := E)]
  refine rels_den fun x hx => ?_
  unfold treeZX at hx
  change x ∈ [SV.int .i64 0, .int .u32 0] ++ z32 at hx
  simp only [List.mem_append, List.mem_cons, List.not_mem_nil, or_false] at hx
  rcases hx with (rfl | rfl) | hx
  · trivial
  · trivial
  · exact z32_fine hx
theorem Leaves.none_ : Leaves (fun _ => none) 0 (fun _ => zeros 256) := ⟨fun p hp => by omega, fun _ _ => rfl, (fun i a h => by cases h), by omega, fun _ => List.length_replicate⟩
/-- A new one, of no tree. -/
theorem grow_new (c : Value) (hc : c.oneCell' = true) (w : World) : Calls Tryz.prog 68 #[c, .agg treeZ.toArray] w fun en w' => ∃ a, en = .returned (.tuple #[.pointer (some ⟨a, 0, none⟩), .int .i64 0]) ∧
    isD Tryz.prog (.st (.grow 0 fun _ => zeros 256)) a w' ∧ (∀ k, ownD Tryz.prog a w' k → w.heap.size ≤ k) ∧ Below w.heap.size w w' := by
  have hr : HRel (envL [] (rhoV (ofL []) fun _ => c)) (memL []) w := hrel_mk rfl (fun i b B hi => by simp at hi) (fun i j b c B C hi => by simp at hi)
  obtain ⟨x, hx, ht, hcm⟩ := ways_calls (rules_ok (base_ok _ _)) (fun pc _ => sumG_rho _ _ pc) (new_ev _) hr rfl (envL_fresh _ _) (vs := [c, .agg treeZ.toArray]) ⟨⟨rfl, hc⟩, treeZX_rel, trivial⟩
  simp only [newL, List.mem_cons, List.not_mem_nil, or_false] at hx
  subst hx
  refine Calls.mono (hcm _ rfl) fun en w' ⟨v, E', h', nx', he, hg, hv, hview⟩ => ?_
  replace hg : Goes (envL [] (rhoV (ofL []) fun _ => c)) (memL []) 0 w E' h' nx' w' := hg
  have v1 := (List.cons.inj (List.cons.inj hview).2).1.symm
  have v5 := (List.cons.inj (List.cons.inj (List.cons.inj (List.cons.inj (List.cons.inj (List.cons.inj hview).2).2).2).2).2).1.symm
  obtain ⟨B1, hB1⟩ := live_of v1
  obtain ⟨B5, hB5⟩ := live_of v5
  obtain ⟨p1, o1, hp1, ho1, _⟩ := hg.rel.at_ 1 B1 hB1
  obtain ⟨p5, o5, hp5, ho5, _⟩ := hg.rel.at_ 5 B5 hB5
  have hρ : E'.ρ = _ := hg.ext.ρ
  have hd1 := cells_dl hg.rel v1 hp1
  have hrow := row_of_view hg.rel v1 (growL_one rfl rfl) hp1
  rw [growL_den (c := c) (h := 0) (l := 1) (by rw [hρ]; rfl) hp5 rfl rfl] at hrow
  have hm := (MapI.of_empty elBlk Tryz.prog 3 (empty_of_view hg.rel v5 hp5)).mono (Nat.zero_le 4096)
  have hG : IsGrow Tryz.prog w' p1.blk p5.blk 0 (fun _ => zeros 256) := ⟨⟨c, 1, .inr rfl, hc, hrow⟩, _, hm, Leaves.none_⟩
  refine ⟨p1.blk, ?_, ⟨p5.blk, hG⟩, fun k hk => ?_, ⟨hg.frame.os, hg.frame.tape, hg.frame.output, hg.frame.size, fun k hk => hg.frame.block k hk fun ho => ?_⟩⟩
  · rw [he]
    refine congrArg Ending.returned (tup2 hv (fun x hx => ?_) int_v)
    obtain ⟨p, hp, rfl⟩ := hx
    rw [hp1] at hp
    obtain rfl := Option.some.inj hp
    rw [hd1]
  · rcases (ownD_grow hG k).1 hk with rfl | rfl
    · exact newB (l := []) (bs := []) hg rfl (fun j hj => by cases hj) (i := 1) (Nat.zero_le _) hB1 hp1
    · exact newB (l := []) (bs := []) hg rfl (fun j hj => by cases hj) (i := 5) (Nat.zero_le _) hB5 hp5
  · rcases ho with ⟨j, C, q, hC, _⟩ | ⟨j, e, q, hC, _⟩
    · have := memL_get hC; simp at this
    · have := memL_get hC; simp at this
end Go.Proofs.YtcnimekhpnejlaaGreat.Ev

/- Inodes, opened for the evaluator and closed again: how they lie apart. -/
namespace Go.Proofs.YtcnimekhpnejlaaGreat
open Go Go.RowKit
set_option linter.unusedVariables false
set_option linter.unusedSimpArgs false
set_option maxRecDepth 10000

/-- What kind of block lies there. -/
def tagOf (w : World) (b : Nat) : Nat :=
  match w.heap[b]? with
  | some (.cells _ t _) => t + 1
  | _ => 0
theorem Row.tag {w : World} {b : Nat} {t : TypeId} {vs : List Value} (h : Row w b t vs) : tagOf w b = t + 1 := by
  obtain ⟨cs, h1, _⟩ := h
  unfold tagOf
  rw [h1]
theorem MapI.tag {α : Type} {E : Elem α} {P : Program} {k : TypeId} {w : World} {b N : Nat} {f : Int → Option α} (h : MapI E P k w b N f) : tagOf w b = 0 := by
  obtain ⟨es, clock, h1⟩ := h.is_map
  unfold tagOf
  rw [h1]
theorem ne_tag {w : World} {a b m n : Nat} (ha : tagOf w a = m) (hb : tagOf w b = n) (h : m ≠ n) : a ≠ b := fun e => h (by rw [← ha, ← hb, e])

section
variable {P : Program} {w w' : World} {x m : Nat} {S : Int → Nd} {L : Int → Option (Nat × Nat × Nat)}
theorem Inos.tag_x (h : Inos P w x S m L) : tagOf w x = 107 + 1 := by
  obtain ⟨c, _, hr⟩ := h.cell
  exact hr.tag
theorem IsGrow.tags {gb sm n : Nat} {lf : Nat → List UInt8} (h : IsGrow P w gb sm n lf) : tagOf w gb = 159 + 1 ∧ tagOf w sm = 0 := by
  obtain ⟨⟨c, lim, _, _, hr⟩, f, hm, _⟩ := h
  exact ⟨hr.tag, hm.tag⟩
theorem Inos.tag_m (h : Inos P w x S m L) : tagOf w m = 0 := h.map.tag
theorem Inos.tag_t (h : Inos P w x S m L) {n : Int} {t : Nat × Nat × Nat} (ht : L n = some t) : tagOf w t.1 = 100 + 1 ∧ tagOf w t.2.1 = 159 + 1 ∧ tagOf w t.2.2 = 0 :=
  ⟨(h.work n t ht).cell.tag, (h.work n t ht).grow.tags⟩

def updS (S : Int → Nd) (n : Int) (N : Nd) : Int → Nd := fun k => if k = n then N else S k
/-- Inodes of which one has changed. -/
theorem Inos.close (h : Inos P w x S m L) {n : Int} {t' : Nat × Nat × Nat} {N' : Nd} (hN : N'.Ok) (hn : 1 ≤ n ∧ n ≤ 4096) {c : Value} (hc : c.oneCell' = true) (hcell : Row w' x 107 (inoCells c m))
    (hmap : MapI elPtr P 3 w' m 4096 (fun k => (upd L n t' k).map (·.1))) (hwork : IsWork P w' n N' t')
    (hkeep : ∀ k t, k ≠ n → L k = some t → w'.heap[t.1]? = w.heap[t.1]? ∧ w'.heap[t.2.1]? = w.heap[t.2.1]? ∧ w'.heap[t.2.2]? = w.heap[t.2.2]?)
    (hnew : ∀ k t, k ≠ n → L k = some t → t'.1 ≠ t.1 ∧ t'.2.1 ≠ t.2.1 ∧ t'.2.2 ≠ t.2.2) (hm : t'.2.2 ≠ m) : Inos P w' x (updS S n N') m (upd L n t') where
  cell := ⟨c, hc, hcell⟩
  map := hmap
  work := fun k t ht => by
    by_cases e : k = n
    · subst e
      rw [upd_at] at ht
      obtain rfl := Option.some.inj ht
      unfold updS
      rw [if_pos rfl]
      exact hwork
    · rw [upd_ne L t' e] at ht
      unfold updS
      rw [if_neg e]
      obtain ⟨h0, h1, h2⟩ := hkeep k t e ht
      exact (h.work k t ht).kept h0 h1 h2
  off := fun k ht => by
    by_cases e : k = n
    · subst e
      rw [upd_at] at ht
      cases ht
    · rw [upd_ne L t' e] at ht
      unfold updS
      rw [if_neg e]
      exact h.off k ht
  inj := fun a b ta tb ha hb hab => by
    by_cases ea : a = n
    · subst ea
      rw [upd_at] at ha
      obtain rfl := Option.some.inj ha
      rw [upd_ne L _ (Ne.symm hab)] at hb
      exact hnew b tb (Ne.symm hab) hb
    · rw [upd_ne L t' ea] at ha
      by_cases eb : b = n
      · subst eb
        rw [upd_at] at hb
        obtain rfl := Option.some.inj hb
        obtain ⟨h0, h1, h2⟩ := hnew a ta hab ha
        exact ⟨h0.symm, h1.symm, h2.symm⟩
      · rw [upd_ne L t' eb] at hb
        exact h.inj a b ta tb ha hb hab
  map_ne := fun k t ht => by
    by_cases e : k = n
    · subst e
      rw [upd_at] at ht
      obtain rfl := Option.some.inj ht
      exact hm
    · rw [upd_ne L t' e] at ht
      exact h.map_ne k t ht
  ok := fun k => by
    unfold updS
    split
    · exact hN
    · exact h.ok k
  num := fun k t ht => by
    by_cases e : k = n
    · exact e ▸ hn
    · rw [upd_ne L t' e] at ht
      exact h.num k t ht
theorem own_upd {n : Int} {t' : Nat × Nat × Nat} {k sz : Nat} (ht : ∀ j, j = t'.1 ∨ j = t'.2.1 ∨ j = t'.2.2 → ownBlk x m L j ∨ sz ≤ j) (h : ownBlk x m (upd L n t') k) : ownBlk x m L k ∨ sz ≤ k := by
  rcases h with rfl | rfl | ⟨a, t, ha, hk⟩
  · exact .inl (.inl rfl)
  · exact .inl (.inr (.inl rfl))
  · by_cases e : a = n
    · subst e
      rw [upd_at] at ha
      obtain rfl := Option.some.inj ha
      exact ht k hk
    · rw [upd_ne L t' e] at ha
      exact .inl (.inr (.inr ⟨a, t, ha, hk⟩))
end
end Go.Proofs.YtcnimekhpnejlaaGreat

/- inodes.cut. -/
namespace Go.Proofs.YtcnimekhpnejlaaGreat.Ev
open Go Go.RowKit Go.Maps Go.Shelf
set_option linter.unusedVariables false
set_option linter.unusedSimpArgs false

theorem results_c {P : Program} {fn : Func} {p : Tmp} {ty : TypeId} (h : fn.results = #[.cell p ty]) (tmps : Array Value) (w : World) (g : Nat) (t : TypeId) (cs : Array Value) (fr : Nat × Nat) (d : TypeDesc)
    (hp : tmps.getD p undef = .pointer (some ⟨g, 0, none⟩)) (hg : w.heap[g]? = some (.cells cs t fr))
    (hu : P.underlying ty = some d) (hd : (match d with | .struct _ | .array _ _ => true | _ => false) = true) (hi : (P.info? ty).map (·.size) = some cs.size) :
    (results fn tmps).run P w = .ok (.agg cs) w := by
  have hp' : tmps[p]?.getD undef = .pointer (some ⟨g, 0, none⟩) := by simpa using hp
  simp [results, h, hp', asAddr, run_loadVar_row w g t ty cs fr d hg hu hd hi]
/-- Bytes from lo on are zero, up to k. -/
def wipe (a : List UInt8) (lo k : Nat) : List UInt8 := a.take lo ++ zeros (k - lo) ++ a.drop k
theorem wipe_self (a : List UInt8) (lo : Nat) : wipe a lo lo = a := by simp [wipe, zeros]
theorem wipe_length {a : List UInt8} {lo k : Nat} (h : lo ≤ k) (hk : k ≤ a.length) : (wipe a lo k).length = a.length := by
  simp [wipe, zeros]
  omega
theorem wipe_get {a : List UInt8} {lo k : Nat} (h : lo ≤ k) (hk : k ≤ a.length) (j : Nat) : (wipe a lo k)[j]? = if lo ≤ j ∧ j < k then some 0 else a[j]? := by
  unfold wipe
  by_cases h1 : j < lo
  · rw [List.append_assoc, List.getElem?_append_left (by simp; omega), List.getElem?_take_of_lt h1, if_neg (by omega)]
  · by_cases h2 : j < k
    · rw [List.append_assoc, List.getElem?_append_right (by simp; omega), List.getElem?_append_left (by simp [zeros]; omega), if_pos ⟨by omega, h2⟩, zeros_get, if_pos (by simp; omega)]
    · rw [List.getElem?_append_right (by simp [zeros]; omega), List.getElem?_drop, if_neg (by omega)]
      congr 1
      simp [zeros]
      omega
theorem wipe_next {a : List UInt8} {lo k : Nat} (h : lo ≤ k) (hk : k < a.length) : cellsB (wipe a lo (k + 1)) = (cellsB (wipe a lo k)).setIfInBounds k (.int .u8 0) := by
  apply Array.ext_getElem?
  intro j
  rw [Array.getElem?_setIfInBounds]
  unfold cellsB
  simp only [List.getElem?_toArray, List.getElem?_map, List.size_toArray, List.length_map]
  rw [wipe_get (by omega) (by omega), wipe_get h (by omega)]
  by_cases e : k = j
  · subst e
    rw [if_pos ⟨h, by omega⟩, if_pos rfl, if_pos (by rw [wipe_length h (by omega)]; exact hk)]
    rfl
  · rw [if_neg e]
    by_cases h2 : lo ≤ j ∧ j < k
    · rw [if_pos h2, if_pos (by omega)]
    · rw [if_neg h2, if_neg (by omega)]
theorem wipe_cut {a : List UInt8} (ha : a.length = 256) {p s : Nat} (h : s - 256 * p ≤ 256) : wipe a (s - 256 * p) 256 = cutB a p s := by
  unfold wipe cutB
  rw [List.drop_of_length_le (by omega), List.append_nil]

set_option maxRecDepth 100000 in
set_option maxHeartbeats 4000000 in
theorem cut_any (a : List UInt8) (ha : a.length = 256) (p s : Nat) (hp : p ≤ 4096) (hs : s ≤ 1048576) (w : World) :
    Calls Tryz.prog 61 #[elBlk.val a, .int .i64 p, .int .i64 s] w fun e w' => e = .returned (elBlk.val (cutB a p s)) ∧ Below w.heap.size w w' := by
  have hz : ∀ w, (zeroValue 116).run Tryz.prog w = .ok (.agg (cellsB (zeros 256))) w := fun w => zero_blk w
  have hZs : (cellsB (zeros 256)).size = 256 := cellsB_size _
  have hs0 : s - 256 * p ≤ 256 ∨ 256 < s - 256 * p := by omega
  have hd1 := cellsB_one a
  show Calls _ _ #[.agg (cellsB a), _, _] _ _
  generalize cellsB (zeros 256) = Z at *
  go_enter Tryz.func61, Tryz.ntmps61
  go_wp2
  all_goals
    have hb0 : Below w.heap.size w ((w.alloc (Obj.cells (cellsB a) 116)).alloc (Obj.cells Z 116)) := ((Below.refl _ _).alloc (Nat.le_refl _) _).alloc (by simp) _
    have hg0 : ((w.alloc (Obj.cells (cellsB a) 116)).alloc (Obj.cells Z 116)).heap[w.heap.size]? = some (.cells (cellsB a) 116 (0, 0)) := (Below.heap_alloc _ _ _ (by simp)).trans (alloc_new w _)
    have hg1 : ((w.alloc (Obj.cells (cellsB a) 116)).alloc (Obj.cells Z 116)).heap[w.heap.size + 1]? = some (.cells Z 116 (0, 0)) := by
      have := alloc_new (w.alloc (Obj.cells (cellsB a) 116)) (Obj.cells Z 116)
      simpa using this
    generalize (w.alloc (Obj.cells (cellsB a) 116)).alloc (Obj.cells Z 116) = W0 at *
    go_loopw [7] (fun i wr => ∃ k : Nat, i = .int .i64 k ∧ s - 256 * p ≤ k ∧ (k ≤ 256 ∨ k = s - 256 * p) ∧ wr.heap[w.heap.size]? = some (.cells (cellsB (if k ≤ 256 then wipe a (s - 256 * p) k else a)) 116 (0, 0)) ∧ wr.heap[w.heap.size + 1]? = some (.cells Z 116 (0, 0)) ∧ Below w.heap.size w wr)
      (fun i _ => 256 - (intOf i).toNat)
    case atStart => exact ⟨s - 256 * p, by congr 1; omega, Nat.le_refl _, .inr rfl, by rw [wipe_self, ite_self]; exact hg0, hg1, hb0⟩
    case round =>
      obtain ⟨k, rfl, hk1, hk2, hgk, hgz, hbk⟩ := hrel
      have hlen : (cellsB (if k ≤ 256 then wipe a (s - 256 * p) k else a)).size = 256 := by
        rw [cellsB_size]
        split
        · rw [wipe_length hk1 (by omega)]; exact ha
        · exact ha
      have hone := cellsB_one (if k ≤ 256 then wipe a (s - 256 * p) k else a)
      by_cases hk : k < 256
      · have hd : decide ((k : Int) < 256) = true := decide_eq_true (by omega)
        rw [if_pos (by omega)] at hgk hlen hone
        have hcl : wr.cell? ⟨w.heap.size, k, none⟩ = some ((cellsB (wipe a (s - 256 * p) k))[k]'(by omega)) := cell_of hgk (Array.getElem?_eq_getElem (by omega))
        have hfr : wr.frozen? ⟨w.heap.size, k, none⟩ = false := by simp [World.frozen?, hgk]
        go_wp2
        case roundEnd =>
          refine ⟨⟨k + 1, by push_cast; rfl, by omega, .inl (by omega), ?_, ?_, ?_⟩, by simp [intOf]; omega⟩
          · rw [if_pos (by omega), wipe_next hk1 (by omega)]
            simp [World.setCell, hgk, Array.getElem?_modify]
          · rw [Below.heap_setCell _ _ _ _ (by simp)]
            exact hgz
          · exact hbk.setCell (by simp) _
      · have hd : decide ((k : Int) < 256) = false := decide_eq_false (by omega)
        have hst := store_blk (w.heap.size + 1) Z (cellsB (if k ≤ 256 then wipe a (s - 256 * p) k else a)) wr hgz (by omega) hone
        have hg5 : (wr.setRow (w.heap.size + 1) (cellsB (if k ≤ 256 then wipe a (s - 256 * p) k else a))).heap[w.heap.size + 1]? = some (.cells _ 116 (0, 0)) := setRow_heap _ _ Z _ 116 (0, 0) hgz
        have hb5 : Below w.heap.size w (wr.setRow (w.heap.size + 1) (cellsB (if k ≤ 256 then wipe a (s - 256 * p) k else a))) := below_setRow hbk (by omega) _
        have hfin : (if k ≤ 256 then wipe a (s - 256 * p) k else a) = cutB a p s := by
          split
          · obtain rfl : k = 256 := by omega
            exact wipe_cut ha hk1
          · unfold cutB
            rw [List.take_of_length_le (by omega), show 256 - (s - 256 * p) = 0 by omega]
            simp [zeros]
        rw [hfin] at hgk hlen hone hst hg5 hb5
        have hD : elBlk.val (cutB a p s) = .agg (cellsB (cutB a p s)) := rfl
        generalize cellsB (cutB a p s) = D at *
        obtain ⟨Vr, hVr⟩ : ∃ Vr, elBlk.val (cutB a p s) = Vr := ⟨_, rfl⟩
        rw [hVr] at hD
        go_wp2
        refine wp_load_row 116 _ rfl w.heap.size rfl 116 D (0, 0) _ hgk Tryz.underlying116 rfl (by rw [hlen]; exact iblk) ?_
        go_wp2
        refine bodyPost_ret (results_c rfl _ _ (w.heap.size + 1) 116 D (0, 0) _ rfl hg5 Tryz.underlying116 rfl (by rw [hlen]; exact iblk)) rfl ?_
        exact ⟨by rw [hVr, hD], hb5⟩
end Go.Proofs.YtcnimekhpnejlaaGreat.Ev

/- The rules of handles of grown trees hold. -/
namespace Go.Proofs.YtcnimekhpnejlaaGreat.Ev
open Go Go.RowKit
set_option linter.unusedVariables false
set_option linter.unusedSimpArgs false
set_option maxRecDepth 10000

theorem told36 {v : Nat → D} {o : Nat → Value} {pc : List (X × Bool)} (hpc : Told (rhoV v o) pc) {e : X} (h : truL pc (.app 36 e) = some true) : ∃ n lf, e.val (rhoV v o) = .st (.grow n lf) := by
  have h1 : (FN 36 (e.val (rhoV v o))).bool = true := truL_ok hpc h
  unfold FN at h1
  split at h1 <;> first
    | (rename_i h2 h3; exact ⟨_, _, h3⟩)
    | (rename_i h2; cases h2; done)
    | (rename_i h2 h3; cases h2; done)
    | cases h1
    | exact ⟨_, _, ‹_›⟩
theorem acts_aok {v : Nat → D} {o : Nat → Value} {g a : Nat} {args : List Value} {w : World} {Q : Value → D → Prop} {E : Env} {r : EV} {e' : X} (h : Acts Tryz.prog g a args w Q) (hQ : ∀ u d, Q u d → r.rel E u ∧ d = e'.val (rhoV v o)) :
    Calls Tryz.prog g (.pointer (some ⟨a, 0, none⟩) :: args).toArray w fun en w' => ∃ u, en = .returned u ∧ r.rel E u ∧ (rhoV v o).A.is (e'.val (rhoV v o)) a w' ∧ (∀ k, (rhoV v o).A.own a w' k → (rhoV v o).A.own a w k ∨ w.heap.size ≤ k) ∧
      w'.os = w.os ∧ w'.tape = w.tape ∧ w'.output = w.output ∧ w.heap.size ≤ w'.heap.size ∧ ∀ k, k < w.heap.size → ¬ (rhoV v o).A.own a w k → w'.heap[k]? = w.heap[k]? :=
  Calls.mono h fun en w' ⟨u, d, h1, h2, h3, h4, h5⟩ => by
    obtain ⟨hr, rfl⟩ := hQ u d h2
    exact ⟨u, h1, hr, h3, h4, h5.os, h5.tape, h5.output, h5.size, h5.block⟩
theorem tup2_mk {E : Env} {a b : AV} {va vb : Value} (ha : a.rel E va) (hb : b.rel E vb) : (EV.tup [a, b]).rel E (.tuple #[va, vb]) := ⟨[va, vb], rfl, ha, hb, trivial⟩

theorem rGrow_ok {v : Nat → D} {o : Nat → Value} {pc : List (X × Bool)} (hpc : Told (rhoV v o) pc) : ∀ g e args r, rGrow pc g e args = some r → AOk Tryz.prog (rhoV v o) g e args r.1 r.2 := by
  intro g e args r h E hρ a w vs his hargs
  unfold rGrow at h
  split at h
  · rename_i h36
    obtain ⟨n, lf, he⟩ := told36 hpc h36
    have his2 : isD Tryz.prog (e.val (rhoV v o)) a w := his
    rw [he] at his2
    obtain ⟨sm, hG⟩ := his2
    split at h
    · rename_i hg
      subst hg
      split at h
      · rename_i y
        obtain ⟨⟨k, q⟩, hq, h⟩ := Option.bind_eq_some_iff.1 h
        split at h
        · rename_i hk
          obtain ⟨hk, hin⟩ := hk
          have hk : k = .i64 := hk
          subst hk
          obtain ⟨b, hb, rfl⟩ := Option.map_eq_some_iff.1 h
          match vs, hargs with
          | [u], hargs =>
            have hu : u = .int .i64 (q.int (rhoV v o)) := by rw [← hρ]; exact asI_rel hq hargs.1
            subst hu
            have h30 : (FN 30 (.p (e.val (rhoV v o)) (q.val (rhoV v o)))).bool = b := truL_ok hpc hb
            rw [he] at h30
            have h30 : decide (0 ≤ q.int (rhoV v o) ∧ q.int (rhoV v o) < (4 ^ heightN n : Nat)) = b := h30
            refine acts_aok (grow_leaf hG (inI64_ok (base_ok v o) hpc hin)) fun u d ⟨hd, hu⟩ => ?_
            subst hd
            cases b with
            | true =>
              have h30 := of_decide_eq_true h30
              rcases hu with ⟨h1, h2, rfl⟩ | ⟨h1, _⟩
              · refine ⟨tup2_mk ?_ rfl, he.symm⟩
                have h5 := blkX_rel (E := E) (.app 31 (.cons e q))
                have h6 : X.str E.ρ (.app 31 (.cons e q)) = ⟨(lf (q.int (rhoV v o)).toNat).toArray⟩ := by
                  rw [hρ]
                  show (FN 31 (.p (e.val (rhoV v o)) (q.val (rhoV v o)))).str = _
                  rw [he]
                  rfl
                rw [h6, pad_of] at h5
                · exact h5
                · obtain ⟨_, f, _, hf⟩ := hG
                  exact hf.len _
              · exact absurd h30 h1
            | false =>
              have h30 := of_decide_eq_false h30
              rcases hu with ⟨h1, h2, rfl⟩ | ⟨h1, rfl⟩
              · exact absurd ⟨h1, h2⟩ h30
              · exact ⟨tup2_mk blk0_rel rfl, he.symm⟩
        · cases h
      · cases h
    · split at h
      · rename_i hg
        subst hg
        split at h
        · rename_i y l
          obtain ⟨⟨k, q⟩, hq, h⟩ := Option.bind_eq_some_iff.1 h
          split at h
          · rename_i hk
            obtain ⟨hk, hin⟩ := hk
            have hk : k = .i64 := hk
            subst hk
            obtain ⟨b, hb, rfl⟩ := Option.map_eq_some_iff.1 h
            match vs, hargs with
            | [u, u2], hargs =>
              have hu : u = .int .i64 (q.int (rhoV v o)) := by rw [← hρ]; exact asI_rel hq hargs.1
              have hu2 := asBlk_inv hb hargs.2.1
              subst hu
              subst hu2
              have h32 : (FN 32 (.p (e.val (rhoV v o)) (q.val (rhoV v o)))).bool = true := truL_ok hpc hin
              rw [he] at h32
              have h32 : decide (0 ≤ q.int (rhoV v o) ∧ q.int (rhoV v o) < n) = true := h32
              have h32 := of_decide_eq_true h32
              have hG2 := grow_set hG (p := (q.int (rhoV v o)).toNat) (by omega) (pad_length (b.str E.ρ))
              rw [Int.toNat_of_nonneg h32.1] at hG2
              refine acts_aok hG2 fun u d ⟨hd, hu⟩ => ?_
              subst hd
              subst hu
              refine ⟨rfl, ?_⟩
              show _ = FN 33 (.p (e.val (rhoV v o)) (.p (q.val (rhoV v o)) (b.val (rhoV v o))))
              rw [he, hρ]
              rfl
          · cases h
        · cases h
      · split at h
        · rename_i hg
          subst hg
          split at h
          · rename_i y
            obtain ⟨⟨k, q⟩, hq, h⟩ := Option.bind_eq_some_iff.1 h
            split at h
            · rename_i hk
              obtain ⟨hk, c1, c2⟩ := hk
              have hk : k = .i64 := hk
              subst hk
              obtain rfl := Option.some.inj h
              match vs, hargs with
              | [u], hargs =>
                have hu : u = .int .i64 (q.int (rhoV v o)) := by rw [← hρ]; exact asI_rel hq hargs.1
                subst hu
                have c1 : decide (q.int (rhoV v o) < 0) = false := truL_ok hpc c1
                have c2 : decide (4096 < q.int (rhoV v o)) = false := truL_ok hpc c2
                have c1 := of_decide_eq_false c1
                have c2 := of_decide_eq_false c2
                have hG2 := grow_fit hG (m := (q.int (rhoV v o)).toNat) (by omega)
                rw [Int.toNat_of_nonneg (by omega)] at hG2
                refine acts_aok hG2 fun u d ⟨hd, hu⟩ => ?_
                subst hd
                subst hu
                refine ⟨rfl, ?_⟩
                show _ = FN 34 (.p (e.val (rhoV v o)) (q.val (rhoV v o)))
                rw [he]
                rfl
            · cases h
          · cases h
        · cases h
  · cases h
end Go.Proofs.YtcnimekhpnejlaaGreat.Ev

/- Calls told beforehand of grown trees behind handles hold. -/
namespace Go.Proofs.YtcnimekhpnejlaaGreat.Ev
open Go Go.RowKit
set_option linter.unusedVariables false
set_option linter.unusedSimpArgs false
set_option maxRecDepth 10000

theorem owned_lt {E : Env} {h : T Blk} {w : World} (hr : HRel E h w) {k : Nat} (ho : Owned E h w k) : k < w.heap.size := by
  rcases ho with ⟨j, c, q, hj, hq, rfl⟩ | ⟨j, e, q, hj, hq, ho⟩
  · obtain ⟨o, ho, _⟩ := hr.blk hj hq
    exact lt_of_heap ho
  · exact E.ρ.A.lt _ _ _ (hr.abs.ab j e q hj hq) k ho

theorem sumNew_ok {v : Nat → D} {o : Nat → Value} {pc : List (X × Bool)} {R : Rules} : CallOk (ctx R (rhoV v o) pc) sumNew := by
  intro g args h nx r he E w vs hr hρ hf hargs
  replace hρ : E.ρ = rhoV v o := hρ
  unfold sumNew at he
  split at he
  · rename_i hg
    subst hg
    split at he
    · rename_i l
      split at he
      · rename_i hl
        subst hl
        obtain rfl := Option.some.inj he
        match vs, hargs with
        | [c, t], hargs =>
          obtain ⟨⟨hc1, hc2⟩, ht, _⟩ := hargs
          have ht2 : t = .agg treeZ.toArray := by
            obtain ⟨ws, rfl, hws⟩ := ht
            rw [dens_of hws (by decide +kernel), treeZX_den]
          subst ht2
          refine (grow_new c hc2 w).mono fun en w' ⟨a, h1, h2, h3, h4⟩ => ?_
          have hg := Goes.below (nx := nx) hr h4
          have hdis : ∀ k, E.ρ.A.own a w' k → ¬ Owned E h w' k := fun k hk ho => by
            rw [hρ] at hk
            have hk := h3 k hk
            rcases hg.owned ho with ho | hge
            · have := owned_lt hr ho
              omega
            · rcases ho with ⟨j, cc, q, hj, hq, rfl⟩ | ⟨j, e, q, hj, hq, ho⟩
              · obtain ⟨o2, ho2, _⟩ := hr.blk hj hq
                have := lt_of_heap ho2
                omega
              · have h5 := E.ρ.A.keep _ _ w w' (hr.abs.ab j e q hj hq) (fun k hk => h4.block k (E.ρ.A.lt _ _ _ (hr.abs.ab j e q hj hq) k hk)) h4.size
                have := E.ρ.A.lt _ _ _ (hr.abs.ab j e q hj hq) k ((h5.2 k).1 ho)
                omega
          have hg2 := Goes.adopt hg (hf nx (Nat.le_refl _)) (a := a) (e := .app 35 .nil) (by rw [hρ]; exact h2) (fun k hk => by rw [hρ] at hk; exact h3 k hk) hdis
          exact ⟨_, _, h1, hg2, tup2_mk ⟨⟨a, 0, 0⟩, Env.put_at _ _ _, rfl⟩ rfl⟩
      · cases he
    · cases he
  · cases he

theorem sumGClo_ok {v : Nat → D} {o : Nat → Value} {pc : List (X × Bool)} (hpc : Told (rhoV v o) pc) {R : Rules} : CallOk (ctx R (rhoV v o) pc) (sumGClo pc) := by
  intro g args h nx r he E w vs hr hρ hf hargs
  replace hρ : E.ρ = rhoV v o := hρ
  unfold sumGClo at he
  split at he
  · rename_i hg
    subst hg
    split at he
    · rename_i i
      split at he
      · rename_i e hi
        split at he
        · rename_i h36
          obtain ⟨n, lf, hev⟩ := told36 hpc h36
          obtain rfl := Option.some.inj he
          match vs, hargs with
          | [u], hargs =>
            obtain ⟨⟨p, hp, rfl⟩, _⟩ := hargs
            have his := hr.abs.ab i e p hi hp
            have his2 : isD Tryz.prog (e.val E.ρ) p.blk w := by rw [hρ] at his ⊢; exact his
            rw [hρ, hev] at his2
            obtain ⟨sm, hG⟩ := his2
            have hd : p.dl = 0 := by
              obtain ⟨o2, _, h2⟩ := hr.blk hi hp
              exact h2
            rw [hd]
            refine (grow_clone hG).mono fun en w' ⟨a, h1, h2, h3, h4, h5, h6⟩ => ?_
            have hA : ∀ b W k, E.ρ.A.own b W k ↔ ownD Tryz.prog b W k := fun b W k => by rw [hρ]; rfl
            have hg := Goes.acall (nx := nx) hr hi hp (e' := e) (w' := w') (by rw [hρ, hev]; exact h2) (fun k hk => .inl ((hA _ _ _).2 ((h3 k).1 ((hA _ _ _).1 hk)))) h6.os h6.tape h6.output h6.size (fun k hk hn => h6.block k hk fun ho => hn ((hA _ _ _).2 ho))
            have hdis : ∀ k, E.ρ.A.own a w' k → ¬ Owned E (h.set i (.abs e)) w' k := fun k hk ho => by
              have hk := h5 k ((hA _ _ _).1 hk)
              rcases ho with ⟨j, cc, q, hj, hq, rfl⟩ | ⟨j, e2, q, hj, hq, ho⟩
              · have hl : ∃ c', h.get j = some c' := by
                  rw [T.get_set] at hj
                  split at hj
                  · rename_i e3; subst e3; exact ⟨_, hi⟩
                  · exact ⟨_, hj⟩
                obtain ⟨c', hc'⟩ := hl
                obtain ⟨o2, ho2, _⟩ := hr.blk hc' hq
                have := lt_of_heap ho2
                omega
              · rw [T.get_set] at hj
                split at hj
                · rename_i e3
                  subst e3
                  rw [hp] at hq
                  obtain rfl := Option.some.inj hq
                  have h7 := (h3 k).1 ((hA _ _ _).1 ho)
                  have := E.ρ.A.lt _ _ _ his k ((hA _ _ _).2 h7)
                  omega
                · rename_i hne
                  have hB := hr.abs.ab j e2 q hj hq
                  have h7 := E.ρ.A.keep _ _ w w' hB (fun k hk => h6.block k (E.ρ.A.lt _ _ _ hB k hk) fun ho => hr.abs.apart j e2 q i e p hj hq hi hp (fun e3 => hne e3.symm) k hk ((hA _ _ _).2 ho)) h6.size
                  have := E.ρ.A.lt _ _ _ hB k ((h7.2 k).1 ho)
                  omega
            have hg2 := Goes.adopt hg (hf nx (Nat.le_refl _)) (a := a) (e := e) (by rw [hρ, hev]; exact h4) (fun k hk => h5 k ((hA _ _ _).1 hk)) hdis
            refine ⟨_, E.put nx ⟨a, 0, 0⟩, h1, ?_, ⟨⟨a, 0, 0⟩, Env.put_at _ _ _, rfl⟩⟩
            refine hg2.sub fun j b hb => ?_
            rw [T.get_set] at hb ⊢
            split at hb
            · rw [if_pos ‹_›]; exact hb
            · rw [if_neg ‹_›, T.get_set]
              by_cases e3 : j = i
              · subst e3
                rw [if_pos rfl]
                rw [hi] at hb
                exact hb
              · rw [if_neg e3]
                exact hb
        · cases he
      · cases he
    · cases he
  · cases he

theorem rCut_ok {v : Nat → D} {o : Nat → Value} {pc : List (X × Bool)} (hpc : Told (rhoV v o) pc) : ∀ g args r, rCut pc g args = some r → POk Tryz.prog (rhoV v o) g args r := by
  intro g args r h E hρ w vs hargs
  unfold rCut at h
  split at h
  · rename_i hg
    subst hg
    split at h
    · rename_i l y z
      obtain ⟨b, hb, h⟩ := Option.bind_eq_some_iff.1 h
      obtain ⟨⟨k, p⟩, hp, h⟩ := Option.bind_eq_some_iff.1 h
      obtain ⟨⟨k2, s⟩, hs, h⟩ := Option.bind_eq_some_iff.1 h
      split at h
      · rename_i hc
        obtain ⟨e1, e2, c1, c2, c3, c4⟩ := hc
        have e1 : k = .i64 := e1
        have e2 : k2 = .i64 := e2
        subst e1
        subst e2
        obtain rfl := Option.some.inj h
        match vs, hargs with
        | [u, u2, u3], hargs =>
          have h1 := asBlk_inv hb hargs.1
          have h2 : u2 = .int .i64 (p.int (rhoV v o)) := by rw [← hρ]; exact asI_rel hp hargs.2.1
          have h3 : u3 = .int .i64 (s.int (rhoV v o)) := by rw [← hρ]; exact asI_rel hs hargs.2.2.1
          subst h1
          subst h2
          subst h3
          have c1 : decide (p.int (rhoV v o) < 0) = false := truL_ok hpc c1
          have c2 : decide (4096 < p.int (rhoV v o)) = false := truL_ok hpc c2
          have c3 : decide (s.int (rhoV v o) < 0) = false := truL_ok hpc c3
          have c4 : decide (1048576 < s.int (rhoV v o)) = false := truL_ok hpc c4
          have c1 := of_decide_eq_false c1
          have c2 := of_decide_eq_false c2
          have c3 := of_decide_eq_false c3
          have c4 := of_decide_eq_false c4
          have hcut := cut_any (pad (b.str E.ρ)) (pad_length _) (p.int (rhoV v o)).toNat (s.int (rhoV v o)).toNat (by omega) (by omega) w
          rw [Int.toNat_of_nonneg (by omega), Int.toNat_of_nonneg (by omega)] at hcut
          refine hcut.mono fun en w' ⟨he, hB⟩ => ⟨_, he, ?_, hB⟩
          have h5 := blkX_rel (E := E) (.app 40 (.cons b (.cons p s)))
          have h6 : X.str E.ρ (.app 40 (.cons b (.cons p s))) = ⟨(cutB (pad (b.str E.ρ)) (p.int (rhoV v o)).toNat (s.int (rhoV v o)).toNat).toArray⟩ := by
            rw [hρ]
            rfl
          rw [h6, pad_of (cutB_length (pad_length _) _ _)] at h5
          exact h5
      · cases h
    · cases h
  · cases h

theorem sumH_ok {v : Nat → D} {o : Nat → Value} {pc : List (X × Bool)} (hpc : Told (rhoV v o) pc) {R : Rules} : CallOk (ctx R (rhoV v o) pc) (sumH pc) :=
  sumOr_ok (sumA_ok (C := ctx R (rhoV v o) pc) (rGrow_ok hpc)) (sumOr_ok sumNew_ok (sumOr_ok (sumGClo_ok hpc) (sumP_ok (C := ctx R (rhoV v o) pc) (rCut_ok hpc))))
end Go.Proofs.YtcnimekhpnejlaaGreat.Ev

/- Inodes, opened for the evaluator. -/
namespace Go.Proofs.YtcnimekhpnejlaaGreat.Ev
open Go Go.RowKit
set_option linter.unusedVariables false
set_option linter.unusedSimpArgs false
set_option maxRecDepth 10000

def inoL (m : Nat) : List SV := [.op 0, .int .i64 0, .int .u32 0] ++ z32 ++ [.int .i64 0, .map m]
def workL (n k l s t : SV) (g : Nat) : List SV := [n, k, l, s, t, .ptr g 0]
def inoBlk : Blk := .cells 107 none (Cells.ofList (inoL 1)) false
/-- Inodes of which one is kept, and opened. -/
def inoBs : List Blk := [inoBlk, .opq (.va 0) [(.va 1, 2), (.li 0, 0)], .cells 100 none (Cells.ofList (workL (.xi .i64 (.va 1)) (.xi .i64 (.va 3)) (.xi .i64 (.va 4)) (.xi .i64 (.va 5)) (.xi .u64 (.va 6)) 3)) false, .abs (.va 2)]
def inoM : T Blk := memL inoBs
/-- Inodes of which one is not kept. -/
def inoAs : List Blk := [inoBlk, .opq (.va 0) [(.li 0, 0)]]
def inoA : T Blk := memL inoAs
theorem inoL_den {E : Env} {m : Nat} {p : Pl} {c : Value} (hc : E.ρ.o 0 = c) (hp : E.m m = some p) : (inoL m).map (SV.den E) = inoCells c p.blk := by
  have e1 : z32.map (SV.den E) = sumZ := by
    unfold z32 sumZ
    rw [List.map_replicate]
    rfl
  unfold inoL inoCells treeZ
  simp only [List.map_append, List.map_cons, List.map_nil, e1]
  simp only [SV.den, hp, hc]
  rfl
theorem inoL_one {m : Nat} : (inoL m).all SV.one = true := by
  have e1 : z32.all SV.one = true := by decide +kernel
  unfold inoL
  simp only [List.all_append, List.all_cons, List.all_nil, e1]
  rfl
theorem inoL_rel {E : Env} {m : Nat} {p : Pl} {c : Value} (hc : E.ρ.o 0 = c) (h1 : c.oneCell' = true) (hp : E.m m = some p) : Rels (SV.rel E) (inoL m) (inoCells c p.blk) := by
  rw [← inoL_den hc hp]
  refine rels_den fun x hx => ?_
  unfold inoL at hx
  simp only [List.mem_append, List.mem_cons, List.not_mem_nil, or_false] at hx
  rcases hx with ((rfl | rfl | rfl) | hx) | rfl | rfl
  · show (E.ρ.o 0).oneCell' = true
    rw [hc]
    exact h1
  · trivial
  · trivial
  · exact z32_fine hx
  · trivial
  · exact ⟨_, hp⟩

theorem links_ino {E : Env} {n : Int} {x b : Nat} (hn : X.int E.ρ (.va 1) = n) (h0 : n ≠ 0) (p2 : E.m 2 = some ⟨b, 0, 0⟩) (p0 : E.m 0 = some ⟨x, 0, 0⟩) : linksOf E [(.va 1, 2), (.li 0, 0)] 0 = some x ∧ linksOf E [(.va 1, 2), (.li 0, 0)] n = some b ∧ ∀ k, k ≠ n → k ≠ 0 → linksOf E [(.va 1, 2), (.li 0, 0)] k = none := by
  refine ⟨?_, linksOf_hit p2 hn, fun k h1 h2 => ?_⟩
  · rw [linksOf_skip (k := .va 1) (by rw [hn]; exact h0), linksOf_mark 0 p0]
  · rw [linksOf_skip (k := .va 1) (by rw [hn]; exact fun e => h1 e.symm), linksOf_skip (k := .li 0) (show (0 : Int) ≠ k from fun e => h2 e.symm), linksOf_nil]
/-- The letters of inodes of which one is opened: the map, the number, the tree, the kind, the links, the size, the stamp. -/
def inoV (f : Int → Option Nat) (n : Int) (N : Nd) (l : List D) : List D := .st (.works f) :: .i n :: .st (.grow (leavesN N.bytes.length) (leafOf N.bytes)) :: .i N.kind :: .i N.links :: .i (N.bytes.length : Nat) :: .i N.stamp :: l

theorem ino_open {w : World} {x m : Nat} {S : Int → Nd} {L : Int → Option (Nat × Nat × Nat)} (h : Inos Tryz.prog w x S m L) {n : Int} {t : Nat × Nat × Nat} (ht : L n = some t) : ∃ c : Value, c.oneCell' = true ∧
    ∀ l : List D, HRel (envL [x, m, t.1, t.2.1] (rhoV (ofL (inoV (fun k => (L k).map (·.1)) n (S n) l)) fun _ => c)) inoM w := by
  obtain ⟨c, hc, hrow⟩ := h.cell
  have hn := h.num n t ht
  have hw := h.work n t ht
  obtain ⟨tg1, tg2, tg3⟩ := h.tag_t ht
  have tx := h.tag_x
  have tm := h.tag_m
  refine ⟨c, hc, fun l => hrel_mk rfl (fun i b B hi hB => ?_) (fun i j b c' B C hi hj hB hC hij k h1 h2 => ?_)⟩
  · match i, hi, hB with
    | 0, hi, hB =>
      obtain rfl := Option.some.inj hi
      obtain rfl := Option.some.inj hB
      exact ⟨_, hrow, _, rfl, inoL_rel rfl hc (envL_at rfl)⟩
    | 1, hi, hB =>
      obtain rfl := Option.some.inj hi
      obtain rfl := Option.some.inj hB
      obtain ⟨es, clock, ho⟩ := h.map.is_map
      refine ⟨_, ho, fun q hq => ?_, ?_, fun w2 b2 ho2 => ⟨?_, fun i a hi0 ha => ?_⟩⟩
      · simp only [List.mem_cons, List.not_mem_nil, or_false] at hq
        rcases hq with rfl | rfl
        · exact ⟨_, envL_at (b := t.1) rfl, rfl⟩
        · exact ⟨_, envL_at (b := x) rfl, rfl⟩
      · rw [(links_ino (n := n) rfl (by omega) (envL_at (b := t.1) rfl) (envL_at (b := x) rfl)).1]
        rfl
      · have lk := links_ino (E := envL [x, m, t.1, t.2.1] (rhoV (ofL (inoV (fun k => (L k).map (·.1)) n (S n) l)) fun _ => c)) (n := n) rfl (by omega) (envL_at (b := t.1) rfl) (envL_at (b := x) rfl)
        have e : (fun k => if k = 0 then none else (linksOf (envL [x, m, t.1, t.2.1] (rhoV (ofL (inoV (fun k => (L k).map (·.1)) n (S n) l)) fun _ => c)) [(.va 1, 2), (.li 0, 0)] k).or ((L k).map (·.1))) = fun k => (L k).map (·.1) := by
          funext k
          split
          · rename_i e0
            cases hL : L k with
            | none => rfl
            | some t2 =>
              have := h.num k t2 hL
              omega
          · rename_i e0
            by_cases ek : k = n
            · rw [ek, lk.2.1, ht]
              rfl
            · rw [lk.2.2 k ek e0]
              rfl
        show MapI elPtr _ _ w2 b2 4096 (fun k => if k = 0 then none else _)
        rw [e]
        exact MapI.any h.map ho w2 b2 ho2
      · by_cases ek : i = n
        · rw [ek]; exact hn
        · rw [(links_ino (n := n) rfl (by omega) (envL_at (b := t.1) rfl) (envL_at (b := x) rfl)).2.2 i ek hi0] at ha
          have ha : (L i).map (·.1) = some a := ha
          cases hL : L i with
          | none => rw [hL] at ha; cases ha
          | some t2 => exact h.num i t2 hL
    | 2, hi, hB =>
      obtain rfl := Option.some.inj hi
      obtain rfl := Option.some.inj hB
      exact ⟨_, hw.cell, _, rfl, rfl, rfl, rfl, rfl, rfl, ⟨_, envL_at (b := t.2.1) rfl, rfl⟩, trivial⟩
    | 3, hi, hB =>
      obtain rfl := Option.some.inj hi
      obtain rfl := Option.some.inj hB
      exact ⟨_, hw.grow⟩
    | i + 4, hi, _ => simp at hi
  · have hg : ∀ k, ownD Tryz.prog t.2.1 w k → tagOf w k = 159 + 1 ∧ k = t.2.1 ∨ k = t.2.2 := fun k hk => by
      rcases (ownD_grow hw.grow k).1 hk with rfl | rfl
      · exact .inl ⟨tg2, rfl⟩
      · exact .inr rfl
    have role : ∀ i b B k, [x, m, t.1, t.2.1][i]? = some b → inoBs[i]? = some B → ownL (envL [x, m, t.1, t.2.1] (rhoV (ofL (inoV (fun k => (L k).map (·.1)) n (S n) l)) fun _ => c)) w b B k → (i = 0 ∧ k = x) ∨ (i = 1 ∧ k = m) ∨ (i = 2 ∧ k = t.1) ∨ (i = 3 ∧ (k = t.2.1 ∨ k = t.2.2)) := fun i b B k hi hB ho => by
      match i, hi, hB with
      | 0, hi, hB => obtain rfl := Option.some.inj hi; obtain rfl := Option.some.inj hB; exact .inl ⟨rfl, ho⟩
      | 1, hi, hB => obtain rfl := Option.some.inj hi; obtain rfl := Option.some.inj hB; exact .inr (.inl ⟨rfl, ho⟩)
      | 2, hi, hB => obtain rfl := Option.some.inj hi; obtain rfl := Option.some.inj hB; exact .inr (.inr (.inl ⟨rfl, ho⟩))
      | 3, hi, hB =>
        obtain rfl := Option.some.inj hi
        obtain rfl := Option.some.inj hB
        exact .inr (.inr (.inr ⟨rfl, (ownD_grow hw.grow k).1 ho⟩))
      | i + 4, hi, _ => simp at hi
    have r1 := role i b B k hi hB h1
    have r2 := role j c' C k hj hC h2
    have a1 := ne_tag tx tm (by decide)
    have a2 := ne_tag tx tg1 (by decide)
    have a3 := ne_tag tx tg2 (by decide)
    have a4 := ne_tag tx tg3 (by decide)
    have a5 := ne_tag tm tg1 (by decide)
    have a6 := ne_tag tm tg2 (by decide)
    have a7 := h.map_ne n t ht
    have a8 := ne_tag tg1 tg2 (by decide)
    have a9 := ne_tag tg1 tg3 (by decide)
    omega

theorem ino_none {w : World} {x m : Nat} {S : Int → Nd} {L : Int → Option (Nat × Nat × Nat)} (h : Inos Tryz.prog w x S m L) : ∃ c : Value, c.oneCell' = true ∧
    ∀ l : List D, HRel (envL [x, m] (rhoV (ofL (.st (.works fun k => (L k).map (·.1)) :: l)) fun _ => c)) inoA w := by
  obtain ⟨c, hc, hrow⟩ := h.cell
  have tx := h.tag_x
  have tm := h.tag_m
  refine ⟨c, hc, fun l => hrel_mk rfl (fun i b B hi hB => ?_) (fun i j b c' B C hi hj hB hC hij k h1 h2 => ?_)⟩
  · match i, hi, hB with
    | 0, hi, hB =>
      obtain rfl := Option.some.inj hi
      obtain rfl := Option.some.inj hB
      exact ⟨_, hrow, _, rfl, inoL_rel rfl hc (envL_at rfl)⟩
    | 1, hi, hB =>
      obtain rfl := Option.some.inj hi
      obtain rfl := Option.some.inj hB
      obtain ⟨es, clock, ho⟩ := h.map.is_map
      refine ⟨_, ho, fun q hq => ?_, ?_, fun w2 b2 ho2 => ⟨?_, fun i a hi0 ha => ?_⟩⟩
      · obtain rfl := List.mem_singleton.1 hq
        exact ⟨_, envL_at (b := x) rfl, rfl⟩
      · rw [linksOf_mark 0 (envL_at (b := x) rfl)]
        rfl
      · have e : (fun k => if k = 0 then none else (linksOf (envL [x, m] (rhoV (ofL (.st (.works fun k => (L k).map (·.1)) :: l)) fun _ => c)) [(.li 0, 0)] k).or ((L k).map (·.1))) = fun k => (L k).map (·.1) := by
          funext k
          split
          · rename_i e0
            cases hL : L k with
            | none => rfl
            | some t2 =>
              have := h.num k t2 hL
              omega
          · rename_i e0
            rw [linksOf_skip (k := .li 0) (show (0 : Int) ≠ k from fun e => e0 e.symm)]
            rfl
        show MapI elPtr _ _ w2 b2 4096 (fun k => if k = 0 then none else _)
        rw [e]
        exact MapI.any h.map ho w2 b2 ho2
      · rw [linksOf_skip (k := .li 0) (show (0 : Int) ≠ i from fun e => hi0 e.symm)] at ha
        have ha : (L i).map (·.1) = some a := ha
        cases hL : L i with
        | none => rw [hL] at ha; cases ha
        | some t2 => exact h.num i t2 hL
    | i + 2, hi, _ => simp at hi
  · have a1 := ne_tag tx tm (by decide)
    have role : ∀ i b B k, [x, m][i]? = some b → inoAs[i]? = some B → ownL (envL [x, m] (rhoV (ofL (.st (.works fun k => (L k).map (·.1)) :: l)) fun _ => c)) w b B k → (i = 0 ∧ k = x) ∨ (i = 1 ∧ k = m) := fun i b B k hi hB ho => by
      match i, hi, hB with
      | 0, hi, hB => obtain rfl := Option.some.inj hi; obtain rfl := Option.some.inj hB; exact .inl ⟨rfl, ho⟩
      | 1, hi, hB => obtain rfl := Option.some.inj hi; obtain rfl := Option.some.inj hB; exact .inr ⟨rfl, ho⟩
      | i + 2, hi, _ => simp at hi
    have r1 := role i b B k hi hB h1
    have r2 := role j c' C k hj hC h2
    omega
end Go.Proofs.YtcnimekhpnejlaaGreat.Ev

/- Inodes, closed again. -/
namespace Go.Proofs.YtcnimekhpnejlaaGreat.Ev
open Go Go.RowKit
set_option linter.unusedVariables false
set_option linter.unusedSimpArgs false
set_option maxRecDepth 10000

theorem ino_owned {w : World} {x m : Nat} {S : Int → Nd} {L : Int → Option (Nat × Nat × Nat)} (h : Inos Tryz.prog w x S m L) {n : Int} {t : Nat × Nat × Nat} (ht : L n = some t) {ρ : Rho} (hA : ρ.A = absD Tryz.prog) {k : Nat} (ho : Owned (envL [x, m, t.1, t.2.1] ρ) inoM w k) : k = x ∨ k = m ∨ k = t.1 ∨ k = t.2.1 ∨ k = t.2.2 := by
  have hb : ∀ j B, inoM.get j = some B → j = 0 ∨ j = 1 ∨ j = 2 ∨ j = 3 := fun j B hB => by
    have := memL_get hB
    match j, this with
    | 0, _ => exact .inl rfl
    | 1, _ => exact .inr (.inl rfl)
    | 2, _ => exact .inr (.inr (.inl rfl))
    | 3, _ => exact .inr (.inr (.inr rfl))
    | j + 4, h => simp [inoBs] at h
  rcases ho with ⟨j, B, q, hB, hq, rfl⟩ | ⟨j, e, q, hB, hq, ho⟩
  · have e1 := (envL_inv hq).1
    rcases hb j B hB with rfl | rfl | rfl | rfl
    · exact .inl (Option.some.inj e1).symm
    · exact .inr (.inl (Option.some.inj e1).symm)
    · exact .inr (.inr (.inl (Option.some.inj e1).symm))
    · exact .inr (.inr (.inr (.inl (Option.some.inj e1).symm)))
  · have e1 := (envL_inv hq).1
    have ho : ρ.A.own q.blk w k := ho
    rw [hA] at ho
    rcases hb j _ hB with rfl | rfl | rfl | rfl
    · cases memL_get hB
    · cases memL_get hB
    · cases memL_get hB
    · obtain e2 := Option.some.inj e1
      rw [← e2] at ho
      rcases (ownD_grow (h.work n t ht).grow k).1 ho with rfl | rfl
      · exact .inr (.inr (.inr (.inl rfl)))
      · exact .inr (.inr (.inr (.inr rfl)))

/-- Inodes of which one was opened, closed. -/
theorem ino_done {w w' : World} {x m : Nat} {S : Int → Nd} {L : Int → Option (Nat × Nat × Nat)} (h : Inos Tryz.prog w x S m L) {n : Int} {t : Nat × Nat × Nat} (ht : L n = some t) {v : Nat → D} {o : Nat → Value} (hc : (o 0).oneCell' = true) (hv0 : v 0 = .st (.works fun k => (L k).map (·.1))) (hv1 : v 1 = .i n)
    {nx nx' : Nat} {E' : Env} {h' : T Blk} (hg : Goes (envL [x, m, t.1, t.2.1] (rhoV v o)) inoM nx w E' h' nx' w')
    (v0 : (h'.get 0).map Blk.view = some (.cells 107 (inoL 1))) (v1 : (h'.get 1).map Blk.view = some (.opq (.va 0) [(.va 1, 2), (.li 0, 0)])) {a b c d s : SV} (v2 : (h'.get 2).map Blk.view = some (.cells 100 (workL a b c d s 3)))
    {e : X} (v3 : (h'.get 3).map Blk.view = some (.abs e)) (hone : (a.one && b.one && c.one && d.one && s.one) = true) {N' : Nd} (hN : N'.Ok)
    (hden : [a, b, c, d, s].map (SV.den E') = [.int .i64 n, .int .i64 N'.kind, .int .i64 N'.links, .int .i64 (N'.bytes.length : Nat), .int .u64 N'.stamp]) (he : e.val (rhoV v o) = .st (.grow (leavesN N'.bytes.length) (leafOf N'.bytes))) :
    isD Tryz.prog (.st (.ino (updS S n N'))) x w' ∧ (∀ k, ownD Tryz.prog x w' k → ownD Tryz.prog x w k ∨ w.heap.size ≤ k) ∧ But (ownD Tryz.prog x w) w w' := by
  have hρ : E'.ρ = rhoV v o := hg.ext.ρ
  have m0 : E'.m 0 = some ⟨x, 0, 0⟩ := hg.ext.m _ _ (envL_at rfl)
  have m1 : E'.m 1 = some ⟨m, 0, 0⟩ := hg.ext.m _ _ (envL_at rfl)
  have m2 : E'.m 2 = some ⟨t.1, 0, 0⟩ := hg.ext.m _ _ (envL_at rfl)
  have m3 : E'.m 3 = some ⟨t.2.1, 0, 0⟩ := hg.ext.m _ _ (envL_at rfl)
  have hn := h.num n t ht
  obtain ⟨tg1, tg2, tg3⟩ := h.tag_t ht
  have tx := h.tag_x
  have tm := h.tag_m
  have hrow := row_of_view hg.rel v0 inoL_one m0
  rw [inoL_den rfl m1] at hrow
  obtain ⟨o1, hob, _, hoq⟩ := opq_of_view hg.rel v1 m1
  rw [hρ] at hoq
  have hoq : oqD Tryz.prog (v 0) (linksOf E' [(.va 1, 2), (.li 0, 0)]) o1 := hoq
  rw [hv0] at hoq
  obtain ⟨hmap, _⟩ := hoq.2 _ _ hob
  have lk := links_ino (E := E') (n := n) (by rw [hρ]; show (v 1).int = n; rw [hv1]; rfl) (by omega) m2 m0
  have hgr := abs_of_view hg.rel v3 m3
  rw [hρ, he] at hgr
  obtain ⟨sm, hgr⟩ := hgr
  have hwrow := row_of_view hg.rel v2 (by
    simp only [Bool.and_eq_true] at hone
    unfold workL
    simp only [List.all_cons, List.all_nil, hone.1.1.1.1, hone.1.1.1.2, hone.1.1.2, hone.1.2, hone.2]
    rfl) m2
  have hwork : IsWork Tryz.prog w' n N' (t.1, t.2.1, sm) := by
    refine ⟨?_, hgr⟩
    have e1 : (workL a b c d s 3).map (SV.den E') = workCells n N' t.2.1 := by
      have e2 : (workL a b c d s 3).map (SV.den E') = [a, b, c, d, s].map (SV.den E') ++ [SV.den E' (.ptr 3 0)] := rfl
      rw [e2, hden]
      show _ ++ [SV.den E' (.ptr 3 0)] = _
      simp only [SV.den, m3]
      rfl
    rw [e1] at hwrow
    exact hwrow
  have other : ∀ k t2, k ≠ n → L k = some t2 → ∀ j, (j = t2.1 ∨ j = t2.2.1 ∨ j = t2.2.2) → j ≠ x ∧ j ≠ m ∧ j ≠ t.1 ∧ j ≠ t.2.1 ∧ j ≠ t.2.2 := fun k t2 hk ht2 j hj => by
    obtain ⟨g1, g2, g3⟩ := h.tag_t ht2
    obtain ⟨i1, i2, i3⟩ := h.inj k n t2 t ht2 ht hk
    have hm := h.map_ne k t2 ht2
    rcases hj with rfl | rfl | rfl
    · exact ⟨ne_tag g1 tx (by decide), ne_tag g1 tm (by decide), i1, ne_tag g1 tg2 (by decide), ne_tag g1 tg3 (by decide)⟩
    · exact ⟨ne_tag g2 tx (by decide), ne_tag g2 tm (by decide), ne_tag g2 tg1 (by decide), i2, ne_tag g2 tg3 (by decide)⟩
    · exact ⟨ne_tag g3 tx (by decide), hm, ne_tag g3 tg1 (by decide), ne_tag g3 tg2 (by decide), i3⟩
  have olt : ∀ k t2, L k = some t2 → ∀ j, (j = t2.1 ∨ j = t2.2.1 ∨ j = t2.2.2) → j < w.heap.size := fun k t2 ht2 j hj => h.lt (.inr (.inr ⟨k, t2, ht2, hj⟩))
  have keep : ∀ k t2, k ≠ n → L k = some t2 → ∀ j, (j = t2.1 ∨ j = t2.2.1 ∨ j = t2.2.2) → w'.heap[j]? = w.heap[j]? := fun k t2 hk ht2 j hj =>
    hg.frame.block j (olt k t2 ht2 j hj) fun ho => by
      have h1 := ino_owned h ht rfl ho
      have h2 := other k t2 hk ht2 j hj
      omega
  obtain ⟨B3, hB3, hv3⟩ := Option.map_eq_some_iff.1 v3
  have hB3 : h'.get 3 = some (.abs e) := by
    unfold Blk.view at hv3
    split at hv3
    · cases hv3
    · cases hv3
    · simp only [BV.abs.injEq] at hv3
      rw [hB3, hv3]
    · cases hv3
    · cases hv3
  have hsown : E'.ρ.A.own t.2.1 w' sm := by rw [hρ]; exact (ownD_grow hgr sm).2 (.inr rfl)
  have hsw := hg.uown 3 e _ hB3 m3 sm hsown
  have hsm : sm ≠ m := fun e2 => by
    obtain ⟨B1, hB1⟩ := live_of v1
    exact hg.rel.abs.far 3 e _ 1 B1 _ hB3 m3 hB1 m1 (by decide) (e2 ▸ hsown)
  have hI : Inos Tryz.prog w' x (updS S n N') m (upd L n (t.1, t.2.1, sm)) := by
    refine h.close hN hn (c := E'.ρ.o 0) (by rw [hρ]; exact hc) hrow ?_ hwork (fun k t2 hk ht2 => ⟨keep k t2 hk ht2 _ (.inl rfl), keep k t2 hk ht2 _ (.inr (.inl rfl)), keep k t2 hk ht2 _ (.inr (.inr rfl))⟩) (fun k t2 hk ht2 => ?_) hsm
    · have e1 : (fun k => (upd L n (t.1, t.2.1, sm) k).map (·.1)) = fun k => if k = 0 then none else (linksOf E' [(.va 1, 2), (.li 0, 0)] k).or ((L k).map (·.1)) := by
        funext k
        by_cases hk : k = n
        · subst hk
          rw [upd_at, if_neg (by omega), lk.2.1]
          rfl
        · rw [upd_ne L _ hk]
          split
          · rename_i e0
            subst e0
            cases hL : L 0 with
            | none => rfl
            | some t2 =>
              have := h.num 0 t2 hL
              omega
          · rename_i e0
            rw [lk.2.2 k hk e0]
            rfl
      rw [e1]
      exact hmap
    · have h1 := other k t2 hk ht2
      refine ⟨fun e2 => (h1 t2.1 (.inl rfl)).2.2.1 e2.symm, fun e2 => (h1 t2.2.1 (.inr (.inl rfl))).2.2.2.1 e2.symm, fun e2 => ?_⟩
      have e2 : sm = t2.2.2 := e2
      have h2 := h1 t2.2.2 (.inr (.inr rfl))
      have h3 := olt k t2 ht2 t2.2.2 (.inr (.inr rfl))
      rcases hsw with ho | hge
      · have := ino_owned h ht rfl ho
        omega
      · omega
  refine ⟨⟨m, _, hI⟩, fun k hk => ?_, ⟨hg.frame.os, hg.frame.tape, hg.frame.output, hg.frame.size, fun k hk hnk => hg.frame.block k hk fun ho => hnk ((ownD_ino h k).2 ?_)⟩⟩
  · have hk := (ownD_ino hI k).1 hk
    have own3 : ∀ j, j = t.1 ∨ j = t.2.1 ∨ j = sm → ownBlk x m L j ∨ w.heap.size ≤ j := fun j hj => by
      rcases hj with rfl | rfl | rfl
      · exact .inl (.inr (.inr ⟨n, t, ht, .inl rfl⟩))
      · exact .inl (.inr (.inr ⟨n, t, ht, .inr (.inl rfl)⟩))
      · rcases hsw with ho | hge
        · left
          rcases ino_owned h ht rfl ho with e2 | e2 | e2 | e2 | e2
          · exact .inl e2
          · exact .inr (.inl e2)
          · exact .inr (.inr ⟨n, t, ht, .inl e2⟩)
          · exact .inr (.inr ⟨n, t, ht, .inr (.inl e2)⟩)
          · exact .inr (.inr ⟨n, t, ht, .inr (.inr e2)⟩)
        · exact .inr hge
    rcases own_upd (sz := w.heap.size) own3 hk with h1 | h1
    · exact .inl ((ownD_ino h k).2 h1)
    · exact .inr h1
  · rcases ino_owned h ht rfl ho with e2 | e2 | e2 | e2 | e2
    · exact .inl e2
    · exact .inr (.inl e2)
    · exact .inr (.inr ⟨n, t, ht, .inl e2⟩)
    · exact .inr (.inr ⟨n, t, ht, .inr (.inl e2)⟩)
    · exact .inr (.inr ⟨n, t, ht, .inr (.inr e2)⟩)
end Go.Proofs.YtcnimekhpnejlaaGreat.Ev

/- What calls come to, on all their ways (written by wip/tools/tabs.py). -/
namespace Go.Proofs.YtcnimekhpnejlaaGreat.Ev
open Go
def getPT : PT := (.node (.eq (.va 1) (.li 0)) .dead (.node (.eq (.va 3) (.li 0)) .leaf .leaf))
def getPL : List (List (X × Bool) × Option (EV × List (Option BV))) := [
  ([((.eq (.va 1) (.li 0)), true)], none),
  ([((.eq (.va 3) (.li 0)), true), ((.eq (.va 1) (.li 0)), false)], some ((.tup [(.agg [(.int .i64 0), (.int .i64 0), (.int .i64 0), (.int .i64 0), (.int .u64 0)]), (.s (.int .i64 151))]), [some (.cells 107 (inoL 1)), some (.opq (.va 0) [((.va 1), 2), ((.li 0), 0)]), some (.cells 100 [(.xi .i64 (.va 1)), (.xi .i64 (.va 3)), (.xi .i64 (.va 4)), (.xi .i64 (.va 5)), (.xi .u64 (.va 6)), (.ptr 3 0)]), some (.abs (.va 2))])),
  ([((.eq (.va 3) (.li 0)), false), ((.eq (.va 1) (.li 0)), false)], some ((.tup [(.agg [(.xi .i64 (.va 1)), (.xi .i64 (.va 3)), (.xi .i64 (.va 4)), (.xi .i64 (.va 5)), (.xi .u64 (.va 6))]), (.s (.int .i64 0))]), [some (.cells 107 (inoL 1)), some (.opq (.va 0) [((.va 1), 2), ((.li 0), 0)]), some (.cells 100 [(.xi .i64 (.va 1)), (.xi .i64 (.va 3)), (.xi .i64 (.va 4)), (.xi .i64 (.va 5)), (.xi .u64 (.va 6)), (.ptr 3 0)]), some (.abs (.va 2))]))]
def getAT : PT := (.node (.app 902 (.va 1)) (.node (.app 900 (.cons (.va 0) (.va 1))) .dead (.node (.lt (.va 1) (.li 1)) .leaf (.node (.lt (.li 4096) (.va 1)) .leaf (.node (.lt (.bin .quo .i64 (.bin .sub .i64 (.va 1) (.li 1)) (.li 4)) (.li 0)) (.node (.eq (.bin .rem .i64 (.bin .sub .i64 (.va 1) (.li 1)) (.li 4)) (.li 3)) .leaf (.node (.eq (.bin .rem .i64 (.bin .sub .i64 (.va 1) (.li 1)) (.li 4)) (.li 2)) .leaf (.node (.eq (.bin .rem .i64 (.bin .sub .i64 (.va 1) (.li 1)) (.li 4)) (.li 1)) .leaf (.node (.eq (.bin .rem .i64 (.bin .sub .i64 (.va 1) (.li 1)) (.li 4)) (.li 0)) .leaf .dead)))) (.node (.eq (.bin .rem .i64 (.bin .sub .i64 (.va 1) (.li 1)) (.li 4)) (.li 3)) .leaf (.node (.eq (.bin .rem .i64 (.bin .sub .i64 (.va 1) (.li 1)) (.li 4)) (.li 2)) .leaf (.node (.eq (.bin .rem .i64 (.bin .sub .i64 (.va 1) (.li 1)) (.li 4)) (.li 1)) .leaf (.node (.eq (.bin .rem .i64 (.bin .sub .i64 (.va 1) (.li 1)) (.li 4)) (.li 0)) .leaf .dead)))))))) .dead)
def getAL : List (List (X × Bool) × Option (EV × List (Option BV))) := [
  ([((.app 900 (.cons (.va 0) (.va 1))), true), ((.app 902 (.va 1)), true)], none),
  ([((.lt (.va 1) (.li 1)), true), ((.app 900 (.cons (.va 0) (.va 1))), false), ((.app 902 (.va 1)), true)], some ((.tup [(.agg [(.int .i64 0), (.int .i64 0), (.int .i64 0), (.int .i64 0), (.int .u64 0)]), (.s (.int .i64 141))]), [some (.cells 107 (inoL 1)), some (.opq (.va 0) [((.li 0), 0)])])),
  ([((.lt (.li 4096) (.va 1)), true), ((.lt (.va 1) (.li 1)), false), ((.app 900 (.cons (.va 0) (.va 1))), false), ((.app 902 (.va 1)), true)], some ((.tup [(.agg [(.int .i64 0), (.int .i64 0), (.int .i64 0), (.int .i64 0), (.int .u64 0)]), (.s (.int .i64 141))]), [some (.cells 107 (inoL 1)), some (.opq (.va 0) [((.li 0), 0)])])),
  ([((.eq (.bin .rem .i64 (.bin .sub .i64 (.va 1) (.li 1)) (.li 4)) (.li 3)), true), ((.lt (.bin .quo .i64 (.bin .sub .i64 (.va 1) (.li 1)) (.li 4)) (.li 0)), true), ((.lt (.li 4096) (.va 1)), false), ((.lt (.va 1) (.li 1)), false), ((.app 900 (.cons (.va 0) (.va 1))), false), ((.app 902 (.va 1)), true)], some ((.tup [(.agg [(.int .i64 0), (.int .i64 0), (.int .i64 0), (.int .i64 0), (.int .u64 0)]), (.s (.int .i64 90))]), [some (.cells 107 (inoL 1)), some (.opq (.va 0) [((.li 0), 0)])])),
  ([((.eq (.bin .rem .i64 (.bin .sub .i64 (.va 1) (.li 1)) (.li 4)) (.li 2)), true), ((.eq (.bin .rem .i64 (.bin .sub .i64 (.va 1) (.li 1)) (.li 4)) (.li 3)), false), ((.lt (.bin .quo .i64 (.bin .sub .i64 (.va 1) (.li 1)) (.li 4)) (.li 0)), true), ((.lt (.li 4096) (.va 1)), false), ((.lt (.va 1) (.li 1)), false), ((.app 900 (.cons (.va 0) (.va 1))), false), ((.app 902 (.va 1)), true)], some ((.tup [(.agg [(.int .i64 0), (.int .i64 0), (.int .i64 0), (.int .i64 0), (.int .u64 0)]), (.s (.int .i64 90))]), [some (.cells 107 (inoL 1)), some (.opq (.va 0) [((.li 0), 0)])])),
  ([((.eq (.bin .rem .i64 (.bin .sub .i64 (.va 1) (.li 1)) (.li 4)) (.li 1)), true), ((.eq (.bin .rem .i64 (.bin .sub .i64 (.va 1) (.li 1)) (.li 4)) (.li 2)), false), ((.eq (.bin .rem .i64 (.bin .sub .i64 (.va 1) (.li 1)) (.li 4)) (.li 3)), false), ((.lt (.bin .quo .i64 (.bin .sub .i64 (.va 1) (.li 1)) (.li 4)) (.li 0)), true), ((.lt (.li 4096) (.va 1)), false), ((.lt (.va 1) (.li 1)), false), ((.app 900 (.cons (.va 0) (.va 1))), false), ((.app 902 (.va 1)), true)], some ((.tup [(.agg [(.int .i64 0), (.int .i64 0), (.int .i64 0), (.int .i64 0), (.int .u64 0)]), (.s (.int .i64 90))]), [some (.cells 107 (inoL 1)), some (.opq (.va 0) [((.li 0), 0)])])),
  ([((.eq (.bin .rem .i64 (.bin .sub .i64 (.va 1) (.li 1)) (.li 4)) (.li 0)), true), ((.eq (.bin .rem .i64 (.bin .sub .i64 (.va 1) (.li 1)) (.li 4)) (.li 1)), false), ((.eq (.bin .rem .i64 (.bin .sub .i64 (.va 1) (.li 1)) (.li 4)) (.li 2)), false), ((.eq (.bin .rem .i64 (.bin .sub .i64 (.va 1) (.li 1)) (.li 4)) (.li 3)), false), ((.lt (.bin .quo .i64 (.bin .sub .i64 (.va 1) (.li 1)) (.li 4)) (.li 0)), true), ((.lt (.li 4096) (.va 1)), false), ((.lt (.va 1) (.li 1)), false), ((.app 900 (.cons (.va 0) (.va 1))), false), ((.app 902 (.va 1)), true)], some ((.tup [(.agg [(.int .i64 0), (.int .i64 0), (.int .i64 0), (.int .i64 0), (.int .u64 0)]), (.s (.int .i64 90))]), [some (.cells 107 (inoL 1)), some (.opq (.va 0) [((.li 0), 0)])])),
  ([((.eq (.bin .rem .i64 (.bin .sub .i64 (.va 1) (.li 1)) (.li 4)) (.li 0)), false), ((.eq (.bin .rem .i64 (.bin .sub .i64 (.va 1) (.li 1)) (.li 4)) (.li 1)), false), ((.eq (.bin .rem .i64 (.bin .sub .i64 (.va 1) (.li 1)) (.li 4)) (.li 2)), false), ((.eq (.bin .rem .i64 (.bin .sub .i64 (.va 1) (.li 1)) (.li 4)) (.li 3)), false), ((.lt (.bin .quo .i64 (.bin .sub .i64 (.va 1) (.li 1)) (.li 4)) (.li 0)), true), ((.lt (.li 4096) (.va 1)), false), ((.lt (.va 1) (.li 1)), false), ((.app 900 (.cons (.va 0) (.va 1))), false), ((.app 902 (.va 1)), true)], none),
  ([((.eq (.bin .rem .i64 (.bin .sub .i64 (.va 1) (.li 1)) (.li 4)) (.li 3)), true), ((.lt (.bin .quo .i64 (.bin .sub .i64 (.va 1) (.li 1)) (.li 4)) (.li 0)), false), ((.lt (.li 4096) (.va 1)), false), ((.lt (.va 1) (.li 1)), false), ((.app 900 (.cons (.va 0) (.va 1))), false), ((.app 902 (.va 1)), true)], some ((.tup [(.agg [(.int .i64 0), (.int .i64 0), (.int .i64 0), (.int .i64 0), (.int .u64 0)]), (.s (.int .i64 151))]), [some (.cells 107 (inoL 1)), some (.opq (.va 0) [((.li 0), 0)])])),
  ([((.eq (.bin .rem .i64 (.bin .sub .i64 (.va 1) (.li 1)) (.li 4)) (.li 2)), true), ((.eq (.bin .rem .i64 (.bin .sub .i64 (.va 1) (.li 1)) (.li 4)) (.li 3)), false), ((.lt (.bin .quo .i64 (.bin .sub .i64 (.va 1) (.li 1)) (.li 4)) (.li 0)), false), ((.lt (.li 4096) (.va 1)), false), ((.lt (.va 1) (.li 1)), false), ((.app 900 (.cons (.va 0) (.va 1))), false), ((.app 902 (.va 1)), true)], some ((.tup [(.agg [(.int .i64 0), (.int .i64 0), (.int .i64 0), (.int .i64 0), (.int .u64 0)]), (.s (.int .i64 151))]), [some (.cells 107 (inoL 1)), some (.opq (.va 0) [((.li 0), 0)])])),
  ([((.eq (.bin .rem .i64 (.bin .sub .i64 (.va 1) (.li 1)) (.li 4)) (.li 1)), true), ((.eq (.bin .rem .i64 (.bin .sub .i64 (.va 1) (.li 1)) (.li 4)) (.li 2)), false), ((.eq (.bin .rem .i64 (.bin .sub .i64 (.va 1) (.li 1)) (.li 4)) (.li 3)), false), ((.lt (.bin .quo .i64 (.bin .sub .i64 (.va 1) (.li 1)) (.li 4)) (.li 0)), false), ((.lt (.li 4096) (.va 1)), false), ((.lt (.va 1) (.li 1)), false), ((.app 900 (.cons (.va 0) (.va 1))), false), ((.app 902 (.va 1)), true)], some ((.tup [(.agg [(.int .i64 0), (.int .i64 0), (.int .i64 0), (.int .i64 0), (.int .u64 0)]), (.s (.int .i64 151))]), [some (.cells 107 (inoL 1)), some (.opq (.va 0) [((.li 0), 0)])])),
  ([((.eq (.bin .rem .i64 (.bin .sub .i64 (.va 1) (.li 1)) (.li 4)) (.li 0)), true), ((.eq (.bin .rem .i64 (.bin .sub .i64 (.va 1) (.li 1)) (.li 4)) (.li 1)), false), ((.eq (.bin .rem .i64 (.bin .sub .i64 (.va 1) (.li 1)) (.li 4)) (.li 2)), false), ((.eq (.bin .rem .i64 (.bin .sub .i64 (.va 1) (.li 1)) (.li 4)) (.li 3)), false), ((.lt (.bin .quo .i64 (.bin .sub .i64 (.va 1) (.li 1)) (.li 4)) (.li 0)), false), ((.lt (.li 4096) (.va 1)), false), ((.lt (.va 1) (.li 1)), false), ((.app 900 (.cons (.va 0) (.va 1))), false), ((.app 902 (.va 1)), true)], some ((.tup [(.agg [(.int .i64 0), (.int .i64 0), (.int .i64 0), (.int .i64 0), (.int .u64 0)]), (.s (.int .i64 151))]), [some (.cells 107 (inoL 1)), some (.opq (.va 0) [((.li 0), 0)])])),
  ([((.eq (.bin .rem .i64 (.bin .sub .i64 (.va 1) (.li 1)) (.li 4)) (.li 0)), false), ((.eq (.bin .rem .i64 (.bin .sub .i64 (.va 1) (.li 1)) (.li 4)) (.li 1)), false), ((.eq (.bin .rem .i64 (.bin .sub .i64 (.va 1) (.li 1)) (.li 4)) (.li 2)), false), ((.eq (.bin .rem .i64 (.bin .sub .i64 (.va 1) (.li 1)) (.li 4)) (.li 3)), false), ((.lt (.bin .quo .i64 (.bin .sub .i64 (.va 1) (.li 1)) (.li 4)) (.li 0)), false), ((.lt (.li 4096) (.va 1)), false), ((.lt (.va 1) (.li 1)), false), ((.app 900 (.cons (.va 0) (.va 1))), false), ((.app 902 (.va 1)), true)], none),
  ([((.app 902 (.va 1)), false)], none)]
def lfPT : PT := (.node (.lt (.va 1) (.li 1)) .leaf (.node (.lt (.li 4096) (.va 1)) .leaf (.node (.lt (.va 7) (.li 0)) .leaf (.node (.lt (.va 7) (.li 4096)) (.node (.eq (.va 1) (.li 0)) .dead (.node (.eq (.va 3) (.li 0)) .leaf (.node (.lt (.va 5) (.li 0)) .leaf (.node (.lt (.li 1048576) (.va 5)) .leaf (.node (.lt (.va 7) (.bin .quo .i64 (.bin .sub .i64 (.bin .add .i64 (.va 5) (.li 256)) (.li 1)) (.li 256))) (.node (.app 36 (.va 2)) (.node (.app 902 (.va 7)) (.node (.app 30 (.cons (.va 2) (.va 7))) .leaf .leaf) .dead) .dead) .leaf))))) .leaf))))
def lfPL : List (List (X × Bool) × Option (EV × List (Option BV))) := [
  ([((.lt (.va 1) (.li 1)), true)], some ((.tup [(.agg blk0), (.s (.int .i64 141))]), [some (.cells 107 (inoL 1)), some (.opq (.va 0) [((.va 1), 2), ((.li 0), 0)]), some (.cells 100 [(.xi .i64 (.va 1)), (.xi .i64 (.va 3)), (.xi .i64 (.va 4)), (.xi .i64 (.va 5)), (.xi .u64 (.va 6)), (.ptr 3 0)]), some (.abs (.va 2))])),
  ([((.lt (.li 4096) (.va 1)), true), ((.lt (.va 1) (.li 1)), false)], some ((.tup [(.agg blk0), (.s (.int .i64 141))]), [some (.cells 107 (inoL 1)), some (.opq (.va 0) [((.va 1), 2), ((.li 0), 0)]), some (.cells 100 [(.xi .i64 (.va 1)), (.xi .i64 (.va 3)), (.xi .i64 (.va 4)), (.xi .i64 (.va 5)), (.xi .u64 (.va 6)), (.ptr 3 0)]), some (.abs (.va 2))])),
  ([((.lt (.va 7) (.li 0)), true), ((.lt (.li 4096) (.va 1)), false), ((.lt (.va 1) (.li 1)), false)], some ((.tup [(.agg blk0), (.s (.int .i64 90))]), [some (.cells 107 (inoL 1)), some (.opq (.va 0) [((.va 1), 2), ((.li 0), 0)]), some (.cells 100 [(.xi .i64 (.va 1)), (.xi .i64 (.va 3)), (.xi .i64 (.va 4)), (.xi .i64 (.va 5)), (.xi .u64 (.va 6)), (.ptr 3 0)]), some (.abs (.va 2))])),
  ([((.eq (.va 1) (.li 0)), true), ((.lt (.va 7) (.li 4096)), true), ((.lt (.va 7) (.li 0)), false), ((.lt (.li 4096) (.va 1)), false), ((.lt (.va 1) (.li 1)), false)], none),
  ([((.eq (.va 3) (.li 0)), true), ((.eq (.va 1) (.li 0)), false), ((.lt (.va 7) (.li 4096)), true), ((.lt (.va 7) (.li 0)), false), ((.lt (.li 4096) (.va 1)), false), ((.lt (.va 1) (.li 1)), false)], some ((.tup [(.agg blk0), (.s (.int .i64 151))]), [some (.cells 107 (inoL 1)), some (.opq (.va 0) [((.va 1), 2), ((.li 0), 0)]), some (.cells 100 [(.xi .i64 (.va 1)), (.xi .i64 (.va 3)), (.xi .i64 (.va 4)), (.xi .i64 (.va 5)), (.xi .u64 (.va 6)), (.ptr 3 0)]), some (.abs (.va 2))])),
  ([((.lt (.va 5) (.li 0)), true), ((.eq (.va 3) (.li 0)), false), ((.eq (.va 1) (.li 0)), false), ((.lt (.va 7) (.li 4096)), true), ((.lt (.va 7) (.li 0)), false), ((.lt (.li 4096) (.va 1)), false), ((.lt (.va 1) (.li 1)), false)], some ((.tup [(.agg blk0), (.s (.int .i64 0))]), [some (.cells 107 (inoL 1)), some (.opq (.va 0) [((.va 1), 2), ((.li 0), 0)]), some (.cells 100 [(.xi .i64 (.va 1)), (.xi .i64 (.va 3)), (.xi .i64 (.va 4)), (.xi .i64 (.va 5)), (.xi .u64 (.va 6)), (.ptr 3 0)]), some (.abs (.va 2))])),
  ([((.lt (.li 1048576) (.va 5)), true), ((.lt (.va 5) (.li 0)), false), ((.eq (.va 3) (.li 0)), false), ((.eq (.va 1) (.li 0)), false), ((.lt (.va 7) (.li 4096)), true), ((.lt (.va 7) (.li 0)), false), ((.lt (.li 4096) (.va 1)), false), ((.lt (.va 1) (.li 1)), false)], some ((.tup [(.agg blk0), (.s (.int .i64 0))]), [some (.cells 107 (inoL 1)), some (.opq (.va 0) [((.va 1), 2), ((.li 0), 0)]), some (.cells 100 [(.xi .i64 (.va 1)), (.xi .i64 (.va 3)), (.xi .i64 (.va 4)), (.xi .i64 (.va 5)), (.xi .u64 (.va 6)), (.ptr 3 0)]), some (.abs (.va 2))])),
  ([((.app 30 (.cons (.va 2) (.va 7))), true), ((.app 902 (.va 7)), true), ((.app 36 (.va 2)), true), ((.lt (.va 7) (.bin .quo .i64 (.bin .sub .i64 (.bin .add .i64 (.va 5) (.li 256)) (.li 1)) (.li 256))), true), ((.lt (.li 1048576) (.va 5)), false), ((.lt (.va 5) (.li 0)), false), ((.eq (.va 3) (.li 0)), false), ((.eq (.va 1) (.li 0)), false), ((.lt (.va 7) (.li 4096)), true), ((.lt (.va 7) (.li 0)), false), ((.lt (.li 4096) (.va 1)), false), ((.lt (.va 1) (.li 1)), false)], some ((.tup [(.agg (blkX (.app 31 (.cons (.va 2) (.va 7))))), (.s (.int .i64 0))]), [some (.cells 107 (inoL 1)), some (.opq (.va 0) [((.va 1), 2), ((.li 0), 0)]), some (.cells 100 [(.xi .i64 (.va 1)), (.xi .i64 (.va 3)), (.xi .i64 (.va 4)), (.xi .i64 (.va 5)), (.xi .u64 (.va 6)), (.ptr 3 0)]), some (.abs (.va 2))])),
  ([((.app 30 (.cons (.va 2) (.va 7))), false), ((.app 902 (.va 7)), true), ((.app 36 (.va 2)), true), ((.lt (.va 7) (.bin .quo .i64 (.bin .sub .i64 (.bin .add .i64 (.va 5) (.li 256)) (.li 1)) (.li 256))), true), ((.lt (.li 1048576) (.va 5)), false), ((.lt (.va 5) (.li 0)), false), ((.eq (.va 3) (.li 0)), false), ((.eq (.va 1) (.li 0)), false), ((.lt (.va 7) (.li 4096)), true), ((.lt (.va 7) (.li 0)), false), ((.lt (.li 4096) (.va 1)), false), ((.lt (.va 1) (.li 1)), false)], some ((.tup [(.agg blk0), (.s (.int .i64 90))]), [some (.cells 107 (inoL 1)), some (.opq (.va 0) [((.va 1), 2), ((.li 0), 0)]), some (.cells 100 [(.xi .i64 (.va 1)), (.xi .i64 (.va 3)), (.xi .i64 (.va 4)), (.xi .i64 (.va 5)), (.xi .u64 (.va 6)), (.ptr 3 0)]), some (.abs (.va 2))])),
  ([((.app 902 (.va 7)), false), ((.app 36 (.va 2)), true), ((.lt (.va 7) (.bin .quo .i64 (.bin .sub .i64 (.bin .add .i64 (.va 5) (.li 256)) (.li 1)) (.li 256))), true), ((.lt (.li 1048576) (.va 5)), false), ((.lt (.va 5) (.li 0)), false), ((.eq (.va 3) (.li 0)), false), ((.eq (.va 1) (.li 0)), false), ((.lt (.va 7) (.li 4096)), true), ((.lt (.va 7) (.li 0)), false), ((.lt (.li 4096) (.va 1)), false), ((.lt (.va 1) (.li 1)), false)], none),
  ([((.app 36 (.va 2)), false), ((.lt (.va 7) (.bin .quo .i64 (.bin .sub .i64 (.bin .add .i64 (.va 5) (.li 256)) (.li 1)) (.li 256))), true), ((.lt (.li 1048576) (.va 5)), false), ((.lt (.va 5) (.li 0)), false), ((.eq (.va 3) (.li 0)), false), ((.eq (.va 1) (.li 0)), false), ((.lt (.va 7) (.li 4096)), true), ((.lt (.va 7) (.li 0)), false), ((.lt (.li 4096) (.va 1)), false), ((.lt (.va 1) (.li 1)), false)], none),
  ([((.lt (.va 7) (.bin .quo .i64 (.bin .sub .i64 (.bin .add .i64 (.va 5) (.li 256)) (.li 1)) (.li 256))), false), ((.lt (.li 1048576) (.va 5)), false), ((.lt (.va 5) (.li 0)), false), ((.eq (.va 3) (.li 0)), false), ((.eq (.va 1) (.li 0)), false), ((.lt (.va 7) (.li 4096)), true), ((.lt (.va 7) (.li 0)), false), ((.lt (.li 4096) (.va 1)), false), ((.lt (.va 1) (.li 1)), false)], some ((.tup [(.agg blk0), (.s (.int .i64 0))]), [some (.cells 107 (inoL 1)), some (.opq (.va 0) [((.va 1), 2), ((.li 0), 0)]), some (.cells 100 [(.xi .i64 (.va 1)), (.xi .i64 (.va 3)), (.xi .i64 (.va 4)), (.xi .i64 (.va 5)), (.xi .u64 (.va 6)), (.ptr 3 0)]), some (.abs (.va 2))])),
  ([((.lt (.va 7) (.li 4096)), false), ((.lt (.va 7) (.li 0)), false), ((.lt (.li 4096) (.va 1)), false), ((.lt (.va 1) (.li 1)), false)], some ((.tup [(.agg blk0), (.s (.int .i64 90))]), [some (.cells 107 (inoL 1)), some (.opq (.va 0) [((.va 1), 2), ((.li 0), 0)]), some (.cells 100 [(.xi .i64 (.va 1)), (.xi .i64 (.va 3)), (.xi .i64 (.va 4)), (.xi .i64 (.va 5)), (.xi .u64 (.va 6)), (.ptr 3 0)]), some (.abs (.va 2))]))]
def lfAT : PT := (.node (.lt (.va 1) (.li 1)) .leaf (.node (.lt (.li 4096) (.va 1)) .leaf (.node (.lt (.va 7) (.li 0)) .leaf (.node (.lt (.va 7) (.li 4096)) (.node (.app 902 (.va 1)) (.node (.app 900 (.cons (.va 0) (.va 1))) .dead (.node (.lt (.bin .quo .i64 (.bin .sub .i64 (.va 1) (.li 1)) (.li 4)) (.li 0)) (.node (.eq (.bin .rem .i64 (.bin .sub .i64 (.va 1) (.li 1)) (.li 4)) (.li 3)) .leaf (.node (.eq (.bin .rem .i64 (.bin .sub .i64 (.va 1) (.li 1)) (.li 4)) (.li 2)) .leaf (.node (.eq (.bin .rem .i64 (.bin .sub .i64 (.va 1) (.li 1)) (.li 4)) (.li 1)) .leaf (.node (.eq (.bin .rem .i64 (.bin .sub .i64 (.va 1) (.li 1)) (.li 4)) (.li 0)) .leaf .dead)))) (.node (.eq (.bin .rem .i64 (.bin .sub .i64 (.va 1) (.li 1)) (.li 4)) (.li 3)) .leaf (.node (.eq (.bin .rem .i64 (.bin .sub .i64 (.va 1) (.li 1)) (.li 4)) (.li 2)) .leaf (.node (.eq (.bin .rem .i64 (.bin .sub .i64 (.va 1) (.li 1)) (.li 4)) (.li 1)) .leaf (.node (.eq (.bin .rem .i64 (.bin .sub .i64 (.va 1) (.li 1)) (.li 4)) (.li 0)) .leaf .dead)))))) .dead) .leaf))))
def lfAL : List (List (X × Bool) × Option (EV × List (Option BV))) := [
  ([((.lt (.va 1) (.li 1)), true)], some ((.tup [(.agg blk0), (.s (.int .i64 141))]), [some (.cells 107 (inoL 1)), some (.opq (.va 0) [((.li 0), 0)])])),
  ([((.lt (.li 4096) (.va 1)), true), ((.lt (.va 1) (.li 1)), false)], some ((.tup [(.agg blk0), (.s (.int .i64 141))]), [some (.cells 107 (inoL 1)), some (.opq (.va 0) [((.li 0), 0)])])),
  ([((.lt (.va 7) (.li 0)), true), ((.lt (.li 4096) (.va 1)), false), ((.lt (.va 1) (.li 1)), false)], some ((.tup [(.agg blk0), (.s (.int .i64 90))]), [some (.cells 107 (inoL 1)), some (.opq (.va 0) [((.li 0), 0)])])),
  ([((.app 900 (.cons (.va 0) (.va 1))), true), ((.app 902 (.va 1)), true), ((.lt (.va 7) (.li 4096)), true), ((.lt (.va 7) (.li 0)), false), ((.lt (.li 4096) (.va 1)), false), ((.lt (.va 1) (.li 1)), false)], none),
  ([((.eq (.bin .rem .i64 (.bin .sub .i64 (.va 1) (.li 1)) (.li 4)) (.li 3)), true), ((.lt (.bin .quo .i64 (.bin .sub .i64 (.va 1) (.li 1)) (.li 4)) (.li 0)), true), ((.app 900 (.cons (.va 0) (.va 1))), false), ((.app 902 (.va 1)), true), ((.lt (.va 7) (.li 4096)), true), ((.lt (.va 7) (.li 0)), false), ((.lt (.li 4096) (.va 1)), false), ((.lt (.va 1) (.li 1)), false)], some ((.tup [(.agg blk0), (.s (.int .i64 90))]), [some (.cells 107 (inoL 1)), some (.opq (.va 0) [((.li 0), 0)])])),
  ([((.eq (.bin .rem .i64 (.bin .sub .i64 (.va 1) (.li 1)) (.li 4)) (.li 2)), true), ((.eq (.bin .rem .i64 (.bin .sub .i64 (.va 1) (.li 1)) (.li 4)) (.li 3)), false), ((.lt (.bin .quo .i64 (.bin .sub .i64 (.va 1) (.li 1)) (.li 4)) (.li 0)), true), ((.app 900 (.cons (.va 0) (.va 1))), false), ((.app 902 (.va 1)), true), ((.lt (.va 7) (.li 4096)), true), ((.lt (.va 7) (.li 0)), false), ((.lt (.li 4096) (.va 1)), false), ((.lt (.va 1) (.li 1)), false)], some ((.tup [(.agg blk0), (.s (.int .i64 90))]), [some (.cells 107 (inoL 1)), some (.opq (.va 0) [((.li 0), 0)])])),
  ([((.eq (.bin .rem .i64 (.bin .sub .i64 (.va 1) (.li 1)) (.li 4)) (.li 1)), true), ((.eq (.bin .rem .i64 (.bin .sub .i64 (.va 1) (.li 1)) (.li 4)) (.li 2)), false), ((.eq (.bin .rem .i64 (.bin .sub .i64 (.va 1) (.li 1)) (.li 4)) (.li 3)), false), ((.lt (.bin .quo .i64 (.bin .sub .i64 (.va 1) (.li 1)) (.li 4)) (.li 0)), true), ((.app 900 (.cons (.va 0) (.va 1))), false), ((.app 902 (.va 1)), true), ((.lt (.va 7) (.li 4096)), true), ((.lt (.va 7) (.li 0)), false), ((.lt (.li 4096) (.va 1)), false), ((.lt (.va 1) (.li 1)), false)], some ((.tup [(.agg blk0), (.s (.int .i64 90))]), [some (.cells 107 (inoL 1)), some (.opq (.va 0) [((.li 0), 0)])])),
  ([((.eq (.bin .rem .i64 (.bin .sub .i64 (.va 1) (.li 1)) (.li 4)) (.li 0)), true), ((.eq (.bin .rem .i64 (.bin .sub .i64 (.va 1) (.li 1)) (.li 4)) (.li 1)), false), ((.eq (.bin .rem .i64 (.bin .sub .i64 (.va 1) (.li 1)) (.li 4)) (.li 2)), false), ((.eq (.bin .rem .i64 (.bin .sub .i64 (.va 1) (.li 1)) (.li 4)) (.li 3)), false), ((.lt (.bin .quo .i64 (.bin .sub .i64 (.va 1) (.li 1)) (.li 4)) (.li 0)), true), ((.app 900 (.cons (.va 0) (.va 1))), false), ((.app 902 (.va 1)), true), ((.lt (.va 7) (.li 4096)), true), ((.lt (.va 7) (.li 0)), false), ((.lt (.li 4096) (.va 1)), false), ((.lt (.va 1) (.li 1)), false)], some ((.tup [(.agg blk0), (.s (.int .i64 90))]), [some (.cells 107 (inoL 1)), some (.opq (.va 0) [((.li 0), 0)])])),
  ([((.eq (.bin .rem .i64 (.bin .sub .i64 (.va 1) (.li 1)) (.li 4)) (.li 0)), false), ((.eq (.bin .rem .i64 (.bin .sub .i64 (.va 1) (.li 1)) (.li 4)) (.li 1)), false), ((.eq (.bin .rem .i64 (.bin .sub .i64 (.va 1) (.li 1)) (.li 4)) (.li 2)), false), ((.eq (.bin .rem .i64 (.bin .sub .i64 (.va 1) (.li 1)) (.li 4)) (.li 3)), false), ((.lt (.bin .quo .i64 (.bin .sub .i64 (.va 1) (.li 1)) (.li 4)) (.li 0)), true), ((.app 900 (.cons (.va 0) (.va 1))), false), ((.app 902 (.va 1)), true), ((.lt (.va 7) (.li 4096)), true), ((.lt (.va 7) (.li 0)), false), ((.lt (.li 4096) (.va 1)), false), ((.lt (.va 1) (.li 1)), false)], none),
  ([((.eq (.bin .rem .i64 (.bin .sub .i64 (.va 1) (.li 1)) (.li 4)) (.li 3)), true), ((.lt (.bin .quo .i64 (.bin .sub .i64 (.va 1) (.li 1)) (.li 4)) (.li 0)), false), ((.app 900 (.cons (.va 0) (.va 1))), false), ((.app 902 (.va 1)), true), ((.lt (.va 7) (.li 4096)), true), ((.lt (.va 7) (.li 0)), false), ((.lt (.li 4096) (.va 1)), false), ((.lt (.va 1) (.li 1)), false)], some ((.tup [(.agg blk0), (.s (.int .i64 151))]), [some (.cells 107 (inoL 1)), some (.opq (.va 0) [((.li 0), 0)])])),
  ([((.eq (.bin .rem .i64 (.bin .sub .i64 (.va 1) (.li 1)) (.li 4)) (.li 2)), true), ((.eq (.bin .rem .i64 (.bin .sub .i64 (.va 1) (.li 1)) (.li 4)) (.li 3)), false), ((.lt (.bin .quo .i64 (.bin .sub .i64 (.va 1) (.li 1)) (.li 4)) (.li 0)), false), ((.app 900 (.cons (.va 0) (.va 1))), false), ((.app 902 (.va 1)), true), ((.lt (.va 7) (.li 4096)), true), ((.lt (.va 7) (.li 0)), false), ((.lt (.li 4096) (.va 1)), false), ((.lt (.va 1) (.li 1)), false)], some ((.tup [(.agg blk0), (.s (.int .i64 151))]), [some (.cells 107 (inoL 1)), some (.opq (.va 0) [((.li 0), 0)])])),
  ([((.eq (.bin .rem .i64 (.bin .sub .i64 (.va 1) (.li 1)) (.li 4)) (.li 1)), true), ((.eq (.bin .rem .i64 (.bin .sub .i64 (.va 1) (.li 1)) (.li 4)) (.li 2)), false), ((.eq (.bin .rem .i64 (.bin .sub .i64 (.va 1) (.li 1)) (.li 4)) (.li 3)), false), ((.lt (.bin .quo .i64 (.bin .sub .i64 (.va 1) (.li 1)) (.li 4)) (.li 0)), false), ((.app 900 (.cons (.va 0) (.va 1))), false), ((.app 902 (.va 1)), true), ((.lt (.va 7) (.li 4096)), true), ((.lt (.va 7) (.li 0)), false), ((.lt (.li 4096) (.va 1)), false), ((.lt (.va 1) (.li 1)), false)], some ((.tup [(.agg blk0), (.s (.int .i64 151))]), [some (.cells 107 (inoL 1)), some (.opq (.va 0) [((.li 0), 0)])])),
  ([((.eq (.bin .rem .i64 (.bin .sub .i64 (.va 1) (.li 1)) (.li 4)) (.li 0)), true), ((.eq (.bin .rem .i64 (.bin .sub .i64 (.va 1) (.li 1)) (.li 4)) (.li 1)), false), ((.eq (.bin .rem .i64 (.bin .sub .i64 (.va 1) (.li 1)) (.li 4)) (.li 2)), false), ((.eq (.bin .rem .i64 (.bin .sub .i64 (.va 1) (.li 1)) (.li 4)) (.li 3)), false), ((.lt (.bin .quo .i64 (.bin .sub .i64 (.va 1) (.li 1)) (.li 4)) (.li 0)), false), ((.app 900 (.cons (.va 0) (.va 1))), false), ((.app 902 (.va 1)), true), ((.lt (.va 7) (.li 4096)), true), ((.lt (.va 7) (.li 0)), false), ((.lt (.li 4096) (.va 1)), false), ((.lt (.va 1) (.li 1)), false)], some ((.tup [(.agg blk0), (.s (.int .i64 151))]), [some (.cells 107 (inoL 1)), some (.opq (.va 0) [((.li 0), 0)])])),
  ([((.eq (.bin .rem .i64 (.bin .sub .i64 (.va 1) (.li 1)) (.li 4)) (.li 0)), false), ((.eq (.bin .rem .i64 (.bin .sub .i64 (.va 1) (.li 1)) (.li 4)) (.li 1)), false), ((.eq (.bin .rem .i64 (.bin .sub .i64 (.va 1) (.li 1)) (.li 4)) (.li 2)), false), ((.eq (.bin .rem .i64 (.bin .sub .i64 (.va 1) (.li 1)) (.li 4)) (.li 3)), false), ((.lt (.bin .quo .i64 (.bin .sub .i64 (.va 1) (.li 1)) (.li 4)) (.li 0)), false), ((.app 900 (.cons (.va 0) (.va 1))), false), ((.app 902 (.va 1)), true), ((.lt (.va 7) (.li 4096)), true), ((.lt (.va 7) (.li 0)), false), ((.lt (.li 4096) (.va 1)), false), ((.lt (.va 1) (.li 1)), false)], none),
  ([((.app 902 (.va 1)), false), ((.lt (.va 7) (.li 4096)), true), ((.lt (.va 7) (.li 0)), false), ((.lt (.li 4096) (.va 1)), false), ((.lt (.va 1) (.li 1)), false)], none),
  ([((.lt (.va 7) (.li 4096)), false), ((.lt (.va 7) (.li 0)), false), ((.lt (.li 4096) (.va 1)), false), ((.lt (.va 1) (.li 1)), false)], some ((.tup [(.agg blk0), (.s (.int .i64 90))]), [some (.cells 107 (inoL 1)), some (.opq (.va 0) [((.li 0), 0)])]))]
end Go.Proofs.YtcnimekhpnejlaaGreat.Ev
