/- Calls whose outcome is told: slices.Sorted(maps.Keys(m)), the keys of the kind int. -/
import Derived.Test.YtoehfadjpficiaaGreatEvTrue
import Derived.Test.YtoehfadjpficiaaGreatIter
import Derived.WalkKit
namespace Go.Proofs.YtoehfadjpficiaaGreat.Ev
open Go Go.RowKit Go.Maps Go.WideShapes
open Go.WideElems (rd rg)
set_option linter.unusedVariables false
set_option linter.unusedSimpArgs false
def anyVal : Value → Option (DataW Unit × List MemPlace) := fun _ => some (.nil, [])

theorem sortsIn (m : Nat) : AnyZI.SortsIn Tryz.prog Tryz.sortedA_ren Fence.wide m :=
  ⟨fun blk off cap ss W hH hblk hsz => callsIn_wide.2 (AnyM.slices_Sort_int Tryz.sortA blk off cap ss W hH hblk hsz),
   fun p cap W => callsIn_wide.2 (AnyM.slices_Sort_int_none Tryz.sortA p cap W)⟩

theorem sorted_call (B b nn : Nat) (D0 : DataW Unit) (w : World) (hB : B < w.heap.size) (hm : w.cell? ⟨B, 0, none⟩ = some (.map (some b))) (hown : w.ownsMap Tryz.prog 3 anyVal b nn D0) (hmax : Maps.size D0 ≤ maxLen) (hbytes : Maps.size D0 * 8 ≤ 140737488355328) :
    Calls Tryz.prog 97 #[.func (.func 158) #[] #[.pointer (some ⟨B, 0, none⟩)]] w fun e w' => ∃ (v : Value) (ss : List Int), e = .returned v ∧ ss.Perm (intKeys D0) ∧
      w'.ownsRow w.heap.size 3 1 v ss.length ((ss.mergeSort (fun x y => decide (x ≤ y))).map encZ) ∧ (v = .slice none 0 0 ↔ ss = []) ∧ Below w.heap.size w w' := by
  refine (callsIn_wide (n := 5)).1 ?_
  have hseq : SeqGives Fence.wide 2 Tryz.prog 158 #[.pointer (some ⟨B, 0, none⟩)] encZ (fun ss => ss.Perm (intKeys D0)) (Maps.size D0) w :=
    AnyZI.keys_gives (ρ := Tryz.keysA_ren) { Tryz.keysA with } Fence.wide _ trivial rfl (by omega) B b nn D0 _ hB hm hown
  exact AnyZI.sorted_in Tryz.sortedA Fence.wide 5 trivial trivial trivial trivial rfl (by omega) (sortsIn _) (enters_of Tryz.func157 (by kernel_rfl) rfl) 158 #[.pointer (some ⟨B, 0, none⟩)] trivial (enters_of Tryz.func158 (by kernel_rfl) rfl) _ _ hmax hbytes _ hseq

def keysOf : List (AV × AV × Nat) → Option (List Int)
  | [] => some []
  | (.s (.int .i64 n), _, _) :: r => (keysOf r).map (n :: ·)
  | _ => none
def risingB : List Int → Bool
  | [] => true
  | [_] => true
  | a :: b :: r => decide (a < b) && risingB (b :: r)
def wfKey (n : Int) : Bool := (Lit.int .i64 n).wf
theorem risingB_pw : ∀ {l : List Int}, risingB l = true → l.Pairwise (· < ·)
  | [], _ => .nil
  | [_], _ => List.pairwise_singleton _ _
  | a :: b :: r, h => by
    unfold risingB at h
    simp only [Bool.and_eq_true, decide_eq_true_eq] at h
    have ih := risingB_pw h.2
    refine List.pairwise_cons.2 ⟨fun x hx => ?_, ih⟩
    rcases List.mem_cons.1 hx with rfl | hx
    · exact h.1
    · exact Int.lt_trans h.1 ((List.pairwise_cons.1 ih).1 x hx)
theorem keys_rel {E : Env} : ∀ {es : List (AV × AV × Nat)} {ks : List Int} {l : List MapEntry}, keysOf es = some ks → Rels (entryRel E) es l → l.map (·.key) = ks.map (Value.int .i64)
  | [], ks, [], h, _ => by
    obtain rfl := Option.some.inj h
    rfl
  | (.s (.int .i64 n), a, b) :: r, ks, x :: l, h, hr => by
    obtain ⟨k2, h2, rfl⟩ := Option.map_eq_some_iff.1 h
    have ih := keys_rel h2 hr.2
    have hk : x.key = .int .i64 n := hr.1.1
    rw [List.map_cons, List.map_cons, ih, hk]
  | e :: r, ks, x :: l, h, hr => by
    unfold keysOf at h
    split at h
    · rename_i heq
      cases heq
    · rename_i n a b r' heq
      obtain ⟨k2, h2, rfl⟩ := Option.map_eq_some_iff.1 h
      simp only [List.cons.injEq] at heq
      obtain ⟨rfl, rfl⟩ := heq
      have ih := keys_rel h2 hr.2
      have hk : x.key = .int .i64 n := hr.1.1
      rw [List.map_cons, List.map_cons, ih, hk]
    · cases h
  | [], _, _ :: _, _, hr => hr.elim
  | _ :: _, _, [], _, hr => hr.elim
theorem keyOf_int {n : Int} (h : wfKey n = true) : keyOf Tryz.prog 3 (.int .i64 n) = some (.int .i64 n) := by
  unfold keyOf
  rw [Tryz.underlying3]
  simp only [mapKey, Tryz.underlying3]
  rw [if_pos ⟨trivial, h⟩]
theorem rd_int {n : Int} {x : MapEntry} (hx : x.key = .int .i64 n) (h : wfKey n = true) : rd Tryz.prog 3 anyVal x = some (.int .i64 n, .nil) := by
  unfold rd
  rw [hx, keyOf_int h]
  rfl
theorem rg_int {n : Int} {x : MapEntry} (hx : x.key = .int .i64 n) (h : wfKey n = true) : rg Tryz.prog 3 anyVal x = (.int .i64 n, .nil) := by
  unfold rg
  rw [rd_int hx h]
  rfl
theorem keys_rg : ∀ {ks : List Int} {l : List MapEntry}, l.map (·.key) = ks.map (Value.int .i64) → (∀ n ∈ ks, wfKey n = true) → l.map (fun x => Go.intOf (rg Tryz.prog 3 anyVal x).1) = ks
  | [], [], _, _ => rfl
  | n :: ks, x :: l, h, hw => by
    simp only [List.map_cons, List.cons.injEq] at h
    rw [List.map_cons, keys_rg h.2 (fun m hm => hw m (List.mem_cons_of_mem _ hm)), rg_int h.1 (hw n (by simp))]
    rfl
  | [], _ :: _, h, _ => by simp at h
  | _ :: _, [], h, _ => by simp at h

/-- A map of the evaluator's, as the contract's. -/
theorem owns_of {E : Env} {w : World} {b : Nat} {es : List (AV × AV × Nat)} {clock : Nat} {ents : Array MapEntry} {ks : List Int} (hb : w.heap[b]? = some (.map ents clock)) (hm : mpRel E es clock ents) (hk : keysOf es = some ks)
    (hr : risingB ks = true) (hw : ∀ n ∈ ks, wfKey n = true) (hl : ks.length ≤ 100000) : ∃ D : DataW Unit, w.ownsMap Tryz.prog 3 anyVal b ents.size D ∧ (intKeys D).Perm ks ∧ Maps.size D = ks.length := by
  obtain ⟨l, hp, hrel, hnd, hlt⟩ := hm
  have hkeys := keys_rel hk hrel
  have hsz : ents.size = ks.length := by
    have h1 := hp.length_eq
    have h2 := congrArg List.length hkeys
    rw [List.length_map, List.length_map] at h2
    rw [← Array.length_toList]
    omega
  have hlen : l.length = ks.length := by
    have h2 := congrArg List.length hkeys
    rwa [List.length_map, List.length_map] at h2
  refine ⟨.map ((ents.toList.map (rg Tryz.prog 3 anyVal)).foldr DataW.insert []), ⟨ents, clock, hb, ⟨?_, ⟨fun x hx => hlt x (hp.mem_iff.2 hx), (hp.map _).nodup_iff.1 hnd, ?_⟩, fun x hx => ?_⟩, Nat.le_refl _, rfl⟩, ?_, ?_⟩
  · rw [hsz]
    exact Nat.le_trans hl (by decide)
  · refine (hp.map _).nodup_iff.1 ?_
    rw [hkeys]
    refine List.pairwise_map.2 ((risingB_pw hr).imp fun {a b} hab e => ?_)
    injection e with _ e
    omega
  · have hx2 : x.key ∈ ks.map (Value.int .i64) := by
      rw [← hkeys]
      exact List.mem_map.2 ⟨x, hp.mem_iff.2 hx, rfl⟩
    obtain ⟨n, hn, he⟩ := List.mem_map.1 hx2
    exact ⟨_, rd_int he.symm (hw n hn)⟩
  · show (((ents.toList.map (rg Tryz.prog 3 anyVal)).foldr DataW.insert []).map fun p => Go.intOf p.1).Perm ks
    refine ((sorted_perm _).map _).trans ?_
    rw [List.map_map]
    have h3 := hp.symm.map fun x => Go.intOf (rg Tryz.prog 3 anyVal x).1
    rw [keys_rg hkeys hw] at h3
    have h5 : ((fun p => Go.intOf p.1) ∘ rg Tryz.prog 3 anyVal) = fun x => Go.intOf (rg Tryz.prog 3 anyVal x).1 := funext fun x => by simp only [Function.comp_apply]
    rw [h5]
    exact h3
  · show ((ents.toList.map (rg Tryz.prog 3 anyVal)).foldr DataW.insert []).length = ks.length
    rw [(sorted_perm _).length_eq, List.length_map, Array.length_toList, hsz]

/-- A block that a call has made, adopted. -/
theorem Goes.found {E : Env} {h : T Blk} {nx : Nat} {w w' : World} (hr : HRel E h w) (hn : E.m nx = none) (bel : Below w.heap.size w w') {b : Blk} {o : Obj} (p : Pl) (hp : w.heap.size ≤ p.blk) (ho : w'.heap[p.blk]? = some o)
    (hrel : b.rel (E.put nx p) p o) : Goes E h nx w (E.put nx p) (h.set nx b) (nx + 1) w' where
  ext := Env.ext_put hn
  out := fun i hi => Env.put_ne E p (by omega)
  le := by omega
  rel := ⟨fun j c hc => by
      rw [T.get_set] at hc
      by_cases e : j = nx
      · rw [if_pos e] at hc
        subst e
        obtain rfl := Option.some.inj hc
        exact ⟨p, o, Env.put_at _ _ _, ho, hrel⟩
      · rw [if_neg e] at hc
        obtain ⟨q, o2, hq, ho2, hr2⟩ := hr.at_ j c hc
        exact ⟨q, o2, by rw [Env.put_ne E p e]; exact hq, by rw [bel.block _ (lt_of_heap ho2)]; exact ho2, Blk.ext (Env.ext_put hn) hr2⟩,
    fun j k c d q r hc hd hq hr2 e => by
      rw [T.get_set] at hc hd
      have old : ∀ {j c q}, j ≠ nx → (if j = nx then some b else h.get j) = some c → (E.put nx p).m j = some q → h.get j = some c ∧ E.m j = some q ∧ q.blk < w.heap.size := fun {j c q} hj hc hq => by
        rw [if_neg hj] at hc
        rw [Env.put_ne E p hj] at hq
        obtain ⟨q', o2, hq', ho2, _⟩ := hr.at_ j c hc
        rw [hq] at hq'
        obtain rfl := Option.some.inj hq'
        exact ⟨hc, hq, lt_of_heap ho2⟩
      by_cases ej : j = nx
      · by_cases ek : k = nx
        · rw [ej, ek]
        · obtain ⟨_, _, hlt⟩ := old ek hd hr2
          subst ej
          rw [Env.put_at] at hq
          obtain rfl := Option.some.inj hq
          omega
      · obtain ⟨hc', hq', hlt⟩ := old ej hc hq
        by_cases ek : k = nx
        · subst ek
          rw [Env.put_at] at hr2
          obtain rfl := Option.some.inj hr2
          omega
        · obtain ⟨hd', hr', _⟩ := old ek hd hr2
          exact hr.inj j k c d q r hc' hd' hq' hr' e⟩
  frame := ⟨bel.os, bel.tape, bel.output, bel.size, fun k hk _ => bel.block k hk⟩
  ids := fun j c hc => by
    rw [T.get_set] at hc
    by_cases e : j = nx
    · exact .inr (by omega)
    · rw [if_neg e] at hc; exact .inl ⟨c, hc⟩
  own := fun j c q hc hq => by
    rw [T.get_set] at hc
    by_cases e : j = nx
    · subst e
      rw [Env.put_at] at hq
      obtain rfl := Option.some.inj hq
      exact .inr hp
    · rw [if_neg e] at hc
      rw [Env.put_ne E p e] at hq
      exact .inl ⟨j, c, q, hc, hq, rfl⟩

def okKeys (ks : List Int) : Bool := risingB ks && ks.all wfKey && decide (ks.length ≤ 100000)
def sumSorted : Call := fun g args h nx =>
  if g = 97 then
    match args with
    | [.a (.s (.func 158 [(i, 0)]))] =>
      match h.get i with
      | some (.cells t none c false) =>
        if 0 < c.n then
          match c.get 0 with
          | .map m =>
            match h.get m with
            | some (.mp es clock) => (keysOf es).bind fun ks =>
              if okKeys ks = true then
                match ks with
                | [] => some (.a (.s .nils), h, nx)
                | k :: r => some (.a (.s (.sl nx 0 (k :: r).length none 0)), h.set nx (.cells 3 (some 1) (Cells.ofList ((k :: r).map (SV.int .i64))) false), nx + 1)
              else none
            | _ => none
          | _ => none
        else none
      | _ => none
    | _ => none
  else none
theorem mergeSort_rising {ks ss : List Int} (hp : ss.Perm ks) (hr : risingB ks = true) : ss.mergeSort (fun x y => decide (x ≤ y)) = ks := by
  have h1 : ss.mergeSort leI = ks.mergeSort leI := mergeSort_of_perm_i hp
  have h2 : ks.mergeSort leI = ks := List.mergeSort_of_pairwise ((risingB_pw hr).imp fun {a b} hab => by simp only [leI, decide_eq_true_eq]; omega)
  exact h1.trans h2
theorem sumSorted_ok {C : Ctx} (hP : C.P = Tryz.prog) : CallOk C sumSorted := by
  intro g args h nx r he E w vs hr hρ hf hargs
  rw [hP]
  unfold sumSorted at he
  split at he
  · rename_i hg
    subst hg
    split at he
    · rename_i i
      split at he
      · rename_i t c hbox
        split at he
        · rename_i hcn
          split at he
          · rename_i m hc0
            split at he
            · rename_i es clock hmap
              replace he := Option.bind_eq_some_iff.1 he
              obtain ⟨ks, hks, he⟩ := he
              split at he
              · rename_i hok
                simp only [okKeys, Bool.and_eq_true, List.all_eq_true, decide_eq_true_eq] at hok
                obtain ⟨⟨hri, hwf⟩, hlen⟩ := hok
                match vs, hargs with
                | [v], hargs =>
                  obtain ⟨us, rfl, hus⟩ := hargs.1
                  match us, hus with
                  | [u], hus =>
                    obtain ⟨p, hp, rfl⟩ := hus.1
                    obtain ⟨o, ho, hrel⟩ := hr.blk hbox hp
                    obtain ⟨cs, lo, hi, rfl, hc⟩ := hrel
                    have hdl := hc.dl rfl
                    obtain ⟨v0, hv0, hrel0⟩ := hc.get 0 hcn
                    rw [hc0] at hrel0
                    obtain ⟨q, hq, rfl⟩ := hrel0
                    obtain ⟨o2, ho2, hrel2⟩ := hr.blk hmap hq
                    obtain ⟨ents, rfl, hm⟩ := hrel2
                    have hcell : w.cell? ⟨p.blk, 0, none⟩ = some (.map (some q.blk)) := by
                      simp only [World.cell?, ho]
                      rw [hdl] at hv0
                      exact hv0
                    obtain ⟨D, hown, hperm, hsize⟩ := owns_of ho2 hm hks hri hwf hlen
                    have hcall := sorted_call p.blk q.blk ents.size D w (lt_of_heap ho) hcell hown (by rw [hsize]; exact Nat.le_trans hlen (by decide)) (by rw [hsize]; omega)
                    have e0 : (⟨p.blk, p.dl + 0, none⟩ : Addr) = ⟨p.blk, 0, none⟩ := by rw [hdl]
                    show Calls Tryz.prog 97 #[.func (.func 158) #[] #[.pointer (some ⟨p.blk, p.dl + 0, none⟩)]] w _
                    rw [e0]
                    refine hcall.mono fun e w' ⟨v, ss, h1, h2, h3, h4, h5⟩ => ?_
                    have hss := h2.trans hperm
                    rw [mergeSort_rising hss hri] at h3
                    cases ks with
                    | nil =>
                      obtain rfl := Option.some.inj he
                      have : ss = [] := List.length_eq_zero_iff.1 (by simpa using hss.length_eq)
                      obtain rfl := h4.2 this
                      exact ⟨_, E, h1, Goes.below hr h5, rfl⟩
                    | cons k ks =>
                      obtain rfl := Option.some.inj he
                      have hsl := hss.length_eq
                      rw [hsl] at h3
                      obtain ⟨_, h3 | ⟨gb, cap, cur, rfl, hbase, hgb, hn, hcap, hcur, htake⟩⟩ := h3
                      · have := h3.2
                        simp at this
                      · rw [Nat.mul_one] at hcur htake
                        have hn0 : E.m nx = none := hf nx (Nat.le_refl _)
                        refine ⟨_, _, h1, Goes.found hr hn0 h5 (o := .cells cur 3 (0, 0)) ⟨gb, 0, cap⟩ hbase hgb ⟨cur, 0, 0, rfl, ?_⟩, ?_⟩
                        · exact {
                            fz := fun _ => ⟨rfl, rfl⟩
                            free := fun _ _ => by omega
                            room := fun sz hsz => by
                              obtain rfl := Option.some.inj hsz
                              show 0 + cap * 1 ≤ cur.size
                              omega
                            fits := by
                              show 0 + (Cells.ofList ((k :: ks).map (SV.int .i64))).n ≤ cur.size
                              rw [Cells.ofList_n, List.length_map]
                              omega
                            dl := fun h => by cases h
                            get := fun j hj => by
                              rw [Cells.ofList_n, List.length_map] at hj
                              have e1 : ((k :: ks).map (SV.int .i64))[j]? = some (SV.int .i64 (k :: ks)[j]) := by
                                rw [List.getElem?_map, List.getElem?_eq_getElem hj]
                                rfl
                              refine ⟨encZ (k :: ks)[j], ?_, ?_⟩
                              · show cur[0 + j]? = _
                                have e2 : (cur.toList.take (k :: ks).length)[j]? = some (encZ (k :: ks)[j]) := by
                                  rw [htake, List.getElem?_map, List.getElem?_eq_getElem hj]
                                  rfl
                                rw [List.getElem?_take_of_lt hj, Array.getElem?_toList] at e2
                                rw [Nat.zero_add]
                                exact e2
                              · rw [Cells.get_ofList _ j _ e1]
                                rfl }
                        · refine ⟨⟨gb, 0, cap⟩, Env.put_at _ _ _, hn, rfl⟩
                  | [], hus => exact hus.elim
                  | _ :: _ :: _, hus => exact hus.2.elim
                | [], hargs => exact hargs.elim
                | _ :: _ :: _, hargs => exact hargs.2.elim
              · cases he
            · cases he
          · cases he
        · cases he
      · cases he
    · cases he
  · cases he
end Go.Proofs.YtoehfadjpficiaaGreat.Ev
