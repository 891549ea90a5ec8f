/- The evaluator: structs and slices that are made, slices of slices, small builtins. -/
import Derived.Test.YtoehfadjpficiaaGreatEv4
namespace Go.Proofs.YtoehfadjpficiaaGreat.Ev
open Go Go.RowKit
set_option linter.unusedVariables false
set_option linter.unusedSimpArgs false

/-! ### Filling -/
def evFill (place : Nat → Option (Nat × Nat)) (cells : List SV) : List (Nat × AV) → Option (List SV)
  | [] => some cells
  | (i, v) :: rest =>
    match place i with
    | none => none
    | some (off, size) => if v.cells.length = size ∧ off + size ≤ cells.length then evFill place (cells.take off ++ v.cells ++ cells.drop (off + size)) rest else none

theorem foldl_set (off : Nat) : ∀ (l : List Value) (k : Nat) (cs : Array Value), off + k + l.length ≤ cs.size →
    ((l.zipIdx k).foldl (fun (cs : Array Value) (x : Value × Nat) => cs.setIfInBounds (off + x.2) x.1) cs).toList = cs.toList.take (off + k) ++ l ++ cs.toList.drop (off + k + l.length)
  | [], k, cs, h => by simp
  | x :: l, k, cs, h => by
    rw [List.length_cons] at h
    rw [List.zipIdx_cons, List.foldl_cons, foldl_set off l (k + 1) _ (by rw [Array.size_setIfInBounds]; omega)]
    have hlt : off + k < cs.toList.length := by rw [Array.length_toList]; omega
    rw [Array.toList_setIfInBounds, List.length_cons]
    rw [show off + (k + 1) = (off + k) + 1 by omega, List.take_succ_eq_append_getElem (by rw [List.length_set]; exact hlt), List.getElem_set_self, List.take_set_of_le (by omega), List.drop_set_of_lt (by omega)]
    rw [List.append_assoc, List.append_assoc, List.append_assoc]
    rw [show off + k + 1 + l.length = off + k + (l.length + 1) by omega]
    rfl

theorem evFill_run {E : Env} {place : Nat → Option (Nat × Nat)} : ∀ {parts : List (Nat × AV)} {vs : List (Nat × Value)} {cells r : List SV} {arr : Array Value}, evFill place cells parts = some r → Rels (fun (x : Nat × AV) (y : Nat × Value) => x.1 = y.1 ∧ x.2.rel E y.2) parts vs → Rels (SV.rel E) cells arr.toList →
    ∃ arr', Instr.fill place arr vs = some arr' ∧ Rels (SV.rel E) r arr'.toList
  | [], [], cells, r, arr, he, _, hc => by
    obtain rfl := Option.some.inj he
    exact ⟨arr, rfl, hc⟩
  | (i, v) :: rest, (j, u) :: vs, cells, r, arr, he, hp, hc => by
    obtain ⟨⟨rfl, hv⟩, hp2⟩ := hp
    unfold evFill at he
    unfold Instr.fill
    split at he
    · cases he
    · rename_i off size hpl
      split at he
      · rename_i hn
        have hv' : v.rel E u := hv
        have hcv := AV.cells_rel hv'
        have hl := hcv.length
        have hl2 := hc.length
        rw [Array.length_toList] at hl hl2
        simp only [hpl]
        have hcond : (decide (u.cells.size ≠ size) || decide (off + u.cells.size > arr.size)) = false := by
          simp only [Bool.or_eq_false_iff, decide_eq_false_iff_not]
          omega
        rw [if_neg (by rw [hcond]; simp)]
        refine evFill_run he hp2 ?_
        rw [← Array.foldl_toList, Array.toList_zipIdx, foldl_set off u.cells.toList 0 arr (by rw [Array.length_toList]; omega)]
        rw [Nat.add_zero, Array.length_toList, show u.cells.size = size by omega]
        exact ((hc.take off).app hcv).app (hc.drop (off + size))
      · cases he
  | [], _ :: _, _, _, _, _, hp, _ => hp.elim
  | _ :: _, [], _, _, _, _, hp, _ => hp.elim

theorem run_mapM' {P : Program} {w : World} {α β : Type} {f : α → Sem β} {g : α → β} : ∀ (l : List α), (∀ x ∈ l, (f x).run P w = .ok (g x) w) → (l.mapM f).run P w = .ok (l.map g) w
  | [], _ => by simp
  | x :: l, h => by
    rw [List.mapM_cons]
    simp only [Sem.run_bind, h x (by simp), Result.andThen_ok, run_mapM' l (fun y hy => h y (by simp [hy])), Sem.run_pure, List.map_cons]

def opParts : List (Nat × EV) → Option (List (Nat × AV))
  | [] => some []
  | (i, .a x) :: r => (opParts r).map fun l => (i, x) :: l
  | _ => none
theorem opParts_rel {E : Env} : ∀ {ps : List (Nat × EV)} {vs : List (Nat × Value)} {r : List (Nat × AV)}, opParts ps = some r → Rels (fun (x : Nat × EV) (y : Nat × Value) => x.1 = y.1 ∧ x.2.rel E y.2) ps vs → Rels (fun (x : Nat × AV) (y : Nat × Value) => x.1 = y.1 ∧ x.2.rel E y.2) r vs
  | [], [], r, h, _ => by
    obtain rfl := Option.some.inj h
    trivial
  | (i, .a x) :: ps, v :: vs, r, h, hr => by
    obtain ⟨l, hl, rfl⟩ := Option.map_eq_some_iff.1 h
    exact ⟨hr.1, opParts_rel hl hr.2⟩
  | (i, .tup x) :: ps, _, r, h, _ => by cases h
  | [], _ :: _, _, _, hr => hr.elim
  | (_, .a _) :: _, [], _, _, hr => hr.elim

def evBuild (C : Ctx) (t : TypeId) (parts : List (Nat × EV)) : Option EV :=
  (C.tab t).bind fun e => (litAV e.zero).bind fun z => (opParts parts).bind fun ps =>
    match e.und with
    | .struct fs => if fs.toList.all (fun f => (C.tab f.type).isSome) = true then (evFill (fun i => (fs[i]?).map fun f => (f.offset, ((C.tab f.type).map (·.size)).getD 0)) z.cells ps).map fun cs => .a (.agg cs) else none
    | .array _ el => (C.tab el).bind fun ee => (evFill (fun i => some (i * ee.size, ee.size)) z.cells ps).map fun cs => .a (.agg cs)
    | _ => none
theorem evBuild_run {C : Ctx} (hC : C.Ok) {E : Env} {w : World} {t : TypeId} {parts : List (Nat × EV)} {vs : Array (Nat × Value)} {r : EV} (he : evBuild C t parts = some r) (hp : Rels (fun (x : Nat × EV) (y : Nat × Value) => x.1 = y.1 ∧ x.2.rel E y.2) parts vs.toList) :
    Reads C E w (Instr.build t vs) r := by
  obtain ⟨e, h1, he⟩ := Option.bind_eq_some_iff.1 he
  obtain ⟨z, h2, he⟩ := Option.bind_eq_some_iff.1 he
  obtain ⟨ps, h3, he⟩ := Option.bind_eq_some_iff.1 he
  have ht := hC.tab t e h1
  have hz := AV.cells_rel (litAV_rel (E := E) h2)
  have hps := opParts_rel h3 hp
  split at he
  · rename_i fs hu
    split at he
    · rename_i hall
      obtain ⟨cs, hcs, rfl⟩ := Option.map_eq_some_iff.1 he
      obtain ⟨arr, ha, hr⟩ := evFill_run hcs hps hz
      have hru := ht.run_und w
      rw [hu] at hru
      have hm : (fs.mapM (fun f => (do pure (f.offset, ← sizeOf f.type) : Sem (Nat × Nat)))).run C.P w = .ok (fs.map fun f => (f.offset, ((C.tab f.type).map (·.size)).getD 0)) w := by
        rw [Array.mapM_eq_mapM_toList, Sem.run_map, run_mapM' (g := fun f => (f.offset, ((C.tab f.type).map (·.size)).getD 0)) fs.toList (fun f hf => ?_)]
        · simp only [Result.andThen_ok]
          rw [← Array.toList_map]
        · obtain ⟨ef, hef⟩ := Option.isSome_iff_exists.1 (List.all_eq_true.1 hall f hf)
          simp [(hC.tab _ _ hef).run_size w, hef]
      refine ⟨.agg arr, ?_, arr.toList, by simp, hr⟩
      simp only [Instr.build, Sem.run_bind, ht.run_zero w, Result.andThen_ok, hru, hm, Array.getElem?_map]
      rw [ha]
      rfl
    · cases he
  · rename_i n el hu
    obtain ⟨ee, h4, he⟩ := Option.bind_eq_some_iff.1 he
    obtain ⟨cs, hcs, rfl⟩ := Option.map_eq_some_iff.1 he
    obtain ⟨arr, ha, hr⟩ := evFill_run hcs hps hz
    have hru := ht.run_und w
    rw [hu] at hru
    refine ⟨.agg arr, ?_, arr.toList, by simp, hr⟩
    simp only [Instr.build, Sem.run_bind, ht.run_zero w, Result.andThen_ok, hru, (hC.tab _ _ h4).run_size w]
    rw [ha]
    rfl
  · cases he

/-! ### Rows of zeros -/
def zeroL (zs : List SV) (n : Nat) : List SV := (List.range n).map fun j => (zs[j % zs.length]?).getD .nilp
theorem zero_rel {E : Env} {zs : List SV} {zv : Array Value} (hz : Rels (SV.rel E) zs zv.toList) (hs : 0 < zs.length) (n : Nat) : Rels (SV.rel E) (zeroL zs n) ((Array.range n).map (fun j => zv[j % zv.size]!)).toList := by
  have hl := hz.length
  rw [Array.length_toList] at hl
  refine Rels.of_get (by simp [zeroL]) (fun i a b ha hb => ?_)
  have hi : i < n := by
    have := (List.getElem?_eq_some_iff.1 ha).1
    simpa [zeroL] using this
  simp only [zeroL, List.getElem?_map, List.getElem?_range hi, Option.map_some, Option.some.injEq] at ha
  rw [Array.toList_map, List.getElem?_map, Array.toList_range, List.getElem?_range hi] at hb
  simp only [Option.map_some, Option.some.injEq] at hb
  have hlt : i % zs.length < zs.length := Nat.mod_lt _ hs
  obtain ⟨v, hv, hrel⟩ := hz.get (i % zs.length) zs[i % zs.length] (List.getElem?_eq_getElem hlt)
  rw [← ha, ← hb, List.getElem?_eq_getElem hlt]
  rw [Array.getElem?_toList] at hv
  have hlt2 : i % zv.size < zv.size := by rw [hl]; exact hlt
  rw [getElem!_pos zv (i % zv.size) hlt2]
  have : zv[i % zv.size]? = some v := by rw [hl]; exact hv
  rw [Array.getElem?_eq_getElem hlt2] at this
  obtain rfl := Option.some.inj this
  exact hrel

def evBuildSlice (C : Ctx) (h : T Blk) (nx : Nat) (t : TypeId) (len : Nat) (parts : List (Nat × EV)) : Option Res :=
  (C.tab t).bind fun e =>
    match e.und with
    | .slice el => (C.tab el).bind fun ee => (litAV ee.zero).bind fun z => (opParts parts).bind fun ps =>
      if len * ee.size ≤ 2 ^ 24 ∧ 0 < z.cells.length ∧ 0 < ee.size then (evFill (fun i => some (i * ee.size, ee.size)) (zeroL z.cells (len * ee.size)) ps).map fun cs => (.a (.s (.sl nx 0 len (some len) 0)), h.set nx (.cells el none (Cells.ofList cs) false), nx + 1) else none
    | _ => none
theorem evBuildSlice_run {C : Ctx} (hC : C.Ok) {E : Env} {h : T Blk} {nx : Nat} {w : World} {t : TypeId} {len : Nat} {parts : List (Nat × EV)} {vs : Array (Nat × Value)} {r : Res} (he : evBuildSlice C h nx t len parts = some r)
    (hp : Rels (fun (x : Nat × EV) (y : Nat × Value) => x.1 = y.1 ∧ x.2.rel E y.2) parts vs.toList) : Runs C E h nx w (Instr.buildSlice t len vs) r := by
  intro hr _ hf
  obtain ⟨e, h1, he⟩ := Option.bind_eq_some_iff.1 he
  split at he
  · rename_i el hu
    obtain ⟨ee, h2, he⟩ := Option.bind_eq_some_iff.1 he
    obtain ⟨z, h3, he⟩ := Option.bind_eq_some_iff.1 he
    obtain ⟨ps, h4, he⟩ := Option.bind_eq_some_iff.1 he
    split at he
    · rename_i hn
      obtain ⟨cs, hcs, rfl⟩ := Option.map_eq_some_iff.1 he
      have hru := (hC.tab t e h1).run_und w
      rw [hu] at hru
      have hte := hC.tab el ee h2
      have hz := AV.cells_rel (litAV_rel (E := E) h3)
      have hlz : ee.zero.cells.size = z.cells.length := by
        have := hz.length
        rwa [Array.length_toList] at this
      obtain ⟨arr, ha, hrel⟩ := evFill_run hcs (opParts_rel h4 hp) (zero_rel hz hn.2.1 (len * ee.size))
      obtain ⟨hs, hg⟩ := Cells.ofList_rel hrel
      rw [Array.toArray_toList] at hs hg
      obtain ⟨hrow, hgoes⟩ := HRel.run_row (P := C.P) hr (fresh1 hf) el hs hg
      refine ⟨_, _, _, ?_, hgoes, _, Env.put_at _ _ _, Nat.le_refl _, rfl⟩
      simp only [Instr.buildSlice, Sem.run_bind, hru, Result.andThen_ok, hte.run_size w, Sem.run_ite, run_unsupported]
      rw [if_neg (by omega)]
      by_cases h0 : len * ee.size = 0
      · rw [if_pos h0]
        have e0 : (Array.map (fun x => (#[] : Array Value)[x % (#[] : Array Value).size]!) (Array.range (len * ee.size))) = (Array.map (fun j => ee.zero.cells[j % ee.zero.cells.size]!) (Array.range (len * ee.size))) := by rw [h0]; simp
        simp only [Sem.run_pure, Result.andThen_ok, e0]
        rw [ha]
        simp only [Sem.run_bind, hrow, Result.andThen_ok, Sem.run_pure, Nat.add_zero]
      · rw [if_neg h0]
        simp only [hte.run_zero w, Sem.run_pure, Result.andThen_ok]
        rw [ha]
        simp only [Sem.run_bind, hrow, Result.andThen_ok, Sem.run_pure, Nat.add_zero]
    · cases he
  · cases he

/-- A row of n zero cells. -/
def zeroCells (zs : List SV) (n : Nat) : Cells :=
  match zs with
  | [] => ⟨0, .nilp, .nil⟩
  | z :: r => if r.all (SV.same z) = true then ⟨n, z, .nil⟩ else Cells.ofList (zeroL (z :: r) n)
theorem zeroCells_rel {E : Env} {zs : List SV} {zv : Array Value} (hz : Rels (SV.rel E) zs zv.toList) (hs : 0 < zs.length) (n : Nat) :
    (zeroCells zs n).n = n ∧ ∀ j, j < n → ∃ v, ((Array.range n).map (fun j => zv[j % zv.size]!))[j]? = some v ∧ ((zeroCells zs n).get j).rel E v := by
  have hrel := zero_rel hz hs n
  have hlen : (zeroL zs n).length = n := by simp [zeroL]
  unfold zeroCells
  split
  · simp at hs
  · rename_i z r
    split
    · rename_i ha
      refine ⟨rfl, fun j hj => ?_⟩
      obtain ⟨v, hv, h2⟩ := hrel.get j ((zeroL (z :: r) n)[j]'(by omega)) (List.getElem?_eq_getElem _)
      rw [Array.getElem?_toList] at hv
      refine ⟨v, hv, ?_⟩
      have e : (zeroL (z :: r) n)[j]'(by omega) = z := by
        simp only [zeroL, List.getElem_map, List.getElem_range]
        have hlt : j % (z :: r).length < (z :: r).length := Nat.mod_lt _ hs
        rw [List.getElem?_eq_getElem hlt]
        show (z :: r)[j % (z :: r).length] = z
        generalize j % (z :: r).length = q at hlt
        cases q with
        | zero => rfl
        | succ q => exact (SV.same_eq (List.all_eq_true.1 ha _ (List.getElem_mem (by simpa using hlt)))).symm
      rw [e] at h2
      exact h2
    · obtain ⟨h1, h2⟩ := Cells.ofList_rel hrel
      rw [Array.toArray_toList] at h1 h2
      refine ⟨by rw [Cells.ofList_n, hlen], fun j hj => h2 j (by rw [Cells.ofList_n, hlen]; exact hj)⟩

def evMakeSlice (C : Ctx) (h : T Blk) (nx : Nat) (t : TypeId) : EV → EV → Option Res
  | .a (.s (.int kl l)), .a (.s (.int kc c)) =>
    (C.tab t).bind fun e =>
      match e.und with
      | .slice el => (C.tab el).bind fun ee => (litAV ee.zero).bind fun z =>
        if 0 ≤ l ∧ l ≤ c ∧ c < 2 ^ 62 ∧ ee.bytes * c ≤ 2 ^ 48 ∧ 0 < z.cells.length ∧ 0 < ee.size then
          some (.a (.s (.sl nx 0 l.toNat (some c.toNat) 0)), h.set nx (.cells el none (zeroCells z.cells (c.toNat * ee.size)) false), nx + 1)
        else none
      | _ => none
  | _, _ => none
theorem wrap_small {n : Int} (h0 : 0 ≤ n) (h1 : n < 2 ^ 62) : IntKind.i64.wrap n = n := by
  have e : n % (2 ^ IntKind.i64.bits : Int) = n := Int.emod_eq_of_lt h0 (by show n < 2 ^ 64; omega)
  show (if (IntKind.i64.signed && decide (n % (2 ^ IntKind.i64.bits : Int) ≥ (2 ^ (IntKind.i64.bits - 1) : Int))) = true then n % (2 ^ IntKind.i64.bits : Int) - (2 ^ IntKind.i64.bits : Int) else n % (2 ^ IntKind.i64.bits : Int)) = n
  simp only [e]
  have e2 : ¬ n ≥ (2 ^ (IntKind.i64.bits - 1) : Int) := by show ¬ n ≥ 2 ^ 63; omega
  simp only [e2, decide_false, Bool.and_false, Bool.false_eq_true, if_false]
theorem evMakeSlice_run {C : Ctx} (hC : C.Ok) {E : Env} {h : T Blk} {nx : Nat} {w : World} {t : TypeId} {x y : EV} {v u : Value} {r : Res} (he : evMakeSlice C h nx t x y = some r) (hx : x.rel E v) (hy : y.rel E u) : Runs C E h nx w (Instr.makeSlice t v u) r := by
  intro hr _ hf
  unfold evMakeSlice at he
  split at he
  · rename_i kl l kc c
    obtain ⟨e, h1, he⟩ := Option.bind_eq_some_iff.1 he
    split at he
    · rename_i el hu
      obtain ⟨ee, h2, he⟩ := Option.bind_eq_some_iff.1 he
      obtain ⟨z, h3, he⟩ := Option.bind_eq_some_iff.1 he
      split at he
      · rename_i hn
        obtain ⟨n0, n1, n2, n3, n4, n5⟩ := hn
        obtain rfl := Option.some.inj he
        obtain rfl := hx
        obtain rfl := hy
        have hru := (hC.tab t e h1).run_und w
        rw [hu] at hru
        have hte := hC.tab el ee h2
        obtain ⟨i, hinfo, _, hby, _⟩ := hte.run_info w
        have hz := AV.cells_rel (litAV_rel (E := E) h3)
        obtain ⟨hzn, hzr⟩ := zeroCells_rel hz n4 (c.toNat * ee.size)
        obtain ⟨hrow, hgoes⟩ := HRel.run_row (P := C.P) hr (fresh1 hf) el (c := zeroCells z.cells (c.toNat * ee.size)) (cs := (Array.range (c.toNat * ee.size)).map (fun j => ee.zero.cells[j % ee.zero.cells.size]!)) (by rw [hzn]; simp) (fun j hj => hzr j (by rw [hzn] at hj; exact hj))
        have hwl : IntKind.i64.wrap l = l := wrap_small n0 (by omega)
        have hwc : IntKind.i64.wrap c = c := wrap_small (by omega) n2
        refine ⟨.slice (some ⟨w.heap.size, 0, none⟩) l.toNat c.toNat, _, _, ?_, hgoes, _, Env.put_at _ _ _, by omega, rfl⟩
        simp only [Instr.makeSlice, Sem.run_bind, hru, Result.andThen_ok, asInt, asIntOf, Sem.run_pure, hinfo, hwl, hwc]
        have c1 : (decide (c < 0) || decide (((i.bytes : Nat) : Int) * c > 2 ^ 48)) = false := by
          rw [hby]
          simp only [Bool.or_eq_false_iff, decide_eq_false_iff_not]
          omega
        rw [if_neg (by rw [c1]; simp; omega)]
        simp only [Sem.run_bind, run_askRoom, Result.andThen_ok, hte.run_size w, Sem.run_ite, Sem.run_pure, hte.run_zero w]
        by_cases h0 : c.toNat * ee.size = 0
        · rw [if_pos h0]
          have e0 : (Array.map (fun x => (#[] : Array Value)[x % (#[] : Array Value).size]!) (Array.range (c.toNat * ee.size))) = (Array.map (fun j => ee.zero.cells[j % ee.zero.cells.size]!) (Array.range (c.toNat * ee.size))) := by rw [h0]; simp
          simp only [Result.andThen_ok, e0, hrow, Sem.run_pure]
        · rw [if_neg h0]
          simp only [Result.andThen_ok, hrow, Sem.run_pure]
      · cases he
    · cases he
  · cases he

end Go.Proofs.YtoehfadjpficiaaGreat.Ev
