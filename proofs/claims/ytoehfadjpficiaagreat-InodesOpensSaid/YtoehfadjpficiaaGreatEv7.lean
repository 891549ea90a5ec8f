/- The evaluator: append, copy, len, min, max. -/
import Derived.Test.YtoehfadjpficiaaGreatEv6
import Derived.Lib.Strings
namespace Go.Proofs.YtoehfadjpficiaaGreat.Ev
open Go Go.RowKit
set_option linter.unusedVariables false
set_option linter.unusedSimpArgs false

/-- The elements that a slice or a text holds: their number, and their cells. -/
def evSrc (h : T Blk) (size : Nat) : EV → Option (Nat × List SV)
  | .a (.s .nils) => some (0, [])
  | .a (.s (.slz _)) => some (0, [])
  | .a (.s (.sl i o len _ _)) =>
    match h.get i with
    | some (.cells _ _ c _) => if o + len * size ≤ c.n then some (len, c.list o (len * size)) else none
    | _ => none
  | .a (.s (.str s)) => if size = 1 then some (s.size, s.data.toList.map fun b => .int .u8 b.toNat) else none
  | _ => none
/-- The first m of them. -/
theorem evSrc_run {C : Ctx} {E : Env} {h : T Blk} {w : World} {size : Nat} {x : EV} {v : Value} {n : Nat} {cs : List SV} (he : evSrc h size x = some (n, cs)) (hr : HRel E h w) (hx : x.rel E v) :
    (Builtin.lenOf v).run C.P w = .ok n w ∧ cs.length = n * size ∧ ∀ m, m ≤ n → ∃ vs : List Value, Rels (SV.rel E) (cs.take (m * size)) vs ∧ ∀ w2 : World, w2.heap = w.heap → (Builtin.firstCells size m v).run C.P w2 = .ok vs.toArray w2 := by
  unfold evSrc at he
  split at he
  · obtain rfl := hx
    cases he
    refine ⟨rfl, by simp, fun m hm => ⟨[], by simp [Rels], fun w2 _ => rfl⟩⟩
  · obtain ⟨a, c, rfl⟩ := SV.slz_form hx
    cases he
    refine ⟨rfl, by simp, fun m hm => ⟨[], by simp [Rels], fun w2 _ => ?_⟩⟩
    obtain rfl : m = 0 := by omega
    simp only [Builtin.firstCells, Nat.zero_mul]
    rfl
  · rename_i i o len q k
    split at he
    · rename_i t opn c fz hb
      split at he
      · rename_i hn
        obtain ⟨p, cp, hp, _, rfl⟩ := SV.sl_form hx
        cases he
        refine ⟨rfl, by rw [Cells.list_length], fun m hm => ?_⟩
        have hle : m * size ≤ n * size := Nat.mul_le_mul_right _ hm
        obtain ⟨vs, h1, h2, h3⟩ := hr.read hb hp o (m * size) (by omega)
        refine ⟨vs, ?_, fun w2 hw => ?_⟩
        rotate_left
        · have h4 := run_loadCells_list (P := C.P) w2 ⟨p.blk, p.dl + o, none⟩ vs (fun j v hv => by
            rw [add_eq]
            have := h3 j v hv
            unfold World.cell? at this ⊢
            rw [hw]
            exact this)
          rw [h1] at h4
          exact h4
        have e : (c.list o (n * size)).take (m * size) = c.list o (m * size) := by
          apply List.ext_getElem?
          intro j
          by_cases hj : j < m * size
          · rw [List.getElem?_take_of_lt hj, Cells.list_get c _ _ _ (by omega), Cells.list_get c _ _ _ hj]
          · rw [List.getElem?_eq_none (by rw [List.length_take, Cells.list_length]; omega), List.getElem?_eq_none (by rw [Cells.list_length]; omega)]
        rw [e]
        exact h2
      · cases he
    · cases he
  · rename_i s
    split at he
    · rename_i hs
      subst hs
      obtain rfl := hx
      cases he
      refine ⟨rfl, by simp, fun m hm => ⟨((s.extract 0 m).data.toList.map fun b => .int .u8 b.toNat), ?_, fun w2 _ => ?_⟩⟩
      rotate_left
      · simp only [Builtin.firstCells, Sem.run_pure]
        congr 1
        apply Array.toList_inj.1
        simp
      · refine Rels.of_get ?_ (fun j a b ha hb => ?_)
        · rw [List.length_map, List.length_take, List.length_map, Lib.extract_data]
          simp
        · rw [Nat.mul_one, List.getElem?_take] at ha
          split at ha
          · rename_i hj
            rw [List.getElem?_map] at ha hb
            rw [Lib.extract_data, List.drop_zero, Nat.sub_zero, List.getElem?_take_of_lt hj] at hb
            cases hq : s.data.toList[j]? with
            | none => rw [hq] at ha; cases ha
            | some z =>
              rw [hq] at ha hb
              obtain rfl := Option.some.inj ha
              obtain rfl := Option.some.inj hb
              rfl
          · cases ha
    · cases he
  · cases he

/-- A bound on what a slice grows to. -/
theorem growBy_le (n : Nat) : ∀ (r c : Nat), c ≤ 2 * n + 1000 → Builtin.growBy n r c ≤ 2 * n + 1000
  | 0, c, h => h
  | r + 1, c, h => by
    unfold Builtin.growBy
    split
    · exact h
    · exact growBy_le n r _ (by omega)
theorem nextcap_le {need old : Nat} (h : old < need) : Builtin.nextslicecap need old ≤ 2 * need + 1000 := by
  unfold Builtin.nextslicecap
  split
  · omega
  · split
    · omega
    · exact growBy_le need 4 old (by omega)

structure AppT where
  el : TypeId
  ee : TE
  z : AV
def evAppT (C : Ctx) (ts : Array TypeId) : Option AppT :=
  (ts[0]?).bind fun t0 => (ts[1]?).bind fun t1 => (C.tab t0).bind fun e0 => (C.tab t1).bind fun e1 =>
    match e0.und, e1.und with
    | .slice _, .int _ => none
    | .slice el, _ => (C.tab el).bind fun ee => (litAV ee.zero).bind fun z => if 0 < ee.size ∧ 0 < ee.bytes ∧ z.cells.length = ee.size then some ⟨el, ee, z⟩ else none
    | _, _ => none

/-- A new row for a slice that has no room. -/
def evGrow (h : T Blk) (nx : Nat) (A : AppT) (need : Nat) (cs : List SV) : Res := (.a (.s (.sl nx 0 need none 0)), h.set nx (.cells A.el (some A.ee.size) (Cells.ofList cs) false), nx + 1)
def evAppend (C : Ctx) (h : T Blk) (nx : Nat) (ts : Array TypeId) (s x : EV) : Option Res :=
  (evAppT C ts).bind fun A => (evSrc h A.ee.size x).bind fun q =>
    match s with
    | .a (.s .nils) => if q.1 = 0 then some (s, h, nx) else if Builtin.nextslicecap q.1 0 * A.ee.bytes ≤ 2 ^ 48 then some (evGrow h nx A q.1 q.2) else none
    | .a (.s (.slz (some 0))) => if q.1 = 0 then some (s, h, nx) else if Builtin.nextslicecap q.1 0 * A.ee.bytes ≤ 2 ^ 48 then some (evGrow h nx A q.1 q.2) else none
    | .a (.s (.slz _)) => if q.1 = 0 then some (s, h, nx) else none
    | .a (.s (.sl i o len (some c) k)) =>
      match h.get i with
      | some (.cells t opn cl fz) =>
        if len + q.1 ≤ c then (if o + len * A.ee.size + q.1 * A.ee.size ≤ cl.n then some (.a (.s (.sl i o (len + q.1) (some c) 0)), h.set i (.cells t opn (cl.puts (o + len * A.ee.size) q.2) fz), nx) else none)
        else if o + len * A.ee.size ≤ cl.n ∧ Builtin.nextslicecap (len + q.1) c * A.ee.bytes ≤ 2 ^ 48 then some (evGrow h nx A (len + q.1) (cl.list o (len * A.ee.size) ++ q.2)) else none
      | _ => none
    | .a (.s (.sl i o len none k)) =>
      if q.1 = 0 then some (s, h, nx) else
      match h.get i with
      | some (.cells t (some sz) cl fz) =>
        if t = A.el ∧ sz = A.ee.size ∧ o = k * sz ∧ o + len * sz ≤ cl.n ∧ (2 * (len + q.1) + 1000) * A.ee.bytes ≤ 2 ^ 48 ∧ i ≠ nx then
          some (.a (.s (.sl nx 0 (len + q.1) none 0)), (h.del i).set nx (.cells A.el (some sz) (Cells.ofList (cl.list o (len * sz) ++ q.2)) fz), nx + 1)
        else none
      | _ => none
    | _ => none

theorem draw_heap (w : World) (n : Nat) : ({ w with drawn := n } : World).heap = w.heap := rfl

/-- The row that append makes: what was there, what is new, and zeros. -/
theorem grow_row {C : Ctx} {E : Env} {h : T Blk} {nx : Nat} {w : World} (hr : HRel E h w) (hn : E.m nx = none) (A : AppT) {need : Nat} {cs : List SV} {vs : List Value} (hcs : Rels (SV.rel E) cs vs) (hl : cs.length = need * A.ee.size) {newCap : Nat} (hc : need ≤ newCap) {rest : Array Value} (hrest : rest.size = (newCap - need) * A.ee.size) {arr : Array Value} (ha : arr = vs.toArray ++ rest) {w' : World} (hw : w' = { w with heap := w.heap.push (.cells arr A.el) }) :
    ∃ E', Goes E h nx w E' (evGrow h nx A need cs).2.1 (nx + 1) w' ∧ (evGrow h nx A need cs).1.rel E' (.slice (some ⟨w.heap.size, 0, none⟩) need newCap) := by
  subst hw
  subst ha
  have hvl := hcs.length
  have hmul : need * A.ee.size + (newCap - need) * A.ee.size = newCap * A.ee.size := by rw [← Nat.add_mul]; congr 1; omega
  refine ⟨_, Goes.new hr hn ⟨w.heap.size, 0, newCap⟩ rfl ⟨vs.toArray ++ rest, 0, 0, rfl, {
    fz := fun _ => ⟨rfl, rfl⟩
    free := fun _ _ => by omega
    room := fun sz hsz => by
      obtain rfl := Option.some.inj hsz
      rw [Array.size_append, hrest]
      simp only [List.size_toArray]
      omega
    fits := by
      rw [Array.size_append, Cells.ofList_n]
      simp only [List.size_toArray]
      omega
    dl := fun h => by cases h
    get := fun j hj => by
      obtain ⟨_, h2⟩ := Cells.ofList_rel hcs
      obtain ⟨v, hv, hrel⟩ := h2 j hj
      rw [Cells.ofList_n] at hj
      refine ⟨v, ?_, SV.ext (Env.ext_put hn) hrel⟩
      rw [Nat.zero_add, Array.getElem?_append_left (by simp; omega)]
      exact hv }⟩, ⟨w.heap.size, 0, newCap⟩, Env.put_at _ _ _, by show need + 0 ≤ newCap; omega, rfl⟩


theorem run_appT {C : Ctx} (hC : C.Ok) {ts : Array TypeId} {A : AppT} (h : evAppT C ts = some A) : ∃ t0 t1 e0 e1, ts[0]? = some t0 ∧ ts[1]? = some t1 ∧ C.tab t0 = some e0 ∧ C.tab t1 = some e1 ∧ e0.und = .slice A.el ∧ (∀ k, e1.und ≠ .int k) ∧ C.tab A.el = some A.ee ∧ litAV A.ee.zero = some A.z ∧ 0 < A.ee.size ∧ 0 < A.ee.bytes ∧ A.z.cells.length = A.ee.size := by
  unfold evAppT at h
  obtain ⟨t0, h0, h⟩ := Option.bind_eq_some_iff.1 h
  obtain ⟨t1, h1, h⟩ := Option.bind_eq_some_iff.1 h
  obtain ⟨e0, g0, h⟩ := Option.bind_eq_some_iff.1 h
  obtain ⟨e1, g1, h⟩ := Option.bind_eq_some_iff.1 h
  cases hu : e0.und <;> rw [hu] at h <;> try (cases h; done)
  rename_i el
  have hint : ∀ k, e1.und ≠ .int k := fun k hk => by rw [hk] at h; cases h
  have h' : ((C.tab el).bind fun ee => (litAV ee.zero).bind fun z => if 0 < ee.size ∧ 0 < ee.bytes ∧ z.cells.length = ee.size then some (⟨el, ee, z⟩ : AppT) else none) = some A := by
    cases hv : e1.und <;> rw [hv] at h <;> first | exact h | exact absurd hv (hint _)
  obtain ⟨ee, h2, h'⟩ := Option.bind_eq_some_iff.1 h'
  obtain ⟨z, h3, h'⟩ := Option.bind_eq_some_iff.1 h'
  split at h'
  · rename_i hn
    obtain rfl := Option.some.inj h'
    exact ⟨t0, t1, e0, e1, h0, h1, g0, g1, hu, hint, h2, h3, hn⟩
  · cases h'

section
variable {C : Ctx} (hC : C.Ok) {ts : Array TypeId} {A : AppT} (hA : evAppT C ts = some A) {w : World} {ty : TypeId} {base : Option Addr} {len cap n : Nat} {vx : Value}
include hC hA

theorem append_room {w' : World} {news : List Value} (hn : (Builtin.lenOf vx).run C.P w = .ok n w) (hr : len + n ≤ cap) (hf : (Builtin.firstCells A.ee.size n vx).run C.P w = .ok news.toArray w)
    (hs : match base with | some a => (storeCells (a.add (len * A.ee.size)) news).run C.P w = .ok () w' | none => w' = w) :
    (Builtin.append_ ts ty #[.slice base len cap, vx]).run C.P w = .ok (.slice base (len + n) cap) w' := by
  obtain ⟨t0, t1, e0, e1, h0, h1, g0, g1, hu, hint, g2, hz, hsz0, hb, hl⟩ := run_appT hC hA
  have r0 := (hC.tab _ _ g0).run_und w
  rw [hu] at r0
  have r1 := (hC.tab _ _ g1).run_und w
  have hsz := (hC.tab _ _ g2).run_size w
  have hnz : (match e1.und with | .int _ => true | _ => false) = false := by
    cases hv : e1.und <;> first | rfl | exact absurd hv (hint _)
  unfold Builtin.append_
  simp only [h0, h1, List.getElem?_toArray, List.getElem?_cons_zero, List.getElem?_cons_succ, Sem.run_bind, r0, r1, hsz, Result.andThen_ok, Sem.run_pure, hnz, Bool.false_eq_true, if_false, hn, Bool.not_false, if_true, hr, hf]
  cases base with
  | none =>
    simp only at hs
    subst hs
    rfl
  | some a =>
    simp only at hs
    simp only [hs, Sem.run_bind, Result.andThen_ok, Sem.run_pure]

theorem append_grow {olds news : List Value} (hn : (Builtin.lenOf vx).run C.P w = .ok n w) (hr : cap < len + n) (hcap : Builtin.nextslicecap (len + n) cap * A.ee.bytes ≤ 2 ^ 48)
    (ho : ∀ w2 : World, w2.heap = w.heap → (Builtin.firstCells A.ee.size len (.slice base len cap)).run C.P w2 = .ok olds.toArray w2) (hf : ∀ w2 : World, w2.heap = w.heap → (Builtin.firstCells A.ee.size n vx).run C.P w2 = .ok news.toArray w2) :
    ∃ newCap, len + n ≤ newCap ∧ (Builtin.append_ ts ty #[.slice base len cap, vx]).run C.P w = .ok (.slice (some ⟨w.heap.size, 0, none⟩) (len + n) newCap)
      { ({ w with drawn := w.drawn + 1 } : World) with heap := w.heap.push (.cells (olds.toArray ++ news.toArray ++ Builtin.zeroCells A.ee.zero.cells (newCap - (len + n))) A.el) } := by
  obtain ⟨t0, t1, e0, e1, h0, h1, g0, g1, hu, hint, g2, hz, hsz0, hb, hl⟩ := run_appT hC hA
  have r0 := (hC.tab _ _ g0).run_und w
  rw [hu] at r0
  have r1 := (hC.tab _ _ g1).run_und w
  have hsz := (hC.tab _ _ g2).run_size w
  obtain ⟨i, hi, _, hby, hzr⟩ := (hC.tab _ _ g2).info
  have hnz : (match e1.und with | .int _ => true | _ => false) = false := by
    cases hv : e1.und <;> first | rfl | exact absurd hv (hint _)
  have hle : ¬ len + n ≤ cap := by omega
  have hcap' : ¬ (Builtin.nextslicecap (len + n) cap * i.bytes > 2 ^ 48) := by rw [hby]; omega
  have hfo : (Question.appendCap (len + n) cap A.el).forced = false := rfl
  have hbz : (i.bytes = 0) = False := by rw [hby]; simp; omega
  have ho' := ho { w with drawn := w.drawn + 1 } rfl
  have hf' := hf { w with drawn := w.drawn + 1 } rfl
  refine ⟨(Question.appendCap (len + n) cap A.el).cut (w.tape w.drawn (.appendCap (len + n) cap A.el)), by simp only [Question.cut]; omega, ?_⟩
  unfold Builtin.append_
  simp only [h0, h1, List.getElem?_toArray, List.getElem?_cons_zero, List.getElem?_cons_succ, Sem.run_bind, r0, r1, hsz, Result.andThen_ok, Sem.run_pure, hnz, Bool.false_eq_true, if_false, hn, Bool.not_false, if_true, hle, typeInfo, run_program, hi, hbz, or_self, and_false, hcap', run_choose, hfo, run_askRoom, ho', hf', zeroValue, hzr, newRow, run_newObj]
end

end Go.Proofs.YtoehfadjpficiaaGreat.Ev
