/- Texts of this seat joined into one: EvQ, Rd, M0, M1, H0, Ab, Rs, Rh, EvR, Ri, Qf, Qg, Rf, EvW, Mp, Rl. -/
import Derived.Test.YtcnimekhpnejlaaGreatVB3
import Derived.WalkKit
import Derived.Maps.Ext
import Derived.Maps.RangeWalk
import Derived.Lib.SlMapFilter
import Derived.Test.YtcnimekhpnejlaaGreatVB0
import Derived.Lib.Index

/- Calls told beforehand: of functions that change what lies behind a handle, and of functions that only make blocks. -/
namespace Go.Proofs.YtcnimekhpnejlaaGreat.Ev
open Go Go.RowKit
set_option linter.unusedVariables false

/-- A step in which what lies behind one handle has changed. -/
theorem Goes.acall {E : Env} {h : T Blk} {nx : Nat} {w w' : World} (hr : HRel E h w) {i : Nat} {e e' : X} {p : Pl} (hi : h.get i = some (.abs e)) (hp : E.m i = some p) (his : E.ρ.A.is (e'.val E.ρ) p.blk w')
    (hown : ∀ k, E.ρ.A.own p.blk w' k → E.ρ.A.own p.blk w k ∨ w.heap.size ≤ k) (hos : w'.os = w.os) (htp : w'.tape = w.tape) (hou : w'.output = w.output) (hs : w.heap.size ≤ w'.heap.size)
    (hk : ∀ k, k < w.heap.size → ¬ E.ρ.A.own p.blk w k → w'.heap[k]? = w.heap[k]?) : Goes E h nx w E (h.set i (.abs e')) nx w' := by
  have hget : ∀ j b, (h.set i (.abs e')).get j = some b → (j = i ∧ b = .abs e') ∨ (j ≠ i ∧ h.get j = some b) := fun j b hj => by
    rw [T.get_set] at hj
    by_cases e2 : j = i
    · rw [if_pos e2] at hj
      exact .inl ⟨e2, (Option.some.inj hj).symm⟩
    · rw [if_neg e2] at hj
      exact .inr ⟨e2, hj⟩
  have hd : p.dl = 0 := by
    obtain ⟨o, _, h1⟩ := hr.blk hi hp
    exact h1
  have hlt : ∀ j b q, h.get j = some b → E.m j = some q → q.blk < w.heap.size := fun j b q hj hq => by
    obtain ⟨o, ho, _⟩ := hr.blk hj hq
    exact lt_of_heap ho
  have hfar : ∀ j b q, h.get j = some b → E.m j = some q → j ≠ i → ¬ E.ρ.A.own p.blk w q.blk := fun j b q hj hq hne => hr.abs.far i e p j b q hi hp hj hq hne
  have hold : ∀ j e2 q, h.get j = some (.abs e2) → E.m j = some q → j ≠ i → E.ρ.A.is (e2.val E.ρ) q.blk w' ∧ ∀ k, E.ρ.A.own q.blk w' k ↔ E.ρ.A.own q.blk w k := fun j e2 q hj hq hne =>
    E.ρ.A.keep _ _ w w' (hr.abs.ab j e2 q hj hq) (fun k ho => hk k (E.ρ.A.lt _ _ _ (hr.abs.ab j e2 q hj hq) k ho) (hr.abs.apart j e2 q i e p hj hq hi hp (Ne.symm hne) k ho)) hs
  have hpl : p.blk < w'.heap.size := E.ρ.A.lt _ _ _ his _ (E.ρ.A.self _ _ _ his)
  exact {
    ext := Ext.refl E
    out := fun _ _ => rfl
    le := Nat.le_refl _
    rel := ⟨fun j b hj => by
        rcases hget j b hj with ⟨rfl, rfl⟩ | ⟨hne, hj⟩
        · exact ⟨p, _, hp, Array.getElem?_eq_getElem hpl, hd⟩
        · obtain ⟨q, o, hq, ho, h2⟩ := hr.at_ j b hj
          exact ⟨q, o, hq, by rw [hk _ (lt_of_heap ho) (hfar j b q hj hq hne)]; exact ho, h2⟩,
      fun j k b c q r hj hk2 hq hr2 e2 => by
        have live : ∀ j b, (h.set i (.abs e')).get j = some b → ∃ b', h.get j = some b' := fun j b hj => by
          rcases hget j b hj with ⟨rfl, rfl⟩ | ⟨_, hj⟩
          · exact ⟨_, hi⟩
          · exact ⟨_, hj⟩
        obtain ⟨b', hb'⟩ := live j b hj
        obtain ⟨c', hc'⟩ := live k c hk2
        exact hr.inj j k b' c' q r hb' hc' hq hr2 e2,
      ⟨fun j e2 q hj hq => by
          rcases hget j _ hj with ⟨rfl, h2⟩ | ⟨hne, hj⟩
          · obtain rfl : e2 = e' := by injection h2
            rw [hp] at hq
            obtain rfl := Option.some.inj hq
            exact his
          · exact (hold j e2 q hj hq hne).1,
        fun j e2 q k c r hj0 hq hk0 hr2 hne ho => by
          rcases hget j _ hj0 with ⟨hji, h2⟩ | ⟨hnj, hj⟩
          · rw [hji, hp] at hq
            obtain rfl := Option.some.inj hq
            rcases hget k _ hk0 with ⟨hki, _⟩ | ⟨hnk, hk2⟩
            · exact hne (hki.trans hji.symm)
            · rcases hown _ ho with h3 | h3
              · exact hfar k c r hk2 hr2 hnk h3
              · have := hlt k c r hk2 hr2
                omega
          · have ho := ((hold j e2 q hj hq hnj).2 _).1 ho
            rcases hget k _ hk0 with ⟨hki, _⟩ | ⟨_, hk2⟩
            · rw [hki] at hr2
              exact hr.abs.far j e2 q i _ r hj hq hi hr2 (Ne.symm hnj) ho
            · exact hr.abs.far j e2 q k c r hj hq hk2 hr2 hne ho,
        fun j e2 q k e3 r hj0 hq hk0 hr2 hne n ho1 ho2 => by
          have cross : ∀ k e3 r, h.get k = some (.abs e3) → E.m k = some r → k ≠ i → E.ρ.A.own p.blk w' n → ¬ E.ρ.A.own r.blk w' n := fun k e3 r hk2 hr2 hnk h1 h2 => by
            have h2 := ((hold k e3 r hk2 hr2 hnk).2 _).1 h2
            rcases hown _ h1 with h3 | h3
            · exact hr.abs.apart i e p k e3 r hi hp hk2 hr2 hnk n h3 h2
            · have := E.ρ.A.lt _ _ _ (hr.abs.ab k e3 r hk2 hr2) _ h2
              omega
          rcases hget j _ hj0 with ⟨hji, h2⟩ | ⟨hnj, hj⟩
          · rw [hji, hp] at hq
            obtain rfl := Option.some.inj hq
            rcases hget k _ hk0 with ⟨hki, _⟩ | ⟨hnk, hk2⟩
            · exact hne (hki.trans hji.symm)
            · exact cross k e3 r hk2 hr2 hnk ho1 ho2
          · rcases hget k _ hk0 with ⟨hki, _⟩ | ⟨hnk, hk2⟩
            · rw [hki, hp] at hr2
              obtain rfl := Option.some.inj hr2
              exact cross j e2 q hj hq hnj ho2 ho1
            · exact hr.abs.apart j e2 q k e3 r hj hq hk2 hr2 hne n (((hold j e2 q hj hq hnj).2 _).1 ho1) (((hold k e3 r hk2 hr2 hnk).2 _).1 ho2)⟩⟩
    frame := ⟨hos, htp, hou, hs, fun k hk2 hn => hk k hk2 (fun ho => hn (.abs hi hp ho))⟩
    ids := fun j b hj => by
      rcases hget j b hj with ⟨rfl, _⟩ | ⟨_, hj⟩
      · exact .inl ⟨_, hi⟩
      · exact .inl ⟨_, hj⟩
    own := fun j b q hj hq => by
      rcases hget j b hj with ⟨rfl, _⟩ | ⟨_, hj⟩
      · exact .inl ⟨_, _, q, hi, hq, rfl⟩
      · exact .inl ⟨_, _, q, hj, hq, rfl⟩
    uown := fun j e2 q hj hq k ho => by
      rcases hget j _ hj with ⟨rfl, h2⟩ | ⟨hne, hj⟩
      · rw [hp] at hq
        obtain rfl := Option.some.inj hq
        exact (hown k ho).imp (fun h => .abs hi hp h) id
      · exact .inl (.abs hj hq (((hold j e2 q hj hq hne).2 k).1 ho)) }

theorem Goes.below {E : Env} {h : T Blk} {nx : Nat} {w w' : World} (hr : HRel E h w) (b : Below w.heap.size w w') : Goes E h nx w E h nx w' := by
  obtain ⟨hA, hO⟩ := hr.abs.carry (E' := E) (h' := h) (w' := w') rfl b.size (fun j e q hj hq k hk => b.block k (E.ρ.A.lt _ _ _ (hr.abs.ab j e q hj hq) k hk)) (fun _ _ _ hj hq => ⟨hj, hq⟩) (fun j c q hj hq => .inl ⟨c, hj, hq⟩)
  exact {
    ext := Ext.refl E
    out := fun _ _ => rfl
    le := Nat.le_refl _
    rel := ⟨fun i c hc => by
      obtain ⟨p, o, h1, h2, h3⟩ := hr.at_ i c hc
      exact ⟨p, o, h1, by rw [b.block _ (lt_of_heap h2)]; exact h2, h3⟩, hr.inj, hA⟩
    frame := ⟨b.os, b.tape, b.output, b.size, fun k hk _ => b.block k hk⟩
    ids := fun i c hc => .inl ⟨c, hc⟩
    own := fun i c p hc hp => .inl ⟨i, c, p, hc, hp, rfl⟩
    uown := fun i e p hi hp k hk => .inl (.abs hi hp ((hO i e p hi hp k).1 hk)) }

/-! ### Functions on a handle -/
/-- What a function on a handle answers, and what lies behind the handle then. -/
def AOk (P : Program) (ρ : Rho) (g : Nat) (e : X) (args : List EV) (v : EV) (e' : X) : Prop :=
  ∀ (E : Env), E.ρ = ρ → ∀ (a : Nat) (w : World) (vs : List Value), ρ.A.is (e.val ρ) a w → Rels (EV.rel E) args vs →
    Calls P g (.pointer (some ⟨a, 0, none⟩) :: vs).toArray w fun en w' => ∃ u, en = .returned u ∧ v.rel E u ∧ ρ.A.is (e'.val ρ) a w' ∧ (∀ k, ρ.A.own a w' k → ρ.A.own a w k ∨ w.heap.size ≤ k) ∧
      w'.os = w.os ∧ w'.tape = w.tape ∧ w'.output = w.output ∧ w.heap.size ≤ w'.heap.size ∧ ∀ k, k < w.heap.size → ¬ ρ.A.own a w k → w'.heap[k]? = w.heap[k]?
def sumA (rule : Nat → X → List EV → Option (EV × X)) : Call := fun g args h nx =>
  match args with
  | .a (.s (.ptr i 0)) :: rest =>
    match h.get i with
    | some (.abs e) => (rule g e rest).map fun r => (r.1, h.set i (.abs r.2), nx)
    | _ => none
  | _ => none
theorem sumA_ok {C : Ctx} {rule : Nat → X → List EV → Option (EV × X)} (hrule : ∀ g e args r, rule g e args = some r → AOk C.P C.ρ g e args r.1 r.2) : CallOk C (sumA rule) := by
  intro g args h nx r he E w vs hr hρ hf hargs
  unfold sumA at he
  split at he
  · rename_i i rest
    split at he
    · rename_i e hi
      obtain ⟨q, hq, rfl⟩ := Option.map_eq_some_iff.1 he
      match vs, hargs with
      | v :: vs, hargs =>
        obtain ⟨⟨p, hp, rfl⟩, hrest⟩ := hargs
        obtain ⟨o, _, hd⟩ := hr.blk hi hp
        have hd : p.dl = 0 := hd
        have his := hr.abs.ab i e p hi hp
        rw [hρ] at his
        rw [hd]
        refine (hrule g e rest q hq E hρ p.blk w vs his hrest).mono fun en w' ⟨u, h1, h2, h3, h4, h5, h6, h7, h8, h9⟩ => ?_
        rw [← hρ] at h3 h4 h9
        exact ⟨u, E, h1, Goes.acall hr hi hp h3 h4 h5 h6 h7 h8 h9, h2⟩
    · cases he
  · cases he
/-- What a function answers that leaves all that lay there. -/
def POk (P : Program) (ρ : Rho) (g : Nat) (args : List EV) (v : EV) : Prop :=
  ∀ (E : Env), E.ρ = ρ → ∀ (w : World) (vs : List Value), Rels (EV.rel E) args vs → Calls P g vs.toArray w fun en w' => ∃ u, en = .returned u ∧ v.rel E u ∧ Below w.heap.size w w'
def sumP (rule : Nat → List EV → Option EV) : Call := fun g args h nx => (rule g args).map fun v => (v, h, nx)
theorem sumP_ok {C : Ctx} {rule : Nat → List EV → Option EV} (hrule : ∀ g args v, rule g args = some v → POk C.P C.ρ g args v) : CallOk C (sumP rule) := by
  intro g args h nx r he E w vs hr hρ hf hargs
  obtain ⟨v, hv, rfl⟩ := Option.map_eq_some_iff.1 he
  exact (hrule g args v hv E hρ w vs hargs).mono fun en w' ⟨u, h1, h2, h3⟩ => ⟨u, E, h1, Goes.below hr h3, h2⟩
def sumOr (a b : Call) : Call := fun g args h nx =>
  match a g args h nx with
  | some r => some r
  | none => b g args h nx
theorem sumOr_ok {C : Ctx} {a b : Call} (ha : CallOk C a) (hb : CallOk C b) : CallOk C (sumOr a b) := by
  intro g args h nx r he
  unfold sumOr at he
  split at he
  · rename_i r' h1
    obtain rfl := Option.some.inj he
    exact ha g args h nx _ h1
  · exact hb g args h nx r he
end Go.Proofs.YtcnimekhpnejlaaGreat.Ev

/- Rules of opaque maps, and for values of blocks: what the evaluator computes with. -/
namespace Go.Proofs.YtcnimekhpnejlaaGreat.Ev
open Go
/-- A block of a text's first 256 bytes. -/
def blkX (e : X) : List SV := (List.range 256).map fun (j : Nat) => SV.xi .u8 (.byte e (.li j))
def blk0 : List SV := List.replicate 256 (.int .u8 0)
def zeroB : ByteArray := ⟨(List.replicate 256 (0 : UInt8)).toArray⟩
def asBlk (l : List SV) : Option X :=
  match l with
  | .xi .u8 (.byte e _) :: _ => if l = blkX e then some e else none
  | .int .u8 0 :: _ => if l = blk0 then some (.ls zeroB) else none
  | _ => none
def inI64 (pc : List (X × Bool)) : X → Bool
  | .li n => decide (-9223372036854775808 ≤ n ∧ n ≤ 9223372036854775807)
  | e => decide (truL pc (.app 902 e) = some true)
/-- What an opaque map says of a number. -/
def rOlk (pc : List (X × Bool)) (t : TypeId) (e : X) (ls : List (X × Nat)) (y : SV) : Option EV :=
  (asI y).bind fun q =>
    if q.1 = .i64 then
      if t = 157 then
        match ls with
        | [] => if inI64 pc q.2 = true then (truL pc (.app 900 (.cons e q.2))).map fun b => if b = true then .tup [.agg (blkX (.app 20 (.cons e q.2))), .s (.bool true)] else .tup [.agg blk0, .s (.bool false)] else none
        | _ => none
      else if t = 105 then
        match ls with
        | [(.li 0, _)] => if inI64 pc q.2 = true ∧ truL pc (.app 900 (.cons e q.2)) = some false then some (.tup [.s .nilp, .s (.bool false)]) else none
        | [(k, i), (.li 0, _)] => if k = q.2 ∧ truL pc (.eq k (.li 0)) = some false then some (.tup [.s (.ptr i 0), .s (.bool true)]) else none
        | _ => none
      else none
    else none
def rOup (pc : List (X × Bool)) (t : TypeId) (e : X) (ls : List (X × Nat)) (y : SV) (v : EV) : Option (X × List (X × Nat)) :=
  (asI y).bind fun q =>
    if q.1 = .i64 then
      if t = 157 then
        match v, ls with
        | .a (.agg l), [] => if truL pc (.lt q.2 (.li 0)) = some false ∧ truL pc (.lt q.2 (.li 4096)) = some true then (asBlk l).map fun b => (.app 21 (.cons e (.cons q.2 b)), []) else none
        | _, _ => none
      else if t = 105 then
        match v, ls with
        | .a (.s (.ptr i 0)), [(.li 0, j)] => if truL pc (.lt q.2 (.li 1)) = some false ∧ truL pc (.lt (.li 4096) q.2) = some false then some (e, [(q.2, i), (.li 0, j)]) else none
        | .a (.s (.ptr i 0)), [(k, _), (.li 0, j)] => if k = q.2 ∧ truL pc (.lt q.2 (.li 1)) = some false ∧ truL pc (.lt (.li 4096) q.2) = some false then some (e, [(k, i), (.li 0, j)]) else none
        | _, _ => none
      else none
    else none
end Go.Proofs.YtcnimekhpnejlaaGreat.Ev

/- Words for memory: a world that has changed but for some blocks; maps with whole numbers for keys, as functions. -/
namespace Go.Proofs.YtcnimekhpnejlaaGreat
open Go Go.RowKit Go.ChangeMaps
set_option linter.unusedVariables false

/-- w' is as w was, but for the blocks of U and new ones. -/
structure But (U : Nat → Prop) (w w' : World) : Prop where
  os : w'.os = w.os
  tape : w'.tape = w.tape
  output : w'.output = w.output
  size : w.heap.size ≤ w'.heap.size
  block : ∀ k, k < w.heap.size → ¬ U k → w'.heap[k]? = w.heap[k]?

def none_ : Nat → Prop := fun _ => False
/-- The blocks of U, and those that are new. -/
def more (U : Nat → Prop) (w w' : World) : Nat → Prop := fun k => U k ∨ (w.heap.size ≤ k ∧ k < w'.heap.size)

section
variable {U V : Nat → Prop} {w w1 w' : World}
theorem But.refl (U : Nat → Prop) (w : World) : But U w w := ⟨rfl, rfl, rfl, Nat.le_refl _, fun _ _ _ => rfl⟩
theorem But.trans (h : But U w w1) (k : But (more U w w1) w1 w') : But U w w' :=
  ⟨k.os.trans h.os, k.tape.trans h.tape, k.output.trans h.output, Nat.le_trans h.size k.size, fun i hi hn =>
    (k.block i (Nat.lt_of_lt_of_le hi h.size) (fun e => e.elim hn (fun e => by omega))).trans (h.block i hi hn)⟩
theorem But.mono (h : But U w w') (hs : ∀ k, k < w.heap.size → U k → V k) : But V w w' := ⟨h.os, h.tape, h.output, h.size, fun k hk hn => h.block k hk (fun e => hn (hs k hk e))⟩
theorem But.andB (h : But U w w1) (k : But U w1 w') : But U w w' := h.trans (k.mono fun _ _ e => .inl e)
theorem But.below {B : Nat} (h : But U w w') (hB : ∀ k, k < B → ¬ U k) (hs : B ≤ w.heap.size) : Below B w w' := ⟨h.os, h.tape, h.output, h.size, fun k hk => h.block k (by omega) (hB k hk)⟩
theorem But.of_below {B : Nat} (h : Below B w w') (hU : ∀ k, B ≤ k → k < w.heap.size → U k) : But U w w' := ⟨h.os, h.tape, h.output, h.size, fun k hk hn => h.block k (Nat.lt_of_not_le fun hb => hn (hU k hb hk))⟩
theorem But.new (h : Below w.heap.size w w') : But U w w' := .of_below h (fun k h1 h2 => by omega)
theorem But.grown {row : Option Nat} (h : w.grownBy w' row) (hU : ∀ k, some k = row → U k) : But U w w' := ⟨h.os, h.tape, h.output, h.size, fun k hk hn => h.block k hk (fun e => hn (hU k e))⟩
theorem But.alloc (h : But U w w') (o : Obj) : But U w (w'.alloc o) := h.trans (.new ((Below.refl _ _).alloc (Nat.le_refl _) o))
theorem But.drew (h : But U w w') : But U w w'.drew := ⟨h.os, h.tape, h.output, h.size, h.block⟩
theorem But.setCell (h : But U w w') {p : Addr} (hp : p.block < w.heap.size → U p.block) (v : Value) : But U w (w'.setCell p v) :=
  ⟨h.os, h.tape, h.output, by simp [World.setCell, h.size], fun k hk hn => (Below.heap_setCell _ _ _ _ (fun e => by subst e; exact hn (hp hk))).trans (h.block k hk hn)⟩
theorem more_lt (h : ∀ k, U k → k < w.heap.size) (hs : w.heap.size ≤ w'.heap.size) : ∀ k, more U w w' k → k < w'.heap.size := fun k e => e.elim (fun e => Nat.lt_of_lt_of_le (h k e) hs) (fun e => e.2)
end

/-! ### Elements of maps -/
/-- How the elements of a map lie in their values. -/
structure Elem (α : Type) where
  ok : α → Prop
  val : α → Value
  enc : α → DataW Unit
  R : Value → Option (DataW Unit × List MemPlace)
  to : ∀ a, ok a → R (val a) = some (enc a, [])
  of : ∀ v d, R v = some d → ∃ a, ok a ∧ v = val a ∧ d = (enc a, [])
  inj : ∀ a b, enc a = enc b → a = b

/-- A pointer to the head of a block. -/
def elPtr : Elem Nat where
  ok := fun _ => True
  val := fun b => .pointer (some ⟨b, 0, none⟩)
  enc := fun b => .lit (.int .i64 b)
  R := fun v => match v with
    | .pointer (some ⟨b, 0, none⟩) => some (.lit (.int .i64 b), [])
    | _ => none
  to := fun _ _ => rfl
  of := fun v d h => by
    split at h
    · exact ⟨_, trivial, rfl, (Option.some.inj h).symm⟩
    · cases h
  inj := fun a b h => by
    injection h with h
    injection h with _ h
    exact Int.ofNat.inj h

def byteV (b : UInt8) : Value := .int .u8 b.toNat
def byteOf : Value → Option UInt8
  | .int .u8 n => if 0 ≤ n ∧ n < 256 then some (UInt8.ofNat n.toNat) else none
  | _ => none
theorem byteOf_byteV (b : UInt8) : byteOf (byteV b) = some b := by
  have := b.toNat_lt
  simp only [byteOf, byteV]
  rw [if_pos (by omega)]
  simp
theorem byteV_byteOf {v : Value} {b : UInt8} (h : byteOf v = some b) : v = byteV b := by
  unfold byteOf at h
  split at h
  · rename_i n
    split at h
    · obtain rfl := Option.some.inj h
      unfold byteV
      congr 1
      rw [UInt8.toNat_ofNat']
      omega
    · cases h
  · cases h
def bytesOf : List Value → Option (List UInt8)
  | [] => some []
  | v :: vs => (byteOf v).bind fun b => (bytesOf vs).map fun l => b :: l
theorem bytesOf_mk : ∀ l : List UInt8, bytesOf (l.map byteV) = some l
  | [] => rfl
  | b :: l => by simp [bytesOf, byteOf_byteV, bytesOf_mk l]
theorem bytesOf_inv : ∀ {vs : List Value} {l : List UInt8}, bytesOf vs = some l → vs = l.map byteV
  | [], l, h => by obtain rfl := Option.some.inj h; rfl
  | v :: vs, l, h => by
    obtain ⟨b, hb, h⟩ := Option.bind_eq_some_iff.1 h
    obtain ⟨l', hl, rfl⟩ := Option.map_eq_some_iff.1 h
    rw [byteV_byteOf hb, bytesOf_inv hl]
    rfl
/-- The cells of bytes. -/
def cellsB (l : List UInt8) : Array Value := (l.map byteV).toArray
theorem cellsB_size (l : List UInt8) : (cellsB l).size = l.length := by simp [cellsB]
theorem cellsB_one (l : List UInt8) : (cellsB l).all (·.oneCell') = true := by
  refine Array.all_eq_true_iff_forall_mem.2 (fun v hv => ?_)
  unfold cellsB at hv
  rw [List.mem_toArray] at hv
  obtain ⟨b, _, rfl⟩ := List.mem_map.1 hv
  rfl
/-- A block of bytes. -/
def elBlk : Elem (List UInt8) where
  ok := fun l => l.length = 256
  val := fun l => .agg (cellsB l)
  enc := fun l => .lit (.string l)
  R := fun v => match v with
    | .agg cs => (bytesOf cs.toList).bind fun l => if l.length = 256 then some (.lit (.string l), []) else none
    | _ => none
  to := fun l h => by
    show (bytesOf (cellsB l).toList).bind _ = _
    rw [show (cellsB l).toList = l.map byteV by simp [cellsB], bytesOf_mk]
    simp [h]
  of := fun v d h => by
    split at h
    · rename_i cs
      obtain ⟨l, hl, h⟩ := Option.bind_eq_some_iff.1 h
      split at h
      · rename_i h256
        refine ⟨l, h256, ?_, (Option.some.inj h).symm⟩
        have e := bytesOf_inv hl
        show Value.agg cs = .agg (cellsB l)
        congr 1
        apply Array.toList_inj.1
        rw [e]
        simp [cellsB]
      · cases h
    · cases h
  inj := fun a b h => by
    injection h with h
    injection h

/-! ### Maps with whole numbers for keys -/
section
variable {α : Type} {E : Elem α} {P : Program} {k : TypeId} {w w' : World} {b N : Nat} {f : Int → Option α}

def i64 (i : Int) : Prop := -9223372036854775808 ≤ i ∧ i ≤ 9223372036854775807
theorem i64_wf {i : Int} (h : i64 i) : (Lit.int .i64 i).wf = true := by
  have h1 := h.1
  have h2 := h.2
  have e1 : IntKind.i64.min = -9223372036854775808 := rfl
  have e2 : IntKind.i64.max = 9223372036854775807 := rfl
  simp only [Lit.wf, e1, e2]
  simp
  omega

/-- Block b is a map of at most N entries: at each key what f says. -/
def MapI (E : Elem α) (P : Program) (k : TypeId) (w : World) (b N : Nat) (f : Int → Option α) : Prop :=
  ∃ D, w.ownsMap P k E.R b N D ∧ (∀ kl, Maps.has D kl = true → ∃ i, i64 i ∧ kl = .int .i64 i) ∧
    (∀ i, i64 i → Maps.has D (.int .i64 i) = (f i).isSome) ∧ (∀ i a, f i = some a → i64 i ∧ E.ok a ∧ ∀ z, D.atKey (.int .i64 i) z = E.enc a)

theorem ownsMap_of {R : Value → Option (DataW Unit × List MemPlace)} {D : DataW Unit} (h : w.ownsMap P k R b N D) (e : w'.heap[b]? = w.heap[b]?) : w'.ownsMap P k R b N D := by
  obtain ⟨es, clock, hb, r⟩ := h
  exact ⟨es, clock, e.trans hb, r⟩
theorem MapI.kept (h : MapI E P k w b N f) (e : w'.heap[b]? = w.heap[b]?) : MapI E P k w' b N f := by
  obtain ⟨D, ho, r⟩ := h
  exact ⟨D, ownsMap_of ho e, r⟩
theorem MapI.lt (h : MapI E P k w b N f) : b < w.heap.size := by
  obtain ⟨D, ho, _⟩ := h
  exact ho.lt
theorem MapI.is_map (h : MapI E P k w b N f) : ∃ es clock, w.heap[b]? = some (.map es clock) := by
  obtain ⟨D, ⟨es, clock, hb, _⟩, _⟩ := h
  exact ⟨es, clock, hb⟩
theorem MapI.mono (h : MapI E P k w b N f) {M : Nat} (hM : N ≤ M) : MapI E P k w b M f := by
  obtain ⟨D, ho, r⟩ := h
  exact ⟨D, ho.mono hM, r⟩
theorem MapI.made (E : Elem α) (P : Program) (k : TypeId) (w : World) : MapI E P k (w.alloc (.map #[] 0)) w.heap.size 0 (fun _ => none) :=
  ⟨.map [], World.ownsMap_made w P k E.R, fun kl h => by simp [Maps.has] at h, fun i _ => rfl, fun i a h => by cases h⟩
theorem MapI.int (h : MapI E P k w b N f) {i : Int} {a : α} (ha : f i = some a) : i64 i := by
  obtain ⟨D, _, _, _, h3⟩ := h
  exact (h3 i a ha).1

section keyed
variable {t e : TypeId} (hk : P.underlying k = some (.int .i64)) (ht : P.underlying t = some (.map k e))
include hk ht
theorem MapI.look (h : MapI E P k w b N f) {i : Int} {a : α} (ha : f i = some a) {z0 : α} (hz : (zeroValue e).run P w = .ok (E.val z0) w) (hz0 : E.ok z0) :
    (Instr.lookup t (.map (some b)) (.int .i64 i) true).run P w = .ok (.tuple #[E.val a, .bool true]) w := by
  obtain ⟨D, ho, h1, h2, h3⟩ := h
  obtain ⟨hi, hok, hat⟩ := h3 i a ha
  obtain ⟨v, ps, hrun, hv⟩ := ho.look_ok (Maps.int_keyed hk) ht hz (E.to z0 hz0) (Maps.keyOf_int_mk hk (i64_wf hi))
  obtain ⟨a', _, rfl, he⟩ := E.of _ _ hv
  rw [hat] at he
  obtain rfl := E.inj _ _ (congrArg Prod.fst he)
  rw [hrun, h2 i hi, ha]
  rfl
/-- The elements are pointers: what is not there is nil. -/
theorem MapI.look_ptr (h : MapI E P k w b N f) {i : Int} {a : α} (ha : f i = some a) {z : Value} (hz : (zeroValue e).run P w = .ok z w) :
    (Instr.lookup t (.map (some b)) (.int .i64 i) true).run P w = .ok (.tuple #[E.val a, .bool true]) w := by
  obtain ⟨D, ho, h1, h2, h3⟩ := h
  obtain ⟨hi, hok, hat⟩ := h3 i a ha
  obtain ⟨es, clock, hb, F, hs, rfl⟩ := ho
  rcases Maps.fit_look true (Maps.int_keyed hk) ht hz hb F (Maps.keyOf_int_mk hk (i64_wf hi)) with ⟨hrun, hno, hat0⟩ | ⟨e0, y, h4, h5, hrun, hRv, hat2, h6⟩
  · exfalso
    have e1 := (hat0 (.nil)).symm.trans (hat .nil)
    have e2 := (hat0 (.ptr .nil)).symm.trans (hat (.ptr .nil))
    rw [← e2] at e1
    cases e1
  · obtain ⟨a', _, hm, he⟩ := E.of _ _ hRv
    have e1 := (hat2 .nil).symm.trans (hat .nil)
    rw [he] at e1
    obtain rfl := E.inj _ _ e1
    rw [hrun, hm]
    rfl
theorem MapI.look_none (h : MapI E P k w b N f) {i : Int} (hi : i64 i) (ha : f i = none) {z : Value} (hz : (zeroValue e).run P w = .ok z w) :
    (Instr.lookup t (.map (some b)) (.int .i64 i) true).run P w = .ok (.tuple #[z, .bool false]) w := by
  obtain ⟨D, ho, h1, h2, h3⟩ := h
  have hno := h2 i hi
  rw [ha] at hno
  obtain ⟨es, clock, hb, F, hs, rfl⟩ := ho
  rcases Maps.fit_look true (Maps.int_keyed hk) ht hz hb F (Maps.keyOf_int_mk hk (i64_wf hi)) with ⟨hrun, _, _⟩ | ⟨e0, y, h4, h5, hrun, hRv, hat2, h6⟩
  · rw [hrun]
    rfl
  · exfalso
    have := Maps.has_true_of_atKey hat2
    rw [this] at hno
    cases hno
end keyed
end
end Go.Proofs.YtcnimekhpnejlaaGreat

/- Maps with whole numbers for keys: stores, deletions, copies, how many entries. -/
namespace Go.Proofs.YtcnimekhpnejlaaGreat
open Go Go.RowKit Go.ChangeMaps
set_option linter.unusedVariables false

section
variable {α : Type} {E : Elem α} {P : Program} {k : TypeId} {w w' : World} {b N : Nat} {f : Int → Option α}

def upd (f : Int → Option α) (i : Int) (a : α) : Int → Option α := fun j => if j = i then some a else f j
theorem upd_at (f : Int → Option α) (i : Int) (a : α) : upd f i a i = some a := if_pos rfl
theorem upd_ne (f : Int → Option α) {i j : Int} (a : α) (h : j ≠ i) : upd f i a j = f j := if_neg h

theorem MapI.store {t e : TypeId} (hk : P.underlying k = some (.int .i64)) (ht : P.underlying t = some (.map k e)) (h : MapI E P k w b N f) (hN : N < maxLen) {i : Int} (hi : i64 i) {a : α} (ha : E.ok a) :
    ∃ w', (Instr.mapUpdate t (.map (some b)) (.int .i64 i) (E.val a)).run P w = .ok () w' ∧ MapI E P k w' b (N + 1) (upd f i a) ∧ w.grownBy w' (some b) ∧ w'.heap.size = w.heap.size := by
  obtain ⟨D, ho, h1, h2, h3⟩ := h
  have hD : Maps.IsMap D := by
    obtain ⟨es, clock, _, _, _, rfl⟩ := ho
    exact ⟨_, rfl⟩
  obtain ⟨w', hrun, ho', hg⟩ := ho.update (Maps.int_keyed hk) ht hN (Maps.keyOf_int_mk hk (i64_wf hi)) (E.to a ha)
  have hsz : w'.heap.size = w.heap.size := by
    obtain ⟨es, clock, hb, F, hs, _⟩ := ho
    obtain ⟨es', clock', hrun2, _⟩ := Maps.fit_store (R' := E.R) (Maps.int_keyed hk) ht hb F (Nat.lt_of_le_of_lt hs hN) (fun _ _ _ _ hz => hz) (Maps.keyOf_int_mk hk (i64_wf hi)) (E.to a ha)
    rw [hrun] at hrun2
    injection hrun2 with _ hw
    rw [hw]
    simp [setBlock]
  refine ⟨w', hrun, ⟨D.put (.int .i64 i) (E.enc a), ho', fun kl hkl => ?_, fun j hj => ?_, fun j c hc => ?_⟩, hg, hsz⟩
  · by_cases e : kl = .int .i64 i
    · exact ⟨i, hi, e⟩
    · rw [Maps.has_put_other e] at hkl
      exact h1 kl hkl
  · by_cases e : j = i
    · subst e
      rw [Maps.has_put_same hD (by trivial), upd_at]
      rfl
    · rw [Maps.has_put_other (fun h => e (by injection h)), upd_ne f a e]
      exact h2 j hj
  · by_cases e : j = i
    · subst e
      rw [upd_at] at hc
      obtain rfl := Option.some.inj hc
      exact ⟨hi, ha, fun z => Maps.atKey_put_same hD (by trivial) _ z⟩
    · rw [upd_ne f a e] at hc
      obtain ⟨h4, h5, h6⟩ := h3 j c hc
      exact ⟨h4, h5, fun z => (Maps.atKey_put_other (fun h => e (by injection h)) _ z).trans (h6 z)⟩

/-- Whole numbers, each once, from a on, less than a + m: no more than m. -/
theorem nodup_range : ∀ {m : Nat} {l : List Int} (_ : l.Nodup) {a : Int} (_ : ∀ x ∈ l, a ≤ x ∧ x < a + m), l.length ≤ m
  | 0, [], _, _, _ => Nat.le_refl _
  | 0, x :: l, _, a, h => by
    have := h x (by simp)
    omega
  | m + 1, l, hn, a, h => by
    by_cases hm : (a + m) ∈ l
    · have h1 := List.length_erase_of_mem hm
      have h2 := nodup_range (m := m) (hn.erase (a + m)) (a := a) (fun x hx => by
        have h3 := (hn.mem_erase_iff).1 hx
        have h4 := h x h3.2
        have h5 := h3.1
        omega)
      omega
    · have h2 := nodup_range (m := m) hn (a := a) (fun x hx => by
        have h4 := h x hx
        have h5 : x ≠ a + m := fun e => hm (e ▸ hx)
        omega)
      omega

theorem MapI.tight (h : MapI E P k w b N f) {a : Int} {m : Nat} (hf : ∀ i c, f i = some c → a ≤ i ∧ i < a + m) (hk : P.underlying k = some (.int .i64)) : MapI E P k w b m f := by
  obtain ⟨D, ho, h1, h2, h3⟩ := h
  refine ⟨D, ?_, h1, h2, h3⟩
  obtain ⟨es, clock, hb, F, hs, hD⟩ := ho
  refine ⟨es, clock, hb, F, ?_, hD⟩
  have hp := Maps.fit_apart (Maps.int_keyed hk) F
  have hlen : (es.toList.map (WideElems.rg P k E.R)).length = es.size := by simp
  have hint : ∀ p ∈ es.toList.map (WideElems.rg P k E.R), ∃ i : Int, p.1 = .int .i64 i ∧ a ≤ i ∧ i < a + m := fun p hp2 => by
    have hh : Maps.has D p.1 = true := by
      rw [hD, Maps.has_eq]
      have hkey := (Maps.fit_keys F) p hp2
      obtain ⟨v, hv⟩ := hkey
      exact List.any_eq_true.2 ⟨p, mem_sorted.2 hp2, WideAt.sameKey_self ((Maps.int_keyed hk).key hv)⟩
    obtain ⟨i, hi, he⟩ := h1 _ hh
    rw [he, h2 i hi] at hh
    obtain ⟨c, hc⟩ := Option.isSome_iff_exists.1 hh
    exact ⟨i, he, hf i c hc⟩
  rw [← hlen]
  generalize es.toList.map (WideElems.rg P k E.R) = l at hp hint
  let g : Lit × DataW Unit → Int := fun p => match p.1 with | .int _ n => n | _ => 0
  have hn : (l.map g).Nodup := by
    rw [List.Nodup, List.pairwise_map]
    refine List.Pairwise.imp_of_mem (fun {p q} hp1 hq1 hne he => ?_) hp
    obtain ⟨i, e1, _⟩ := hint p hp1
    obtain ⟨j, e2, _⟩ := hint q hq1
    refine hne ?_
    have : i = j := by simpa [g, e1, e2] using he
    rw [e1, e2, this]
  have := nodup_range (a := a) (m := m) hn (fun x hx => by
    obtain ⟨p, hp1, rfl⟩ := List.mem_map.1 hx
    obtain ⟨i, e1, h5⟩ := hint p hp1
    simpa [g, e1] using h5)
  simpa using this

/-- What is left of a map behind a deletion. -/
def kill (f : Int → Option α) (p : Int → Bool) : Int → Option α := fun i => if p i = true then none else f i

theorem MapI.deleted {D : DataW Unit} {pd : Lit → DataW Unit → Bool} {p : Int → Bool} (hk : P.underlying k = some (.int .i64)) (hpd : ∀ i d, pd (.int .i64 i) d = p i)
    (ho : w.ownsMap P k E.R b N D) (h1 : ∀ kl, Maps.has D kl = true → ∃ i, i64 i ∧ kl = .int .i64 i) (h2 : ∀ i, i64 i → Maps.has D (.int .i64 i) = (f i).isSome) (h3 : ∀ i a, f i = some a → i64 i ∧ E.ok a ∧ ∀ z, D.atKey (.int .i64 i) z = E.enc a)
    {w' : World} (ho' : w'.ownsMap P k E.R b N (Lib.deleteFuncD pd D)) : MapI E P k w' b N (kill f p) := by
  obtain ⟨es, rfl, hap, hkeys⟩ := ho.entries (Maps.int_keyed hk)
  have hfl : ∀ q ∈ es, ∃ i, q.1 = .int .i64 i := fun q hq => by
    obtain ⟨i, _, e⟩ := h1 q.1 (List.any_eq_true.2 ⟨q, hq, WideAt.sameKey_self (hkeys q hq)⟩)
    exact ⟨i, e⟩
  have hhas : ∀ kl, Maps.has (Lib.deleteFuncD pd (.map es)) kl = true → Maps.has (DataW.map es) kl = true := fun kl h => by
    obtain ⟨q, hq, he⟩ := List.any_eq_true.1 h
    exact List.any_eq_true.2 ⟨q, (List.mem_filter.1 hq).1, he⟩
  refine ⟨_, ho', fun kl h => h1 kl (hhas kl h), fun i hi => ?_, fun i a ha => ?_⟩
  · unfold kill
    by_cases hp : p i = true
    · rw [if_pos hp]
      cases hh : Maps.has (Lib.deleteFuncD pd (.map es)) (.int .i64 i)
      · rfl
      · exfalso
        obtain ⟨q, hq, he⟩ := List.any_eq_true.1 hh
        have e := WideAt.sameKey_eq he
        have := (List.mem_filter.1 hq).2
        rw [e, hpd, hp] at this
        cases this
    · rw [if_neg hp, ← h2 i hi]
      cases hh : Maps.has (DataW.map es) (.int .i64 i)
      · cases hh2 : Maps.has (Lib.deleteFuncD pd (.map es)) (.int .i64 i)
        · rfl
        · rw [hhas _ hh2] at hh
          cases hh
      · obtain ⟨q, hq, he⟩ := List.any_eq_true.1 hh
        have e := WideAt.sameKey_eq he
        exact List.any_eq_true.2 ⟨q, List.mem_filter.2 ⟨hq, by rw [e, hpd]; simpa using hp⟩, he⟩
  · unfold kill at ha
    by_cases hp : p i = true
    · rw [if_pos hp] at ha
      cases ha
    · rw [if_neg hp] at ha
      obtain ⟨hi, hok, hat⟩ := h3 i a ha
      refine ⟨hi, hok, fun z => ?_⟩
      rw [← hat z]
      simp only [Lib.deleteFuncD, DataW.atKey]
      rw [Maps.find_filter_keep (fun q hq => by
        have e := WideAt.sameKey_eq hq
        rw [e, hpd]
        simpa using hp)]

theorem MapI.copied {D : DataW Unit} {c : Nat} (h1 : ∀ kl, Maps.has D kl = true → ∃ i, i64 i ∧ kl = .int .i64 i) (h2 : ∀ i, i64 i → Maps.has D (.int .i64 i) = (f i).isSome) (h3 : ∀ i a, f i = some a → i64 i ∧ E.ok a ∧ ∀ z, D.atKey (.int .i64 i) z = E.enc a)
    (ho : w.ownsMap P k E.R c N D) : MapI E P k w c N f := ⟨D, ho, h1, h2, h3⟩
end

/-! ### Going over a map -/
section
variable {α : Type} {E : Elem α} {P : Program} {k : TypeId} {w w' : World} {b N : Nat} {f : Int → Option α}
/-- Block r is an iterator over the map of block b; left: the keys that are still to come. -/
def RangeI (E : Elem α) (P : Program) (k : TypeId) (w : World) (b r N : Nat) (f : Int → Option α) (left : Int → Bool) (cnt : Nat) : Prop :=
  ∃ D lf, w.ranges P k E.R b r N D lf cnt ∧ (∀ kl, Maps.has D kl = true → ∃ i, i64 i ∧ kl = .int .i64 i) ∧
    (∀ i, i64 i → Maps.has D (.int .i64 i) = (f i).isSome) ∧ (∀ i a, f i = some a → i64 i ∧ E.ok a ∧ ∀ z, D.atKey (.int .i64 i) z = E.enc a) ∧ (∀ i, i64 i → lf (.int .i64 i) = left i) ∧ ∀ i, left i = true → i64 i

theorem RangeI.owns {r cnt : Nat} {left : Int → Bool} (h : RangeI E P k w b r N f left cnt) : MapI E P k w b N f := by
  obtain ⟨D, lf, hr, h1, h2, h3, _⟩ := h
  exact ⟨D, hr.owns, h1, h2, h3⟩
theorem RangeI.left_eq {r cnt : Nat} {left : Int → Bool} (h : RangeI E P k w b r N f left cnt) : w.rangeLeft b r = cnt := by
  obtain ⟨D, lf, hr, _⟩ := h
  exact hr.left_eq
theorem RangeI.kept {r cnt : Nat} {left : Int → Bool} (h : RangeI E P k w b r N f left cnt) (hb : w'.heap[b]? = w.heap[b]?) (hr : w'.heap[r]? = w.heap[r]?) : RangeI E P k w' b r N f left cnt := by
  obtain ⟨D, lf, ⟨es, clock, since, seen, c0, g1, F, g2, g3, g4, g5⟩, q⟩ := h
  exact ⟨D, lf, ⟨es, clock, since, seen, c0, hb.trans g1, F, g2, g3, hr.trans g4, g5⟩, q⟩
theorem RangeI.lt {r cnt : Nat} {left : Int → Bool} (h : RangeI E P k w b r N f left cnt) : r < w.heap.size := by
  obtain ⟨D, lf, hr, _⟩ := h
  exact hr.lt
theorem RangeI.ne {r cnt : Nat} {left : Int → Bool} (h : RangeI E P k w b r N f left cnt) : r ≠ b := by
  obtain ⟨D, lf, hr, _⟩ := h
  exact hr.ne

theorem MapI.range {t e : TypeId} (hk : P.underlying k = some (.int .i64)) (ht : P.underlying t = some (.map k e)) (h : MapI E P k w b N f) : ∃ w', (Instr.range t (.map (some b))).run P w = .ok (.pointer (some ⟨w.heap.size, 0, none⟩)) w' ∧ (∃ cnt, RangeI E P k w' b w.heap.size N f (fun i => (f i).isSome) cnt) ∧ w.grownBy w' none ∧ w'.heap.size = w.heap.size + 1 := by
  obtain ⟨D, ho, h1, h2, h3⟩ := h
  obtain ⟨w', hrun, hr, hg, hs⟩ := ho.range (Maps.int_keyed hk) ht
  refine ⟨w', hrun, ⟨_, D, _, hr, h1, h2, h3, h2, fun i hi => ?_⟩, hg, hs⟩
  obtain ⟨a, ha⟩ := Option.isSome_iff_exists.1 hi
  exact (h3 i a ha).1
theorem RangeI.next (hk : P.underlying k = some (.int .i64)) {r cnt : Nat} {left : Int → Bool} (h : RangeI E P k w b r N f left cnt) (ty : TypeId) :
    (cnt = 0 ∧ (∀ i, left i = false) ∧ (Instr.next (.pointer (some ⟨r, 0, none⟩)) false ty).run P w = .ok (.tuple #[.bool false]) w) ∨
    ∃ i a w' cnt', left i = true ∧ f i = some a ∧ (Instr.next (.pointer (some ⟨r, 0, none⟩)) false ty).run P w = .ok (.tuple #[.bool true, .int .i64 i, E.val a]) w' ∧
      RangeI E P k w' b r N f (fun j => left j && decide (j ≠ i)) cnt' ∧ cnt' < cnt ∧ w.grownBy w' (some r) ∧ w'.heap.size = w.heap.size ∧ (Instr.entry (.pointer (some ⟨r, 0, none⟩))).run P w' = .ok (.tuple #[.int .i64 i, E.val a]) w' := by
  obtain ⟨D, lf, hr, h1, h2, h3, h4, h5⟩ := h
  rcases hr.next (Maps.int_keyed hk) ty with ⟨h0, hl, hrun⟩ | ⟨key, v, kl, y, w', cnt', hkey, hlk, hv, hat, hrun, hrg, hlt, hgr, hsz, hen⟩
  · refine .inl ⟨h0, fun i => ?_, hrun⟩
    cases hi : left i
    · rfl
    · rw [← h4 i (h5 i hi), hl] at hi
      cases hi
  · have hh : Maps.has D kl = true := Maps.has_true_of_atKey hat
    obtain ⟨i, hi, rfl⟩ := h1 kl hh
    obtain ⟨x, rfl, hx, _⟩ := Maps.keyOf_int_inv hk hkey
    obtain rfl : i = x := by injection hx
    have hh2 := hh
    rw [h2 i hi] at hh2
    obtain ⟨a, ha⟩ := Option.isSome_iff_exists.1 hh2
    obtain ⟨_, hok, hat2⟩ := h3 i a ha
    obtain ⟨a', _, rfl, he⟩ := E.of _ _ hv
    have e1 := (hat .nil).symm.trans (hat2 .nil)
    rw [he] at e1
    obtain rfl := E.inj _ _ e1
    refine .inr ⟨i, a', w', cnt', by rw [← h4 i hi]; exact hlk, ha, hrun, ⟨D, _, hrg, h1, h2, h3, fun j hj => ?_, fun j hj => h5 j (by simp at hj; exact hj.1)⟩, hlt, hgr, hsz, hen⟩
    show (lf (.int .i64 j) && !(Lit.int .i64 j).sameKey (.int .i64 i)) = _
    rw [h4 j hj]
    congr 1
    simp [Lit.sameKey]
end
end Go.Proofs.YtcnimekhpnejlaaGreat

/- Inodes in memory, without a committed form: how they lie. -/
namespace Go.Proofs.YtcnimekhpnejlaaGreat
open Go Go.RowKit
set_option linter.unusedVariables false

/-- What may be: kinds, links, sizes, stamps. -/
structure Nd.Ok (N : Nd) : Prop where
  kind : N.kind = 0 ∨ N.kind = 1 ∨ N.kind = 2
  links : 0 ≤ N.links ∧ N.links ≤ 1000
  size : N.bytes.length ≤ 1048576
  off : N.kind = 0 → N = Nd.none
  dir : N.kind = 2 → N.bytes.length % 64 = 0
  stamp : 0 ≤ N.stamp ∧ N.stamp ≤ 18446744073709551615

/-- The least height that has so many leaves. -/
def heightN (n : Nat) : Nat := if n ≤ 1 then 0 else if n ≤ 4 then 1 else if n ≤ 16 then 2 else if n ≤ 64 then 3 else if n ≤ 256 then 4 else if n ≤ 1024 then 5 else 6

def sumZ : List Value := List.replicate 32 (.int .u8 0)
/-- The cells of the tree that is none. -/
def treeZ : List Value := .int .i64 0 :: .int .u32 0 :: sumZ
def inoCells (c : Value) (m : Nat) : List Value := c :: (treeZ ++ [Value.int .i64 0, Value.map (some m)])
def growCells (c : Value) (ht lim : Int) (sm : Nat) : List Value := c :: (treeZ ++ [Value.int .i64 ht, Value.int .i64 lim, Value.map (some sm)])
def workCells (n : Int) (N : Nd) (gb : Nat) : List Value := [.int .i64 n, .int .i64 N.kind, .int .i64 N.links, .int .i64 (N.bytes.length : Nat), .int .u64 N.stamp, .pointer (some ⟨gb, 0, none⟩)]

/-- A block's first cells. -/
def Row (w : World) (b : Nat) (t : TypeId) (vs : List Value) : Prop := ∃ cs, w.heap[b]? = some (.cells cs t (0, 0)) ∧ ∀ (j : Nat) v, vs[j]? = some v → cs[j]? = some v
theorem Row.kept {w w' : World} {b : Nat} {t : TypeId} {vs : List Value} (h : Row w b t vs) (e : w'.heap[b]? = w.heap[b]?) : Row w' b t vs := by
  obtain ⟨cs, h1, h2⟩ := h
  exact ⟨cs, e.trans h1, h2⟩
theorem Row.one {w : World} {b : Nat} {t t' : TypeId} {vs vs' : List Value} (h : Row w b t vs) (h' : Row w b t' vs') : t = t' ∧ ∀ (j : Nat) v v', vs[j]? = some v → vs'[j]? = some v' → v = v' := by
  obtain ⟨cs, h1, h2⟩ := h
  obtain ⟨cs', h3, h4⟩ := h'
  rw [h1] at h3
  simp only [Option.some.injEq, Obj.cells.injEq] at h3
  obtain ⟨rfl, rfl, _⟩ := h3
  refine ⟨rfl, fun j v v' a b => ?_⟩
  have := h2 j v a
  rw [h4 j v' b] at this
  exact (Option.some.inj this).symm
theorem Row.lt {w : World} {b : Nat} {t : TypeId} {vs : List Value} (h : Row w b t vs) : b < w.heap.size := by
  obtain ⟨cs, h1, _⟩ := h
  exact (Array.getElem?_eq_some_iff.1 h1).1

/-- The leaves that were set: of each place less than n what the leaf is, or, where none is, a leaf of zeros. -/
structure Leaves (f : Int → Option (List UInt8)) (n : Nat) (lf : Nat → List UInt8) : Prop where
  at_ : ∀ p : Nat, p < n → (f p).getD (zeros 256) = lf p
  past : ∀ p, n ≤ p → lf p = zeros 256
  key : ∀ i a, f i = some a → 0 ≤ i ∧ i < (n : Int)
  n : n ≤ 4096
  len : ∀ p, (lf p).length = 256

section
variable (P : Program)
/-- A grown tree without a standing one. -/
structure IsGrow (w : World) (gb sm : Nat) (n : Nat) (lf : Nat → List UInt8) : Prop where
  cell : ∃ c lim, (lim = 0 ∨ lim = 1) ∧ c.oneCell' = true ∧ Row w gb 159 (growCells c (heightN n) lim sm)
  map : ∃ f, MapI elBlk P 3 w sm 4096 f ∧ Leaves f n lf
/-- An inode that is kept. -/
structure IsWork (w : World) (n : Int) (N : Nd) (t : Nat × Nat × Nat) : Prop where
  cell : Row w t.1 100 (workCells n N t.2.1)
  grow : IsGrow P w t.2.1 t.2.2 (leavesN N.bytes.length) (leafOf N.bytes)
/-- Inodes: block x; the map of what is kept is block m; L: where each inode lies. -/
structure Inos (w : World) (x : Nat) (S : Int → Nd) (m : Nat) (L : Int → Option (Nat × Nat × Nat)) : Prop where
  cell : ∃ c, c.oneCell' = true ∧ Row w x 107 (inoCells c m)
  map : MapI elPtr P 3 w m 4096 (fun n => (L n).map (·.1))
  work : ∀ n t, L n = some t → IsWork P w n (S n) t
  off : ∀ n, L n = none → S n = Nd.none
  inj : ∀ n n' t t', L n = some t → L n' = some t' → n ≠ n' → t.1 ≠ t'.1 ∧ t.2.1 ≠ t'.2.1 ∧ t.2.2 ≠ t'.2.2
  map_ne : ∀ n t, L n = some t → t.2.2 ≠ m
  ok : ∀ n, (S n).Ok
  num : ∀ n t, L n = some t → 1 ≤ n ∧ n ≤ 4096

/-- A block is one of the inodes' own. -/
def ownBlk (x m : Nat) (L : Int → Option (Nat × Nat × Nat)) (k : Nat) : Prop := k = x ∨ k = m ∨ ∃ n t, L n = some t ∧ (k = t.1 ∨ k = t.2.1 ∨ k = t.2.2)
end

section
variable {P : Program} {w w' : World}
theorem IsGrow.kept {gb sm n : Nat} {lf : Nat → List UInt8} (h : IsGrow P w gb sm n lf) (h1 : w'.heap[gb]? = w.heap[gb]?) (h2 : w'.heap[sm]? = w.heap[sm]?) : IsGrow P w' gb sm n lf := by
  obtain ⟨⟨c, lim, hl, hc, hr⟩, f, hm, hf⟩ := h
  exact ⟨⟨c, lim, hl, hc, hr.kept h1⟩, f, hm.kept h2, hf⟩
theorem IsGrow.lt {gb sm n : Nat} {lf : Nat → List UInt8} (h : IsGrow P w gb sm n lf) : gb < w.heap.size ∧ sm < w.heap.size := by
  obtain ⟨⟨c, lim, hl, hc, hr⟩, f, hm, hf⟩ := h
  exact ⟨hr.lt, hm.lt⟩
theorem IsGrow.sm_one {gb sm sm' n n' : Nat} {lf lf' : Nat → List UInt8} (h : IsGrow P w gb sm n lf) (h' : IsGrow P w gb sm' n' lf') : sm = sm' := by
  obtain ⟨⟨c, lim, hl, hc, hr⟩, _⟩ := h
  obtain ⟨⟨c', lim', hl', hc', hr'⟩, _⟩ := h'
  have := (hr.one hr').2 37 _ _ rfl rfl
  simpa using this
theorem IsWork.kept {n : Int} {N : Nd} {t : Nat × Nat × Nat} (h : IsWork P w n N t) (h0 : w'.heap[t.1]? = w.heap[t.1]?) (h1 : w'.heap[t.2.1]? = w.heap[t.2.1]?) (h2 : w'.heap[t.2.2]? = w.heap[t.2.2]?) : IsWork P w' n N t :=
  ⟨h.cell.kept h0, h.grow.kept h1 h2⟩
theorem Inos.kept {x m : Nat} {S : Int → Nd} {L : Int → Option (Nat × Nat × Nat)} (h : Inos P w x S m L) (hk : ∀ k, ownBlk x m L k → w'.heap[k]? = w.heap[k]?) : Inos P w' x S m L where
  cell := by
    obtain ⟨c, h1, hc⟩ := h.cell
    exact ⟨c, h1, hc.kept (hk x (.inl rfl))⟩
  map := h.map.kept (hk m (.inr (.inl rfl)))
  work := fun n t ht => (h.work n t ht).kept (hk _ (.inr (.inr ⟨n, t, ht, .inl rfl⟩))) (hk _ (.inr (.inr ⟨n, t, ht, .inr (.inl rfl)⟩))) (hk _ (.inr (.inr ⟨n, t, ht, .inr (.inr rfl)⟩)))
  off := h.off
  inj := h.inj
  map_ne := h.map_ne
  ok := h.ok
  num := h.num
theorem Inos.lt {x m : Nat} {S : Int → Nd} {L : Int → Option (Nat × Nat × Nat)} (h : Inos P w x S m L) {k : Nat} (hk : ownBlk x m L k) : k < w.heap.size := by
  rcases hk with rfl | rfl | ⟨n, t, ht, rfl | rfl | rfl⟩
  · obtain ⟨c, _, hc⟩ := h.cell
    exact hc.lt
  · exact h.map.lt
  · exact (h.work n t ht).cell.lt
  · exact (h.work n t ht).grow.lt.1
  · exact (h.work n t ht).grow.lt.2
/-- A map says one thing. -/
theorem MapI.one {α : Type} {E : Elem α} {k : TypeId} {b N N' : Nat} {f f' : Int → Option α} (h : MapI E P k w b N f) (h' : MapI E P k w b N' f') : f = f' := by
  obtain ⟨D, ho, h1, h2, h3⟩ := h
  obtain ⟨D', ho', h1', h2', h3'⟩ := h'
  have hD : D = D' := by
    obtain ⟨es, clock, hb, _, _, rfl⟩ := ho
    obtain ⟨es', clock', hb', _, _, rfl⟩ := ho'
    rw [hb] at hb'
    simp only [Option.some.injEq, Obj.map.injEq] at hb'
    rw [hb'.1]
  subst hD
  have key : ∀ {f f' : Int → Option α}, (∀ i, i64 i → Maps.has D (.int .i64 i) = (f' i).isSome) → (∀ i a, f i = some a → i64 i ∧ E.ok a ∧ ∀ z, D.atKey (.int .i64 i) z = E.enc a) → (∀ i a, f' i = some a → i64 i ∧ E.ok a ∧ ∀ z, D.atKey (.int .i64 i) z = E.enc a) →
      (∀ i, i64 i → Maps.has D (.int .i64 i) = (f i).isSome) → ∀ i a, f i = some a → f' i = some a := fun {f f'} g1 g2 g3 g4 i a ha => by
    obtain ⟨hi, _, hat⟩ := g2 i a ha
    have := g4 i hi
    rw [ha, g1 i hi] at this
    obtain ⟨a', ha'⟩ := Option.isSome_iff_exists.1 this
    obtain ⟨_, _, hat'⟩ := g3 i a' ha'
    rw [ha', E.inj a' a ((hat' .nil).symm.trans (hat .nil))]
  funext i
  cases hf : f i with
  | some a => exact (key h2' h3 h3' h2 i a hf).symm
  | none =>
    cases hf' : f' i with
    | none => rfl
    | some a =>
      have := key h2 h3' h3 h2' i a hf'
      rw [hf] at this
      cases this
theorem Inos.one {x m m' : Nat} {S S' : Int → Nd} {L L' : Int → Option (Nat × Nat × Nat)} (h : Inos P w x S m L) (h' : Inos P w x S' m' L') : m = m' ∧ L = L' := by
  have hm : m = m' := by
    obtain ⟨c, _, hr⟩ := h.cell
    obtain ⟨c', _, hr'⟩ := h'.cell
    have := (hr.one hr').2 36 _ _ rfl rfl
    simpa using this
  subst hm
  refine ⟨rfl, ?_⟩
  have hf := h.map.one h'.map
  funext n
  have hn := congrFun hf n
  cases hL : L n with
  | none =>
    rw [hL] at hn
    cases hL' : L' n with
    | none => rfl
    | some t => rw [hL'] at hn; cases hn
  | some t =>
    cases hL' : L' n with
    | none => rw [hL, hL'] at hn; cases hn
    | some t' =>
      rw [hL, hL'] at hn
      have e1 : t.1 = t'.1 := Option.some.inj hn
      have w1 := h.work n t hL
      have w2 := h'.work n t' hL'
      have e2 : t.2.1 = t'.2.1 := by
        have c1 := w1.cell
        rw [e1] at c1
        have := (c1.one w2.cell).2 5 _ _ rfl rfl
        simpa using this
      have g1 := w1.grow
      rw [e2] at g1
      have e3 := g1.sm_one w2.grow
      obtain ⟨a, b, c⟩ := t
      obtain ⟨a', b', c'⟩ := t'
      simp only at e1 e2 e3
      rw [e1, e2, e3]
end
end Go.Proofs.YtcnimekhpnejlaaGreat

/- What lies behind handles: inodes, and grown trees. -/
namespace Go.Proofs.YtcnimekhpnejlaaGreat
open Go Go.RowKit
set_option linter.unusedVariables false
section
variable (P : Program)
/-- A variable of one whole number. -/
def isGlob (g m : Int) (a : Nat) (w : World) : Prop := (a : Int) = g ∧ w.heap[a]? = some (.cells #[.int .i64 m] 3 (0, 0))
def isD (d : Ev.D) (a : Nat) (w : World) : Prop :=
  match d with
  | .p (.i g) (.i m) => isGlob g m a w
  | .st (.ino S) => ∃ m L, Inos P w a S m L
  | .st (.grow n lf) => ∃ sm, IsGrow P w a sm n lf
  | _ => False
def ownD (a : Nat) (w : World) (j : Nat) : Prop := (∃ S m L, Inos P w a S m L ∧ ownBlk a m L j) ∨ (∃ n lf sm, IsGrow P w a sm n lf ∧ (j = a ∨ j = sm)) ∨ ∃ g m, isGlob g m a w ∧ j = a
variable {P} {w w' : World} {a : Nat}
theorem ino_grow {S : Int → Nd} {m : Nat} {L : Int → Option (Nat × Nat × Nat)} {n : Nat} {lf : Nat → List UInt8} {sm : Nat} (h : Inos P w a S m L) (h' : IsGrow P w a sm n lf) : False := by
  obtain ⟨c, _, h1⟩ := h.cell
  obtain ⟨⟨c', lim, _, _, h2⟩, _⟩ := h'
  exact absurd (h1.one h2).1 (by decide)
theorem isGlob.row {g m : Int} (h : isGlob g m a w) : Row w a 3 [.int .i64 m] := ⟨_, h.2, fun j v hv => by simpa using hv⟩
theorem ino_glob {S : Int → Nd} {m : Nat} {L : Int → Option (Nat × Nat × Nat)} {g k : Int} (h : Inos P w a S m L) (h' : isGlob g k a w) : False := by
  obtain ⟨c, _, h1⟩ := h.cell
  exact absurd (h1.one h'.row).1 (by decide)
theorem grow_glob {n : Nat} {lf : Nat → List UInt8} {sm : Nat} {g k : Int} (h : IsGrow P w a sm n lf) (h' : isGlob g k a w) : False := by
  obtain ⟨⟨c', lim, _, _, h2⟩, _⟩ := h
  exact absurd (h2.one h'.row).1 (by decide)
theorem ownD_ino {S : Int → Nd} {m : Nat} {L : Int → Option (Nat × Nat × Nat)} (h : Inos P w a S m L) (j : Nat) : ownD P a w j ↔ ownBlk a m L j := by
  constructor
  · rintro (⟨S', m', L', h', ho⟩ | ⟨n, lf, sm, h', ho⟩ | ⟨g, k, h', ho⟩)
    · obtain ⟨rfl, rfl⟩ := h.one h'
      exact ho
    · exact (ino_grow h h').elim
    · exact (ino_glob h h').elim
  · exact fun ho => .inl ⟨S, m, L, h, ho⟩
theorem ownD_grow {n : Nat} {lf : Nat → List UInt8} {sm : Nat} (h : IsGrow P w a sm n lf) (j : Nat) : ownD P a w j ↔ (j = a ∨ j = sm) := by
  constructor
  · rintro (⟨S', m', L', h', ho⟩ | ⟨n, lf, sm', h', ho⟩ | ⟨g, k, h', ho⟩)
    · exact (ino_grow h' h).elim
    · obtain rfl := h.sm_one h'
      exact ho
    · exact (grow_glob h h').elim
  · exact fun ho => .inr (.inl ⟨n, lf, sm, h, ho⟩)
theorem ownD_glob {g k : Int} (h : isGlob g k a w) (j : Nat) : ownD P a w j ↔ j = a := by
  constructor
  · rintro (⟨S', m', L', h', ho⟩ | ⟨n, lf, sm', h', ho⟩ | ⟨g, k, h', ho⟩)
    · exact (ino_glob h' h).elim
    · exact (grow_glob h' h).elim
    · exact ho
  · exact fun ho => .inr (.inr ⟨g, k, h, ho⟩)
theorem isGlob.lt {g k : Int} (h : isGlob g k a w) : a < w.heap.size := (Array.getElem?_eq_some_iff.1 h.2).1
theorem ownD_lt {j : Nat} (h : ownD P a w j) : j < w.heap.size := by
  rcases h with ⟨S, m, L, h, ho⟩ | ⟨n, lf, sm, h, rfl | rfl⟩ | ⟨g, k, h, rfl⟩
  · exact h.lt ho
  · exact h.lt.1
  · exact h.lt.2
  · exact h.lt
theorem isD_keep {d : Ev.D} (h : isD P d a w) (hk : ∀ j, ownD P a w j → w'.heap[j]? = w.heap[j]?) : isD P d a w' ∧ ∀ j, ownD P a w' j ↔ ownD P a w j := by
  unfold isD at h
  split at h
  · have h' := h
    refine ⟨⟨h.1, (hk a ((ownD_glob h _).2 rfl)).trans h.2⟩, fun j => (ownD_glob (⟨h.1, (hk a ((ownD_glob h _).2 rfl)).trans h.2⟩ : isGlob _ _ a w') j).trans (ownD_glob h j).symm⟩
  · obtain ⟨m, L, h⟩ := h
    have h' := h.kept fun k hk2 => hk k ((ownD_ino h k).2 hk2)
    exact ⟨⟨m, L, h'⟩, fun j => (ownD_ino h' j).trans (ownD_ino h j).symm⟩
  · obtain ⟨sm, h⟩ := h
    have h' := h.kept (hk _ ((ownD_grow h _).2 (.inl rfl))) (hk _ ((ownD_grow h _).2 (.inr rfl)))
    exact ⟨⟨sm, h'⟩, fun j => (ownD_grow h' j).trans (ownD_grow h j).symm⟩
  · exact h.elim
theorem isD_self {d : Ev.D} (h : isD P d a w) : ownD P a w a := by
  unfold isD at h
  split at h
  · exact (ownD_glob h a).2 rfl
  · obtain ⟨m, L, h⟩ := h
    exact (ownD_ino h a).2 (.inl rfl)
  · obtain ⟨sm, h⟩ := h
    exact (ownD_grow h a).2 (.inl rfl)
  · exact h.elim
end
/-- What lies behind handles. -/
def absD (P : Program) : Ev.Abs where
  is := isD P
  own := ownD P
  self := fun _ _ _ h => isD_self h
  lt := fun _ _ _ _ _ h => ownD_lt h
  keep := fun _ _ _ _ h hk _ => isD_keep h hk
/-- Opaque maps: of what is kept of inodes, some told entries (at 0: a mark), and of the leaves that were set. -/
def oqD (P : Program) (d : Ev.D) (g : Int → Option Nat) (o : Obj) : Prop :=
  match d with
  | .st (.works f) => (g 0).isSome ∧ ∀ (w : World) (b : Nat), w.heap[b]? = some o → MapI elPtr P 3 w b 4096 (fun n => if n = 0 then none else (g n).or (f n)) ∧ ∀ n a, n ≠ 0 → (g n).or (f n) = some a → 1 ≤ n ∧ n ≤ 4096
  | .st (.leaves f) => g 0 = none ∧ ∀ (w : World) (b : Nat), w.heap[b]? = some o → MapI elBlk P 3 w b 4096 f ∧ ∀ n a, f n = some a → 0 ≤ n ∧ n < 4096
  | _ => False
end Go.Proofs.YtcnimekhpnejlaaGreat

/- Calls told beforehand, of opaque maps of leaves: what the evaluator computes with. -/
namespace Go.Proofs.YtcnimekhpnejlaaGreat.Ev
open Go
def sumDel : Call := fun g args h nx =>
  if g = 71 then
    match args with
    | [.a (.s (.map i)), .a (.s (.func f [(j, 0)]))] =>
      if f = 72 ∧ j ≠ i then
        match h.get i, h.get j with
        | some (.opq e []), some (.cells _ none c false) =>
          if 1 ≤ c.n then (asI (c.get 0)).bind fun q => if q.1 = .i64 then some (.tup [], h.set i (.opq (.app 22 (.cons e q.2)) []), nx) else none
          else none
        | _, _ => none
      else none
    | _ => none
  else none
def sumClo : Call := fun g args h nx =>
  if g = 74 then
    match args with
    | [.a (.s (.map i))] =>
      match h.get i with
      | some (.opq e []) => some (.a (.s (.map nx)), h.set nx (.opq e []), nx + 1)
      | _ => none
    | _ => none
  else none
def sumG : Call := sumOr sumDel sumClo
end Go.Proofs.YtcnimekhpnejlaaGreat.Ev

/- Calls told beforehand, of grown trees behind handles: what the evaluator computes with. -/
namespace Go.Proofs.YtcnimekhpnejlaaGreat.Ev
open Go
def treeZX : List SV := [.int .i64 0, .int .u32 0] ++ List.replicate 32 (.int .u8 0)
/-- What a function on a grown tree answers, and what the tree is then. -/
def rGrow (pc : List (X × Bool)) (g : Nat) (e : X) (args : List EV) : Option (EV × X) :=
  if truL pc (.app 36 e) = some true then
    if g = 59 then
      match args with
      | [.a (.s y)] => (asI y).bind fun q => if q.1 = .i64 ∧ inI64 pc q.2 = true then (truL pc (.app 30 (.cons e q.2))).map fun b => if b = true then (.tup [.agg (blkX (.app 31 (.cons e q.2))), .s (.int .i64 0)], e) else (.tup [.agg blk0, .s (.int .i64 90)], e) else none
      | _ => none
    else if g = 60 then
      match args with
      | [.a (.s y), .a (.agg l)] => (asI y).bind fun q => if q.1 = .i64 ∧ truL pc (.app 32 (.cons e q.2)) = some true then (asBlk l).map fun b => (.a (.s (.int .i64 0)), .app 33 (.cons e (.cons q.2 b))) else none
      | _ => none
    else if g = 41 then
      match args with
      | [.a (.s y)] => (asI y).bind fun q => if q.1 = .i64 ∧ truL pc (.lt q.2 (.li 0)) = some false ∧ truL pc (.lt (.li 4096) q.2) = some false then some (.a (.s (.int .i64 0)), .app 34 (.cons e q.2)) else none
      | _ => none
    else none
  else none
def sumNew : Call := fun g args h nx =>
  if g = 68 then
    match args with
    | [.a (.s (.op 0)), .a (.agg l)] => if l = treeZX then some (.tup [.s (.ptr nx 0), .s (.int .i64 0)], h.set nx (.abs (.app 35 .nil)), nx + 1) else none
    | _ => none
  else none
def sumGClo (pc : List (X × Bool)) : Call := fun g args h nx =>
  if g = 45 then
    match args with
    | [.a (.s (.ptr i 0))] =>
      match h.get i with
      | some (.abs e) => if truL pc (.app 36 e) = some true then some (.a (.s (.ptr nx 0)), h.set nx (.abs e), nx + 1) else none
      | _ => none
    | _ => none
  else none
/-- inodes.cut. -/
def rCut (pc : List (X × Bool)) (g : Nat) (args : List EV) : Option EV :=
  if g = 61 then
    match args with
    | [.a (.agg l), .a (.s y), .a (.s z)] => (asBlk l).bind fun b => (asI y).bind fun p => (asI z).bind fun s =>
      if p.1 = .i64 ∧ s.1 = .i64 ∧ truL pc (.lt p.2 (.li 0)) = some false ∧ truL pc (.lt (.li 4096) p.2) = some false ∧ truL pc (.lt s.2 (.li 0)) = some false ∧ truL pc (.lt (.li 1048576) s.2) = some false then some (.a (.agg (blkX (.app 40 (.cons b (.cons p.2 s.2)))))) else none
    | _ => none
  else none
def sumH (pc : List (X × Bool)) : Call := sumOr (sumA (rGrow pc)) (sumOr sumNew (sumOr (sumGClo pc) (sumP (rCut pc))))
end Go.Proofs.YtcnimekhpnejlaaGreat.Ev

/- A handle that is new. -/
namespace Go.Proofs.YtcnimekhpnejlaaGreat.Ev
open Go Go.RowKit
set_option linter.unusedVariables false

theorem Goes.adopt {E E1 : Env} {h h1 : T Blk} {nx n1 : Nat} {w w' : World} (g : Goes E h nx w E1 h1 n1 w') (hn : E1.m n1 = none) {a : Nat} {e : X} (his : E1.ρ.A.is (e.val E1.ρ) a w') (hown : ∀ k, E1.ρ.A.own a w' k → w.heap.size ≤ k)
    (hdis : ∀ k, E1.ρ.A.own a w' k → ¬ Owned E1 h1 w' k) : Goes E h nx w (E1.put n1 ⟨a, 0, 0⟩) (h1.set n1 (.abs e)) (n1 + 1) w' := by
  have hnone : ∀ b, h1.get n1 ≠ some b := fun b hb => by
    obtain ⟨p, o, hp, _⟩ := g.rel.at_ n1 b hb
    rw [hn] at hp
    cases hp
  have hself := E1.ρ.A.self _ _ _ his
  have hlt := E1.ρ.A.lt _ _ _ his _ hself
  have hx := Env.ext_put (p := ⟨a, 0, 0⟩) hn
  have hget : ∀ j b, (h1.set n1 (.abs e)).get j = some b → (j = n1 ∧ b = .abs e) ∨ (j ≠ n1 ∧ h1.get j = some b) := fun j b hj => by
    rw [T.get_set] at hj
    by_cases e2 : j = n1
    · rw [if_pos e2] at hj
      exact .inl ⟨e2, (Option.some.inj hj).symm⟩
    · rw [if_neg e2] at hj
      exact .inr ⟨e2, hj⟩
  have hat : ∀ p, (E1.put n1 ⟨a, 0, 0⟩).m n1 = some p → p = ⟨a, 0, 0⟩ := fun p hp => by
    rw [Env.put_at] at hp
    exact (Option.some.inj hp).symm
  have hold : ∀ j p, j ≠ n1 → (E1.put n1 ⟨a, 0, 0⟩).m j = some p → E1.m j = some p := fun j p hj hp => by
    rw [Env.put_ne E1 _ hj] at hp
    exact hp
  have hno : ∀ j b p, h1.get j = some b → E1.m j = some p → p.blk ≠ a := fun j b p hj hp e2 => hdis a hself (e2 ▸ Owned.blk hj hp)
  exact {
    ext := g.ext.trans hx
    out := fun i hi => by
      have := g.le
      rw [Env.put_ne E1 _ (by omega), g.out i (by omega)]
    le := Nat.le_succ_of_le g.le
    rel := ⟨fun j b hj => by
        rcases hget j b hj with ⟨rfl, rfl⟩ | ⟨hne, hj⟩
        · exact ⟨⟨a, 0, 0⟩, _, Env.put_at _ _ _, Array.getElem?_eq_getElem hlt, rfl⟩
        · obtain ⟨p, o, hp, ho, hr⟩ := g.rel.at_ j b hj
          exact ⟨p, o, hx.m _ _ hp, ho, Blk.ext hx hr⟩,
      fun i j b c p q hi hj hp hq e2 => by
        rcases hget i b hi with ⟨rfl, _⟩ | ⟨hni, hi1⟩
        · obtain rfl := hat p hp
          rcases hget j c hj with ⟨rfl, _⟩ | ⟨hnj, hj⟩
          · rfl
          · exact absurd e2.symm (hno j c q hj (hold j q hnj hq))
        · rcases hget j c hj with ⟨rfl, _⟩ | ⟨hnj, hj⟩
          · obtain rfl := hat q hq
            exact absurd e2 (hno i b p hi1 (hold i p hni hp))
          · exact g.rel.inj i j b c p q hi1 hj (hold i p hni hp) (hold j q hnj hq) e2,
      ⟨fun i e2 p hi hp => by
          rcases hget i _ hi with ⟨rfl, h2⟩ | ⟨hne, hi⟩
          · obtain rfl := hat p hp
            obtain rfl : e2 = e := by injection h2
            exact his
          · exact g.rel.abs.ab i e2 p hi (hold i p hne hp),
        fun i e2 p j c q hi hp hj hq hne ho => by
          rcases hget i _ hi with ⟨hin, _⟩ | ⟨hni, hi1⟩
          · subst hin
            obtain rfl := hat p hp
            rcases hget j c hj with ⟨hjn, _⟩ | ⟨hnj, hj⟩
            · exact hne hjn
            · exact hdis _ ho (Owned.blk hj (hold j q hnj hq))
          · rcases hget j c hj with ⟨hjn, _⟩ | ⟨hnj, hj⟩
            · subst hjn
              obtain rfl := hat q hq
              exact hdis a hself (Owned.abs hi1 (hold i p hni hp) ho)
            · exact g.rel.abs.far i e2 p j c q hi1 (hold i p hni hp) hj (hold j q hnj hq) hne ho,
        fun i e2 p j e3 q hi hp hj hq hne k h2 h3 => by
          rcases hget i _ hi with ⟨hin, _⟩ | ⟨hni, hi1⟩
          · subst hin
            obtain rfl := hat p hp
            rcases hget j _ hj with ⟨hjn, _⟩ | ⟨hnj, hj⟩
            · exact hne hjn
            · exact hdis _ h2 (Owned.abs hj (hold j q hnj hq) h3)
          · rcases hget j _ hj with ⟨hjn, _⟩ | ⟨hnj, hj⟩
            · subst hjn
              obtain rfl := hat q hq
              exact hdis _ h3 (Owned.abs hi1 (hold i p hni hp) h2)
            · exact g.rel.abs.apart i e2 p j e3 q hi1 (hold i p hni hp) hj (hold j q hnj hq) hne k h2 h3⟩⟩
    frame := g.frame
    ids := fun i b hi => by
      rcases hget i b hi with ⟨rfl, _⟩ | ⟨_, hi⟩
      · exact .inr ⟨g.le, Nat.lt_succ_self _⟩
      · rcases g.ids i b hi with h | h
        · exact .inl h
        · exact .inr ⟨h.1, by omega⟩
    own := fun i b p hi hp => by
      rcases hget i b hi with ⟨rfl, _⟩ | ⟨hne, hi⟩
      · obtain rfl := hat p hp
        exact .inr (hown a hself)
      · exact g.own i b p hi (hold i p hne hp)
    uown := fun i e2 p hi hp k hk => by
      rcases hget i _ hi with ⟨rfl, _⟩ | ⟨hne, hi⟩
      · obtain rfl := hat p hp
        exact .inr (hown k hk)
      · exact g.uown i e2 p hi (hold i p hne hp) k hk }
end Go.Proofs.YtcnimekhpnejlaaGreat.Ev

/- Calls told beforehand, of inodes behind handles: what the evaluator computes with. Codes: 50 kind, 51 links, 52 size, 53 stamp (of e and n), 54 a leaf (of e, n, place), 55 set (e, n, place, block, stamp), 56 resized (e, n, size, stamp), 57 is it inodes, 58 place less than the leaves (e, n, place), 59 a stamp's range. -/
namespace Go.Proofs.YtcnimekhpnejlaaGreat.Ev
open Go
def infoZX : List SV := [.int .i64 0, .int .i64 0, .int .i64 0, .int .i64 0, .int .u64 0]
def infoX (e n : X) : List SV := [.xi .i64 n, .xi .i64 (.app 50 (.cons e n)), .xi .i64 (.app 51 (.cons e n)), .xi .i64 (.app 52 (.cons e n)), .xi .u64 (.app 53 (.cons e n))]
def inU64 (pc : List (X × Bool)) : X → Bool
  | .li n => decide (0 ≤ n ∧ n ≤ 18446744073709551615)
  | e => decide (truL pc (.app 59 e) = some true)
/-- Whether a number is one of an inode that is in use: the error. -/
def rUsed (pc : List (X × Bool)) (e n : X) : Option Int :=
  (truL pc (.eq (.app 50 (.cons e n)) (.li 0))).map fun b => if b = true then 151 else 0
def rNum (pc : List (X × Bool)) (n : X) : Option Bool :=
  (truL pc (.lt n (.li 1))).bind fun a => if a = true then some false else (truL pc (.lt (.li 4096) n)).map fun b => !b
def rIno (pc : List (X × Bool)) (g : Nat) (e : X) (args : List EV) : Option (EV × X) :=
  if truL pc (.app 57 e) = some true then
    if g = 46 then
      match args with
      | [.a (.s y)] => (asI y).bind fun n => if n.1 = .i64 ∧ inI64 pc n.2 = true then (rNum pc n.2).bind fun b =>
          if b = true then (rUsed pc e n.2).map fun r => (if r = 0 then .tup [.agg (infoX e n.2), .s (.int .i64 0)] else .tup [.agg infoZX, .s (.int .i64 r)], e)
          else some (.tup [.agg infoZX, .s (.int .i64 141)], e)
        else none
      | _ => none
    else if g = 52 then
      match args with
      | [.a (.s y), .a (.s z)] => (asI y).bind fun n => (asI z).bind fun p => if n.1 = .i64 ∧ p.1 = .i64 ∧ inI64 pc n.2 = true ∧ inI64 pc p.2 = true ∧ truL pc (.lt p.2 (.li 0)) = some false ∧ truL pc (.lt p.2 (.li 4096)) = some true ∧ rNum pc n.2 = some true ∧ rUsed pc e n.2 = some 0 then some (.tup [.agg (blkX (.app 54 (.cons e (.cons n.2 p.2)))), .s (.int .i64 0)], e) else none
      | _ => none
    else if g = 63 then
      match args with
      | [.a (.s y), .a (.s z), .a (.agg l), .a (.s t)] => (asI y).bind fun n => (asI z).bind fun p => (asI t).bind fun st => (asBlk l).bind fun b =>
        if n.1 = .i64 ∧ p.1 = .i64 ∧ st.1 = .u64 ∧ inU64 pc st.2 = true ∧ rUsed pc e n.2 = some 0 ∧ truL pc (.app 58 (.cons e (.cons n.2 p.2))) = some true then some (.a (.s (.int .i64 0)), .app 55 (.cons e (.cons n.2 (.cons p.2 (.cons b st.2))))) else none
      | _ => none
    else if g = 35 then
      match args with
      | [.a (.s y), .a (.s z), .a (.s t)] => (asI y).bind fun n => (asI z).bind fun s => (asI t).bind fun st =>
        if n.1 = .i64 ∧ s.1 = .i64 ∧ st.1 = .u64 ∧ inU64 pc st.2 = true ∧ rUsed pc e n.2 = some 0 ∧ truL pc (.lt s.2 (.li 0)) = some false ∧ truL pc (.lt (.li 1048576) s.2) = some false then
          (truL pc (.eq (.app 50 (.cons e n.2)) (.li 2))).bind fun d =>
            if d = true then (if truL pc (.eq (.bin .rem .i64 s.2 (.li 64)) (.li 0)) = some true then some (.a (.s (.int .i64 0)), .app 56 (.cons e (.cons n.2 (.cons s.2 st.2)))) else none)
            else some (.a (.s (.int .i64 0)), .app 56 (.cons e (.cons n.2 (.cons s.2 st.2))))
        else none
      | _ => none
    else none
  else none
end Go.Proofs.YtcnimekhpnejlaaGreat.Ev

/- Bytes of files: what is read and written, piece by piece. -/
namespace Go.Proofs.YtcnimekhpnejlaaGreat
set_option linter.unusedVariables false

/-- Bytes between two places. -/
def rdB (bs : List UInt8) (a b : Nat) : List UInt8 := (resizeB bs b).drop a
/-- So many bytes from a place on. -/
def readB (bs : List UInt8) (a m : Nat) : List UInt8 := (bs.drop a).take m
/-- Bytes written at a place. -/
def writeB (bs : List UInt8) (a : Nat) (s : List UInt8) : List UInt8 := if s = [] then bs else overB (resizeB bs (max bs.length (a + s.length))) a s

theorem rdB_length (bs : List UInt8) (a b : Nat) : (rdB bs a b).length = b - a := by
  unfold rdB
  rw [List.length_drop, resizeB_length]
theorem rdB_get (bs : List UInt8) (a b i : Nat) : (rdB bs a b)[i]? = if a + i < b then some ((bs[a + i]?).getD 0) else none := by
  unfold rdB
  rw [List.getElem?_drop, resizeB_get]
theorem readB_length (bs : List UInt8) (a m : Nat) : (readB bs a m).length = min m (bs.length - a) := by
  unfold readB
  rw [List.length_take, List.length_drop]
theorem readB_get (bs : List UInt8) (a m i : Nat) : (readB bs a m)[i]? = if i < m then bs[a + i]? else none := by
  unfold readB
  by_cases h : i < m
  · rw [if_pos h, List.getElem?_take_of_lt h, List.getElem?_drop]
  · rw [if_neg h, List.getElem?_eq_none]
    rw [List.length_take]
    omega
theorem rdB_read {bs : List UInt8} {a m : Nat} (h : a ≤ bs.length) : rdB bs a (a + min m (bs.length - a)) = readB bs a m := by
  apply List.ext_getElem?
  intro i
  rw [rdB_get, readB_get]
  by_cases h1 : i < min m (bs.length - a)
  · rw [if_pos (by omega), if_pos (by omega), List.getElem?_eq_getElem (by omega)]
    rfl
  · rw [if_neg (by omega)]
    split
    · rw [List.getElem?_eq_none (by omega)]
    · rfl
theorem rdB_none {bs : List UInt8} {a b : Nat} (h : b ≤ a) : rdB bs a b = [] := List.eq_nil_of_length_eq_zero (by rw [rdB_length]; omega)
theorem rdB_all (bs : List UInt8) : rdB bs 0 bs.length = bs := by
  unfold rdB resizeB
  rw [Nat.sub_self]
  simp [zeros]
theorem readB_past {bs : List UInt8} {a m : Nat} (h : bs.length ≤ a) : readB bs a m = [] := List.eq_nil_of_length_eq_zero (by rw [readB_length]; omega)

/-! ### Leaves, one behind the other -/
def leavesCat (bs : List UInt8) (f : Nat) : Nat → List UInt8
  | 0 => []
  | k + 1 => leavesCat bs f k ++ leafOf bs (f + k)
theorem leavesCat_length (bs : List UInt8) (f : Nat) : ∀ k, (leavesCat bs f k).length = 256 * k
  | 0 => rfl
  | k + 1 => by
    unfold leavesCat
    rw [List.length_append, leavesCat_length bs f k, leafOf_length]
    omega
theorem leavesCat_get (bs : List UInt8) (f : Nat) : ∀ (k i : Nat), (leavesCat bs f k)[i]? = if i < 256 * k then some ((bs[256 * f + i]?).getD 0) else none
  | 0, i => by simp [leavesCat]
  | k + 1, i => by
    unfold leavesCat
    rw [List.getElem?_append, leavesCat_length, leavesCat_get bs f k i, leafOf_get]
    by_cases h1 : i < 256 * k
    · rw [if_pos h1, if_pos h1, if_pos (by omega)]
    · rw [if_neg h1]
      by_cases h2 : i - 256 * k < 256
      · rw [if_pos h2, if_pos (by omega), show 256 * (f + k) + (i - 256 * k) = 256 * f + i by omega]
      · rw [if_neg h2, if_neg (by omega)]
theorem leavesCat_rd {bs : List UInt8} {a b k : Nat} (h : b ≤ 256 * (a / 256 + k)) : ((leavesCat bs (a / 256) k).take (b - 256 * (a / 256))).drop (a - 256 * (a / 256)) = rdB bs a b := by
  apply List.ext_getElem?
  intro i
  rw [List.getElem?_drop, rdB_get]
  by_cases h1 : a + i < b
  · rw [if_pos h1, List.getElem?_take_of_lt (by omega), leavesCat_get, if_pos (by omega), show 256 * (a / 256) + (a - 256 * (a / 256) + i) = a + i by omega]
  · rw [if_neg h1, List.getElem?_eq_none]
    rw [List.length_take]
    omega

/-! ### Laying, leaf by leaf -/
theorem lay_step {bs s : List UInt8} {a m : Nat} (hm : m = min s.length (256 - a % 256)) (h : a + s.length ≤ bs.length) {b : List UInt8} (hb : b = leafOf bs (a / 256) ∨ (m = 256 ∧ b.length = 256)) :
    setB bs (a / 256) (overB b (a % 256) (s.take m)) = overB bs a (s.take m) := by
  have hlen : b.length = 256 := by
    rcases hb with rfl | hb
    · exact leafOf_length _ _
    · exact hb.2
  have hlt : (s.take m).length = m := by rw [List.length_take]; omega
  have h1 : (overB b (a % 256) (s.take m)).length = 256 := by rw [overB_length (by omega), hlen]
  by_cases h0 : s.length = 0
  · have hs : s = [] := List.eq_nil_of_length_eq_zero h0
    subst hs
    have hb : b = leafOf bs (a / 256) := by
      rcases hb with hb | hb
      · exact hb
      · have := hb.1
        simp at hm
        omega
    have e1 : overB b (a % 256) [] = b := by simp [overB]
    have e2 : overB bs a [] = bs := by simp [overB]
    rw [List.take_nil, e1, e2]
    apply List.ext_getElem?
    intro j
    have := h
    simp at this
    rw [setB_get hlen (by omega)]
    split
    · rename_i hj
      rw [hb, leafOf_get, if_pos (by omega), show 256 * (a / 256) + (j - 256 * (a / 256)) = j by omega, List.getElem?_eq_getElem hj.2.2]
      rfl
    · rfl
  · apply List.ext_getElem?
    intro j
    rw [setB_get h1 (by omega), overB_get (by omega), overB_get (by omega), hlt]
    by_cases hj : 256 * (a / 256) ≤ j ∧ j < 256 * (a / 256) + 256 ∧ j < bs.length
    · rw [if_pos hj]
      by_cases h2 : a ≤ j ∧ j < a + m
      · rw [if_pos (by omega), if_pos h2]
        congr 1
        omega
      · rw [if_neg (by omega), if_neg h2]
        rcases hb with rfl | hb
        · rw [leafOf_get, if_pos (by omega), show 256 * (a / 256) + (j - 256 * (a / 256)) = j by omega, List.getElem?_eq_getElem hj.2.2]
          rfl
        · omega
    · rw [if_neg hj, if_neg (by omega)]
theorem overB_two {bs s : List UInt8} {a m : Nat} (hm : m ≤ s.length) (h : a + s.length ≤ bs.length) : overB (overB bs a (s.take m)) (a + m) (s.drop m) = overB bs a s := by
  have hlt : (s.take m).length = m := by rw [List.length_take]; omega
  have hld : (s.drop m).length = s.length - m := List.length_drop
  have h1 : (overB bs a (s.take m)).length = bs.length := overB_length (by omega)
  apply List.ext_getElem?
  intro j
  rw [overB_get (by omega), overB_get (by omega), overB_get (by omega), hld, hlt]
  by_cases h2 : a + m ≤ j ∧ j < a + m + (s.length - m)
  · rw [if_pos h2, if_pos (by omega), List.getElem?_drop]
    congr 1
    omega
  · rw [if_neg h2]
    by_cases h3 : a ≤ j ∧ j < a + m
    · rw [if_pos h3, if_pos (by omega), List.getElem?_take_of_lt (by omega)]
    · rw [if_neg h3, if_neg (by omega)]
theorem overB_nil (bs : List UInt8) (a : Nat) : overB bs a [] = bs := by simp [overB]

/-! ### What is written is read -/
theorem writeB_length {bs s : List UInt8} {a : Nat} (h : s ≠ []) : (writeB bs a s).length = max bs.length (a + s.length) := by
  unfold writeB
  rw [if_neg h, overB_length (by rw [resizeB_length]; omega), resizeB_length]
theorem writeB_get {bs s : List UInt8} {a : Nat} (h : s ≠ []) (j : Nat) : (writeB bs a s)[j]? = if a ≤ j ∧ j < a + s.length then s[j - a]? else if j < max bs.length (a + s.length) then some ((bs[j]?).getD 0) else none := by
  unfold writeB
  rw [if_neg h, overB_get (by rw [resizeB_length]; omega), resizeB_get]
theorem writeB_nil (s : List UInt8) : writeB [] 0 s = s := by
  by_cases h : s = []
  · rw [h]; rfl
  · apply List.ext_getElem?
    intro j
    rw [writeB_get h]
    by_cases h1 : j < s.length
    · rw [if_pos (by omega)]; rfl
    · rw [if_neg (by omega), if_neg (by simp; omega), List.getElem?_eq_none (by omega)]
theorem read_same (bs s : List UInt8) (a : Nat) : readB (writeB bs a s) a s.length = s := by
  by_cases h : s = []
  · subst h
    unfold readB
    simp
  · apply List.ext_getElem?
    intro j
    rw [readB_get, writeB_get h]
    by_cases h1 : j < s.length
    · rw [if_pos h1, if_pos (by omega)]
      congr 1
      omega
    · rw [if_neg h1, List.getElem?_eq_none (by omega)]
theorem read_before (bs s : List UInt8) {a k : Nat} (hk : k ≤ a) (hl : k ≤ bs.length) : readB (writeB bs a s) 0 k = bs.take k := by
  by_cases h : s = []
  · subst h
    unfold writeB readB
    rw [if_pos rfl]
    rfl
  · apply List.ext_getElem?
    intro j
    rw [readB_get, writeB_get h, Nat.zero_add]
    by_cases h1 : j < k
    · rw [if_pos h1, if_neg (by omega), if_pos (by omega), List.getElem?_take_of_lt h1, List.getElem?_eq_getElem (by omega)]
      rfl
    · rw [if_neg h1, List.getElem?_eq_none]
      rw [List.length_take]
      omega
theorem read_behind (bs s : List UInt8) {a k : Nat} (hk : a + s.length ≤ k) (hs : s ≠ []) (hl : a + s.length ≤ bs.length) (m : Nat) : readB (writeB bs a s) k m = readB bs k m := by
  apply List.ext_getElem?
  intro j
  rw [readB_get, readB_get, writeB_get hs]
  split
  · rw [if_neg (by omega)]
    split
    · rw [List.getElem?_eq_getElem (by omega)]
      rfl
    · rw [List.getElem?_eq_none (by omega)]
  · rfl
theorem read_cut (bs : List UInt8) (a k m : Nat) (hm : k ≤ m) : readB (resizeB (resizeB bs a) (a + k)) a m = zeros k := by
  apply List.ext_getElem?
  intro j
  rw [readB_get, resizeB_get, resizeB_get, zeros_get]
  by_cases h1 : j < k
  · rw [if_pos (by omega), if_pos (by omega), if_neg (by omega), if_pos h1]
    rfl
  · rw [if_neg h1]
    split
    · rw [if_neg (by omega)]
    · rfl
end Go.Proofs.YtcnimekhpnejlaaGreat

/- Bytes of files: what is put in and taken out. -/
namespace Go.Proofs.YtcnimekhpnejlaaGreat
set_option linter.unusedVariables false
/-- Bytes put in between others. -/
def insB (s : List UInt8) (a : Nat) (t : List UInt8) : List UInt8 := s.take a ++ t ++ s.drop a
theorem ins_length {s t : List UInt8} {a : Nat} (h : a ≤ s.length) : (insB s a t).length = s.length + t.length := by
  unfold insB
  simp only [List.length_append, List.length_take, List.length_drop]
  omega
theorem ins_get {s t : List UInt8} {a : Nat} (h : a ≤ s.length) (j : Nat) : (insB s a t)[j]? = if j < a then s[j]? else if j < a + t.length then t[j - a]? else s[j - t.length]? := by
  unfold insB
  rw [List.append_assoc, List.getElem?_append, List.length_take, Nat.min_eq_left h]
  by_cases h1 : j < a
  · rw [if_pos h1, if_pos h1, List.getElem?_take_of_lt h1]
  · rw [if_neg h1, if_neg h1, List.getElem?_append]
    by_cases h2 : j < a + t.length
    · rw [if_pos (by omega), if_pos h2]
    · rw [if_neg (by omega), if_neg h2, List.getElem?_drop]
      congr 1
      omega
theorem ins_write {s t : List UInt8} {a : Nat} (h : a ≤ s.length) : writeB s a (t ++ rdB s a s.length) = insB s a t := by
  have hl : (t ++ rdB s a s.length).length = t.length + (s.length - a) := by rw [List.length_append, rdB_length]
  by_cases h0 : t ++ rdB s a s.length = []
  · unfold writeB
    rw [if_pos h0]
    rw [h0] at hl
    simp only [List.length_nil] at hl
    have ht : t = [] := List.eq_nil_of_length_eq_zero (by omega)
    unfold insB
    rw [ht, List.append_nil, List.take_append_drop]
  · apply List.ext_getElem?
    intro j
    rw [writeB_get h0, ins_get h, hl]
    by_cases h1 : j < a
    · rw [if_neg (by omega), if_pos (by omega), if_pos h1, List.getElem?_eq_getElem (by omega)]
      rfl
    · rw [if_neg h1]
      by_cases h2 : j < a + t.length
      · rw [if_pos h2, if_pos (by omega), List.getElem?_append_left (by omega)]
      · rw [if_neg h2]
        by_cases h3 : j < a + (t.length + (s.length - a))
        · rw [if_pos (by omega), List.getElem?_append_right (by omega), rdB_get, if_pos (by omega), show a + (j - a - t.length) = j - t.length by omega, List.getElem?_eq_getElem (by omega)]
          rfl
        · rw [if_neg (by omega), if_neg (by omega), List.getElem?_eq_none (by omega)]
theorem ins_read {s t : List UInt8} {a : Nat} (h : a ≤ s.length) : readB (insB s a t) a t.length = t := by
  apply List.ext_getElem?
  intro j
  rw [readB_get, ins_get h]
  by_cases h1 : j < t.length
  · rw [if_pos h1, if_neg (by omega), if_pos (by omega)]
    congr 1
    omega
  · rw [if_neg h1, List.getElem?_eq_none (by omega)]
theorem occ_read {s t : List UInt8} {j : Nat} (h : j + t.length ≤ s.length) : Lib.occAt s t j = true ↔ readB s j t.length = t := by
  rw [Lib.occAt_iff_take s t j h]
  unfold readB
  exact beq_iff_eq
theorem least {p : Nat → Bool} : ∀ (a : Nat), p a = true → ∃ j, j ≤ a ∧ p j = true ∧ ∀ i, i < j → p i = false
  | a, h => by
    by_cases hx : ∃ i, i < a ∧ p i = true
    · obtain ⟨i, hi, hp⟩ := hx
      obtain ⟨j, h1, h2, h3⟩ := least i hp
      exact ⟨j, by omega, h2, h3⟩
    · refine ⟨a, Nat.le_refl a, h, fun i hi => ?_⟩
      cases hq : p i with
      | false => rfl
      | true => exact (hx ⟨i, hi, hq⟩).elim
theorem find_at {s t : List UInt8} {a : Nat} (h : a + t.length ≤ s.length) (ha : readB s a t.length = t) : ∃ j : Nat, Lib.index s t = j ∧ j ≤ a ∧ readB s j t.length = t := by
  have ho := (occ_read h).2 ha
  obtain ⟨j, h1, h2, h3⟩ := least (p := fun i => Lib.occAt s t i) a ho
  exact ⟨j, Lib.index_first (by omega) h2 h3, h1, (occ_read (by omega)).1 h2⟩
theorem ins_back {s t : List UInt8} {a : Nat} (h : a ≤ s.length) : overB (resizeB (insB s a t) s.length) a (rdB (insB s a t) (a + t.length) (s.length + t.length)) = s := by
  have hl := ins_length (t := t) h
  apply List.ext_getElem?
  intro j
  rw [overB_get (by rw [rdB_length, resizeB_length]; omega), rdB_length, resizeB_get, rdB_get, ins_get h, ins_get h]
  by_cases h1 : a ≤ j ∧ j < a + (s.length + t.length - (a + t.length))
  · rw [if_pos h1, if_pos (by omega), if_neg (by omega), if_neg (by omega), show a + t.length + (j - a) - t.length = j by omega, List.getElem?_eq_getElem (by omega)]
    rfl
  · rw [if_neg h1]
    by_cases h2 : j < s.length
    · rw [if_pos h2, if_pos (by omega), List.getElem?_eq_getElem h2]
      rfl
    · rw [if_neg h2, List.getElem?_eq_none (by omega)]
end Go.Proofs.YtcnimekhpnejlaaGreat

/- Calls told beforehand, of files: what the evaluator computes with. Codes: 60 laid (e, n, at, text, stamp), 61 bytes (e, n, from, to), 62 does a text fit (e, n, at, text), 63 a block with a text (b, at, text), 64 may be written (at, text), 65 written (e, n, at, text, stamp), 66 read (e, n, at, many), 67 the same (e, n, o), 68 is it a file (e, n), 69 zeros (n), 70 the place of a text (t, s). -/
namespace Go.Proofs.YtcnimekhpnejlaaGreat.Ev
open Go
/-- block.Lay. -/
def rLayB (pc : List (X × Bool)) (g : Nat) (args : List EV) : Option EV :=
  if g = 62 then
    match args with
    | [.a (.agg l), .a (.s y), .a (.s u)] => (asBlk l).bind fun b => (asI y).bind fun p => (asS u).bind fun s =>
      if p.1 = .i64 ∧ truL pc (.lt p.2 (.li 0)) = some false ∧ truL pc (.lt (.li 256) p.2) = some false ∧ truL pc (.lt (.bin .sub .i64 (.li 256) p.2) (.len s)) = some false then some (.tup [.agg (blkX (.app 63 (.cons b (.cons p.2 s)))), .s (.int .i64 0)]) else none
    | _ => none
  else none
/-- lay and bytes of files. -/
def rFile (pc : List (X × Bool)) (g : Nat) (e : X) (args : List EV) : Option (EV × X) :=
  if truL pc (.app 57 e) = some true then
    if g = 36 then
      match args with
      | [.a (.s y), .a (.s z), .a (.s u), .a (.s t)] => (asI y).bind fun n => (asI z).bind fun a => (asS u).bind fun s => (asI t).bind fun st =>
        if n.1 = .i64 ∧ a.1 = .i64 ∧ st.1 = .u64 ∧ inU64 pc st.2 = true ∧ rNum pc n.2 = some true ∧ rUsed pc e n.2 = some 0 ∧ truL pc (.app 62 (.cons e (.cons n.2 (.cons a.2 s)))) = some true then some (.a (.s (.int .i64 0)), .app 60 (.cons e (.cons n.2 (.cons a.2 (.cons s st.2))))) else none
      | _ => none
    else if g = 37 then
      match args with
      | [.a (.s y), .a (.s z), .a (.s u)] => (asI y).bind fun n => (asI z).bind fun a => (asI u).bind fun b =>
        if n.1 = .i64 ∧ a.1 = .i64 ∧ b.1 = .i64 ∧ rNum pc n.2 = some true ∧ rUsed pc e n.2 = some 0 ∧ truL pc (.lt a.2 (.li 0)) = some false ∧ truL pc (.lt (.li 1048576) b.2) = some false then some (.tup [.s (.xs (.app 61 (.cons e (.cons n.2 (.cons a.2 b.2))))), .s (.int .i64 0)], e) else none
      | _ => none
    else none
  else none
/-- file.whole: a closure does something with a copy; if all is well, the copy is what there is. -/
def sumWhole (has : Nat → Bool) (pc : List (X × Bool)) (call : Call) : Call := fun g args h nx =>
  if g = 33 then
    match args with
    | [.a (.s (.ptr i 0)), .a (.s (.func f cs))] =>
      match h.get i with
      | some (.abs e) =>
        if truL pc (.app 57 e) = some true ∧ has f = true then
          (call f (.a (.s (.ptr nx 0)) :: ptrs cs) (h.set nx (.abs e)) (nx + 1)).bind fun r =>
            match r.1, r.2.1.get i, r.2.1.get nx with
            | .a (.s (.int .i64 n)), some (.abs e1), some (.abs e2) =>
              if n = 0 then
                if truL pc (.app 57 e1) = some true ∧ truL pc (.app 57 e2) = some true then some (.a (.s (.int .i64 0)), (r.2.1.set i (.abs e2)).del nx, r.2.2) else none
              else some (.a (.s (.int .i64 n)), r.2.1, r.2.2)
            | _, _, _ => none
        else none
      | _ => none
    | _ => none
  else none
def sumL (pc : List (X × Bool)) : Call := sumOr (sumA (rIno pc)) (sumP (rLayB pc))
def sumFi (pc : List (X × Bool)) : Call := sumOr (sumA (rIno pc)) (sumA (rFile pc))
end Go.Proofs.YtcnimekhpnejlaaGreat.Ev

/- A handle that is new, and owns what another one owned; a handle that is another one now. -/
namespace Go.Proofs.YtcnimekhpnejlaaGreat.Ev
open Go Go.RowKit
set_option linter.unusedVariables false

theorem Goes.adopt2 {E E1 : Env} {h h1 : T Blk} {nx n1 : Nat} {w w' : World} (g : Goes E h nx w E1 h1 n1 w') (hn : E1.m n1 = none) {a : Nat} {e : X} (his : E1.ρ.A.is (e.val E1.ρ) a w') (hnew : w.heap.size ≤ a) (hown : ∀ k, E1.ρ.A.own a w' k → Owned E h w k ∨ w.heap.size ≤ k)
    (hdis : ∀ k, E1.ρ.A.own a w' k → ¬ Owned E1 h1 w' k) : Goes E h nx w (E1.put n1 ⟨a, 0, 0⟩) (h1.set n1 (.abs e)) (n1 + 1) w' := by
  have hnone : ∀ b, h1.get n1 ≠ some b := fun b hb => by
    obtain ⟨p, o, hp, _⟩ := g.rel.at_ n1 b hb
    rw [hn] at hp
    cases hp
  have hself := E1.ρ.A.self _ _ _ his
  have hlt := E1.ρ.A.lt _ _ _ his _ hself
  have hx := Env.ext_put (p := ⟨a, 0, 0⟩) hn
  have hget : ∀ j b, (h1.set n1 (.abs e)).get j = some b → (j = n1 ∧ b = .abs e) ∨ (j ≠ n1 ∧ h1.get j = some b) := fun j b hj => by
    rw [T.get_set] at hj
    by_cases e2 : j = n1
    · rw [if_pos e2] at hj
      exact .inl ⟨e2, (Option.some.inj hj).symm⟩
    · rw [if_neg e2] at hj
      exact .inr ⟨e2, hj⟩
  have hat : ∀ p, (E1.put n1 ⟨a, 0, 0⟩).m n1 = some p → p = ⟨a, 0, 0⟩ := fun p hp => by
    rw [Env.put_at] at hp
    exact (Option.some.inj hp).symm
  have hold : ∀ j p, j ≠ n1 → (E1.put n1 ⟨a, 0, 0⟩).m j = some p → E1.m j = some p := fun j p hj hp => by
    rw [Env.put_ne E1 _ hj] at hp
    exact hp
  have hno : ∀ j b p, h1.get j = some b → E1.m j = some p → p.blk ≠ a := fun j b p hj hp e2 => hdis a hself (e2 ▸ Owned.blk hj hp)
  exact {
    ext := g.ext.trans hx
    out := fun i hi => by
      have := g.le
      rw [Env.put_ne E1 _ (by omega), g.out i (by omega)]
    le := Nat.le_succ_of_le g.le
    rel := ⟨fun j b hj => by
        rcases hget j b hj with ⟨rfl, rfl⟩ | ⟨hne, hj⟩
        · exact ⟨⟨a, 0, 0⟩, _, Env.put_at _ _ _, Array.getElem?_eq_getElem hlt, rfl⟩
        · obtain ⟨p, o, hp, ho, hr⟩ := g.rel.at_ j b hj
          exact ⟨p, o, hx.m _ _ hp, ho, Blk.ext hx hr⟩,
      fun i j b c p q hi hj hp hq e2 => by
        rcases hget i b hi with ⟨rfl, _⟩ | ⟨hni, hi1⟩
        · obtain rfl := hat p hp
          rcases hget j c hj with ⟨rfl, _⟩ | ⟨hnj, hj⟩
          · rfl
          · exact absurd e2.symm (hno j c q hj (hold j q hnj hq))
        · rcases hget j c hj with ⟨rfl, _⟩ | ⟨hnj, hj⟩
          · obtain rfl := hat q hq
            exact absurd e2 (hno i b p hi1 (hold i p hni hp))
          · exact g.rel.inj i j b c p q hi1 hj (hold i p hni hp) (hold j q hnj hq) e2,
      ⟨fun i e2 p hi hp => by
          rcases hget i _ hi with ⟨rfl, h2⟩ | ⟨hne, hi⟩
          · obtain rfl := hat p hp
            obtain rfl : e2 = e := by injection h2
            exact his
          · exact g.rel.abs.ab i e2 p hi (hold i p hne hp),
        fun i e2 p j c q hi hp hj hq hne ho => by
          rcases hget i _ hi with ⟨hin, _⟩ | ⟨hni, hi1⟩
          · subst hin
            obtain rfl := hat p hp
            rcases hget j c hj with ⟨hjn, _⟩ | ⟨hnj, hj⟩
            · exact hne hjn
            · exact hdis _ ho (Owned.blk hj (hold j q hnj hq))
          · rcases hget j c hj with ⟨hjn, _⟩ | ⟨hnj, hj⟩
            · subst hjn
              obtain rfl := hat q hq
              exact hdis a hself (Owned.abs hi1 (hold i p hni hp) ho)
            · exact g.rel.abs.far i e2 p j c q hi1 (hold i p hni hp) hj (hold j q hnj hq) hne ho,
        fun i e2 p j e3 q hi hp hj hq hne k h2 h3 => by
          rcases hget i _ hi with ⟨hin, _⟩ | ⟨hni, hi1⟩
          · subst hin
            obtain rfl := hat p hp
            rcases hget j _ hj with ⟨hjn, _⟩ | ⟨hnj, hj⟩
            · exact hne hjn
            · exact hdis _ h2 (Owned.abs hj (hold j q hnj hq) h3)
          · rcases hget j _ hj with ⟨hjn, _⟩ | ⟨hnj, hj⟩
            · subst hjn
              obtain rfl := hat q hq
              exact hdis _ h3 (Owned.abs hi1 (hold i p hni hp) h2)
            · exact g.rel.abs.apart i e2 p j e3 q hi1 (hold i p hni hp) hj (hold j q hnj hq) hne k h2 h3⟩⟩
    frame := g.frame
    ids := fun i b hi => by
      rcases hget i b hi with ⟨rfl, _⟩ | ⟨_, hi⟩
      · exact .inr ⟨g.le, Nat.lt_succ_self _⟩
      · rcases g.ids i b hi with h | h
        · exact .inl h
        · exact .inr ⟨h.1, by omega⟩
    own := fun i b p hi hp => by
      rcases hget i b hi with ⟨rfl, _⟩ | ⟨hne, hi⟩
      · obtain rfl := hat p hp
        exact .inr hnew
      · exact g.own i b p hi (hold i p hne hp)
    uown := fun i e2 p hi hp k hk => by
      rcases hget i _ hi with ⟨rfl, _⟩ | ⟨hne, hi⟩
      · obtain rfl := hat p hp
        exact hown k hk
      · exact g.uown i e2 p hi (hold i p hne hp) k hk }

theorem Goes.moved {E E2 : Env} {h h2 : T Blk} {nx n2 : Nat} {w w2 w3 : World} (g : Goes E h nx w E2 h2 n2 w2) {i j : Nat} {ei ej e' : X} {p q : Pl} (hi : h2.get i = some (.abs ei)) (hj : h2.get j = some (.abs ej)) (hij : i ≠ j) (hp : E2.m i = some p) (hq : E2.m j = some q)
    (ht : Touch p.blk w2 w3) (his : E2.ρ.A.is (e'.val E2.ρ) p.blk w3) (hown : ∀ k, E2.ρ.A.own p.blk w3 k → k = p.blk ∨ E2.ρ.A.own q.blk w2 k) : Goes E h nx w E2 ((h2.set i (.abs e')).del j) n2 w3 := by
  have hd : p.dl = 0 := by
    obtain ⟨o, _, h1⟩ := g.rel.blk hi hp
    exact h1
  have hget : ∀ l b, ((h2.set i (.abs e')).del j).get l = some b → l ≠ j ∧ ((l = i ∧ b = .abs e') ∨ (l ≠ i ∧ h2.get l = some b)) := fun l b hl => by
    rw [T.get_del] at hl
    split at hl
    · cases hl
    · rename_i hne
      refine ⟨hne, ?_⟩
      rw [T.get_set] at hl
      by_cases e2 : l = i
      · rw [if_pos e2] at hl
        exact .inl ⟨e2, (Option.some.inj hl).symm⟩
      · rw [if_neg e2] at hl
        exact .inr ⟨e2, hl⟩
  have hfar : ∀ l b r, h2.get l = some b → E2.m l = some r → l ≠ i → r.blk ≠ p.blk := fun l b r hl hr hne e => hne (g.rel.inj l i b _ r p hl hi hr hp e)
  have hold : ∀ l e2 r, h2.get l = some (.abs e2) → E2.m l = some r → l ≠ i → E2.ρ.A.is (e2.val E2.ρ) r.blk w3 ∧ ∀ k, E2.ρ.A.own r.blk w3 k ↔ E2.ρ.A.own r.blk w2 k := fun l e2 r hl hr hne =>
    E2.ρ.A.keep _ _ w2 w3 (g.rel.abs.ab l e2 r hl hr) (fun k ho => ht.other k fun e => by
      subst e
      exact g.rel.abs.far l e2 r i _ p hl hr hi hp (Ne.symm hne) ho) (by rw [ht.size]; exact Nat.le_refl _)
  have hpl : p.blk < w3.heap.size := E2.ρ.A.lt _ _ _ his _ (E2.ρ.A.self _ _ _ his)
  have live : ∀ l b, ((h2.set i (.abs e')).del j).get l = some b → ∃ b', h2.get l = some b' := fun l b hl => by
    rcases (hget l b hl).2 with ⟨rfl, _⟩ | ⟨_, hl⟩
    · exact ⟨_, hi⟩
    · exact ⟨_, hl⟩
  have cross : ∀ l e2 r n, h2.get l = some (.abs e2) → E2.m l = some r → l ≠ i → l ≠ j → E2.ρ.A.own p.blk w3 n → ¬ E2.ρ.A.own r.blk w3 n := fun l e2 r n hl hr hni hnj h1 h2' => by
    have h2' := ((hold l e2 r hl hr hni).2 _).1 h2'
    rcases hown n h1 with rfl | h3
    · exact g.rel.abs.far l e2 r i _ p hl hr hi hp (Ne.symm hni) h2'
    · exact g.rel.abs.apart j ej q l e2 r hj hq hl hr hnj n h3 h2'
  exact {
    ext := g.ext
    out := g.out
    le := g.le
    rel := ⟨fun l b hl => by
        rcases (hget l b hl).2 with ⟨rfl, rfl⟩ | ⟨hne, hl⟩
        · exact ⟨p, _, hp, Array.getElem?_eq_getElem hpl, hd⟩
        · obtain ⟨r, o, hr, ho, h3⟩ := g.rel.at_ l b hl
          exact ⟨r, o, hr, by rw [ht.other _ (hfar l b r hl hr hne)]; exact ho, h3⟩,
      fun l m b c r s hl hm hr hs e2 => by
        obtain ⟨b', hb'⟩ := live l b hl
        obtain ⟨c', hc'⟩ := live m c hm
        exact g.rel.inj l m b' c' r s hb' hc' hr hs e2,
      ⟨fun l e2 r hl hr => by
          rcases (hget l _ hl).2 with ⟨rfl, h3⟩ | ⟨hne, hl⟩
          · obtain rfl : e2 = e' := by injection h3
            rw [hp] at hr
            obtain rfl := Option.some.inj hr
            exact his
          · exact (hold l e2 r hl hr hne).1,
        fun l e2 r m c s hl hr hm hs hne ho => by
          obtain ⟨hlj, hl⟩ := hget l _ hl
          obtain ⟨hmj, hm⟩ := hget m _ hm
          rcases hl with ⟨hli, h3⟩ | ⟨hli, hl⟩
          · rw [hli, hp] at hr
            obtain rfl := Option.some.inj hr
            rcases hm with ⟨hmi, _⟩ | ⟨hmi, hm⟩
            · exact hne (hmi.trans hli.symm)
            · rcases hown _ ho with h4 | h4
              · exact hfar m c s hm hs hmi h4
              · exact g.rel.abs.far j ej q m c s hj hq hm hs hmj h4
          · have ho := ((hold l e2 r hl hr hli).2 _).1 ho
            rcases hm with ⟨hmi, _⟩ | ⟨hmi, hm⟩
            · rw [hmi, hp] at hs
              obtain rfl := Option.some.inj hs
              exact g.rel.abs.far l e2 r i _ p hl hr hi hp (Ne.symm hli) ho
            · exact g.rel.abs.far l e2 r m c s hl hr hm hs hne ho,
        fun l e2 r m e3 s hl hr hm hs hne n h3 h4 => by
          obtain ⟨hlj, hl⟩ := hget l _ hl
          obtain ⟨hmj, hm⟩ := hget m _ hm
          rcases hl with ⟨hli, h5⟩ | ⟨hli, hl⟩
          · rw [hli, hp] at hr
            obtain rfl := Option.some.inj hr
            rcases hm with ⟨hmi, _⟩ | ⟨hmi, hm⟩
            · exact hne (hmi.trans hli.symm)
            · exact cross m e3 s n hm hs hmi hmj h3 h4
          · rcases hm with ⟨hmi, _⟩ | ⟨hmi, hm⟩
            · rw [hmi, hp] at hs
              obtain rfl := Option.some.inj hs
              exact cross l e2 r n hl hr hli hlj h4 h3
            · exact g.rel.abs.apart l e2 r m e3 s hl hr hm hs hne n (((hold l e2 r hl hr hli).2 _).1 h3) (((hold m e3 s hm hs hmi).2 _).1 h4)⟩⟩
    frame := ⟨ht.os.trans g.frame.os, ht.tape.trans g.frame.tape, ht.output.trans g.frame.output, by rw [ht.size]; exact g.frame.size, fun k hk hn => by
      rw [← g.frame.block k hk hn]
      refine ht.other k fun e => ?_
      subst e
      rcases g.own i _ p hi hp with ⟨l, c, r, hl, hr, e⟩ | h3
      · exact hn (.inl ⟨l, c, r, hl, hr, e⟩)
      · omega⟩
    ids := fun l b hl => by
      obtain ⟨b', hb'⟩ := live l b hl
      exact g.ids l b' hb'
    own := fun l b r hl hr => by
      obtain ⟨b', hb'⟩ := live l b hl
      exact g.own l b' r hb' hr
    uown := fun l e2 r hl hr k hk => by
      rcases (hget l _ hl).2 with ⟨rfl, h3⟩ | ⟨hne, hl⟩
      · rw [hp] at hr
        obtain rfl := Option.some.inj hr
        rcases hown k hk with rfl | h4
        · rcases g.own l _ p hi hp with ⟨l2, c, r, hl2, hr, e⟩ | h5
          · exact .inl (.inl ⟨l2, c, r, hl2, hr, e⟩)
          · exact .inr h5
        · exact g.uown j ej q hj hq k h4
      · exact g.uown l e2 r hl hr k (((hold l e2 r hl hr hne).2 _).1 hk) }
end Go.Proofs.YtcnimekhpnejlaaGreat.Ev

/- Maps with whole numbers for keys, off their entries. -/
namespace Go.Proofs.YtcnimekhpnejlaaGreat
open Go Go.RowKit Go.ChangeMaps Go.MapKept Go.WideElems
set_option linter.unusedVariables false

theorem MapI.of_entries {α : Type} {E : Elem α} {P : Program} {k : TypeId} (hk : P.underlying k = some (.int .i64)) {w : World} {b : Nat} {es : Array MapEntry} {clock : Nat} (hb : w.heap[b]? = some (.map es clock)) (hs : es.size ≤ 4096)
    (h1 : ∀ x ∈ es.toList, x.born < clock) (h2 : (es.toList.map (·.born)).Nodup) (h3 : (es.toList.map (·.key)).Nodup) {f : Int → Option α}
    (hf : ∀ x ∈ es.toList, ∃ i a, i64 i ∧ E.ok a ∧ x.key = .int .i64 i ∧ x.val = E.val a ∧ f i = some a) (hg : ∀ i a, f i = some a → ∃ x ∈ es.toList, x.key = .int .i64 i) : MapI E P k w b 4096 f := by
  have K : Maps.Keyed P k := Maps.int_keyed hk
  have hrd : ∀ x ∈ es.toList, ∃ i a, i64 i ∧ E.ok a ∧ f i = some a ∧ x.key = .int .i64 i ∧ rd P k E.R x = some (.int .i64 i, E.enc a) := fun x hx => by
    obtain ⟨i, a, hi, ha, e1, e2, e3⟩ := hf x hx
    refine ⟨i, a, hi, ha, e3, e1, ?_⟩
    obtain ⟨xk, xv, xb⟩ := x
    simp only at e1 e2
    subst e1
    subst e2
    exact rd_mk (Maps.keyOf_int_mk hk (i64_wf hi)) (E.to a ha)
  have F : Fit P k E.R es clock := ⟨Nat.le_trans hs (by decide), ⟨h1, h2, h3⟩, fun x hx => by
    obtain ⟨i, a, _, _, _, _, h⟩ := hrd x hx
    exact ⟨_, h⟩⟩
  have hap := Maps.fit_apart K F
  have hmem : ∀ p, p ∈ (es.toList.map (rg P k E.R)) → ∃ i a, i64 i ∧ E.ok a ∧ f i = some a ∧ p = (.int .i64 i, E.enc a) := fun p hp => by
    obtain ⟨x, hx, rfl⟩ := List.mem_map.1 hp
    obtain ⟨i, a, g1, g2, g3, _, g4⟩ := hrd x hx
    exact ⟨i, a, g1, g2, g3, rg_of g4⟩
  have hin : ∀ i a, f i = some a → (Lit.int .i64 i, E.enc a) ∈ es.toList.map (rg P k E.R) := fun i a ha => by
    obtain ⟨x, hx, e1⟩ := hg i a ha
    obtain ⟨i', a', _, _, g3, e2, g4⟩ := hrd x hx
    rw [e1] at e2
    have e3 : i = i' := by injection e2
    subst e3
    rw [ha] at g3
    obtain rfl := Option.some.inj g3
    exact List.mem_map.2 ⟨x, hx, rg_of g4⟩
  refine ⟨.map ((es.toList.map (rg P k E.R)).foldr DataW.insert []), ⟨es, clock, hb, F, hs, rfl⟩, fun kl hkl => ?_, fun i hi => ?_, fun i a ha => ?_⟩
  · rw [Maps.has_eq] at hkl
    obtain ⟨p, hp, he⟩ := List.any_eq_true.1 hkl
    obtain ⟨i, a, g1, _, _, rfl⟩ := hmem p (mem_sorted.1 hp)
    exact ⟨i, g1, (WideAt.sameKey_eq he).symm⟩
  · rw [Maps.has_eq]
    cases hfi : f i with
    | some a =>
      exact List.any_eq_true.2 ⟨_, mem_sorted.2 (hin i a hfi), WideAt.sameKey_self trivial⟩
    | none =>
      refine Bool.eq_false_iff.2 fun h => ?_
      obtain ⟨p, hp, he⟩ := List.any_eq_true.1 h
      obtain ⟨i', a, g1, _, g3, rfl⟩ := hmem p (mem_sorted.1 hp)
      have e := WideAt.sameKey_eq he
      have e : i' = i := by injection e
      rw [e, hfi] at g3
      cases g3
  · have hp := hin i a ha
    obtain ⟨i', a', g1, g2, g3, e⟩ := hmem _ hp
    have e1 : i = i' := by
      have := congrArg Prod.fst e
      simp only at this
      injection this
    subst e1
    rw [ha] at g3
    obtain rfl := Option.some.inj g3
    refine ⟨g1, g2, fun z => ?_⟩
    refine WideAt.atKey_mem z trivial ?_ (mem_sorted.2 hp)
    exact (hap.perm (WideShapes.sorted_perm _).symm fun h e => h e.symm)
end Go.Proofs.YtcnimekhpnejlaaGreat

/- Calls told beforehand, of files behind handles, for the statements: what the evaluator computes with. -/
namespace Go.Proofs.YtcnimekhpnejlaaGreat.Ev
open Go
/-- The handle that there was, ahead of what was written and cut. -/
def baseN : Nat → X → X
  | 0, e => e
  | k + 1, e => match e with
    | .app 65 (.cons e (.cons _ (.cons _ (.cons _ _)))) => baseN k e
    | .app 56 (.cons e (.cons _ (.cons _ _))) => baseN k e
    | e => e
def isFile (pc : List (X × Bool)) (e n : X) : Bool := decide (truL pc (.app 68 (.cons (baseN 30 e) n)) = some true)
def rLaw (pc : List (X × Bool)) (g : Nat) (e : X) (args : List EV) : Option (EV × X) :=
  if g = 10 then
    match args with
    | [.a (.s y), .a (.s z), .a (.s u), .a (.s t)] => (asI y).bind fun n => (asI z).bind fun a => (asS u).bind fun s => (asI t).bind fun st =>
      if n.1 = .i64 ∧ a.1 = .i64 ∧ st.1 = .u64 ∧ inI64 pc a.2 = true ∧ inU64 pc st.2 = true ∧ isFile pc e n.2 = true then
        (truL pc (.app 64 (.cons a.2 s))).bind fun b => if b = true then some (.tup [.s (.xi .i64 (.bin .add .i64 a.2 (.len s))), .s (.int .i64 0)], .app 65 (.cons e (.cons n.2 (.cons a.2 (.cons s st.2)))))
          else (truL pc (.lt a.2 (.li 0))).map fun c => (.tup [.s (.int .i64 0), .s (.int .i64 (if c = true then 1 else 160))], e)
      else none
    | _ => none
  else if g = 11 then
    match args with
    | [.a (.s y), .a (.s z), .a (.s u)] => (asI y).bind fun n => (asI z).bind fun a => (asI u).bind fun m =>
      if n.1 = .i64 ∧ a.1 = .i64 ∧ m.1 = .i64 ∧ inI64 pc a.2 = true ∧ inI64 pc m.2 = true ∧ isFile pc e n.2 = true then
        (truL pc (.lt a.2 (.li 0))).bind fun b => if b = true then some (.tup [.s (.str ⟨#[]⟩), .s (.int .i64 1)], e)
          else (truL pc (.lt m.2 (.li 0))).map fun c => if c = true then (.tup [.s (.str ⟨#[]⟩), .s (.int .i64 1)], e) else (.tup [.s (.xs (.app 66 (.cons e (.cons n.2 (.cons a.2 m.2))))), .s (.int .i64 0)], e)
      else none
    | _ => none
  else if g = 12 then
    match args with
    | [.a (.s y), .a (.s z), .a (.s t)] => (asI y).bind fun n => (asI z).bind fun a => (asI t).bind fun st =>
      if n.1 = .i64 ∧ a.1 = .i64 ∧ st.1 = .u64 ∧ inI64 pc a.2 = true ∧ inU64 pc st.2 = true ∧ isFile pc e n.2 = true then
        (truL pc (.lt a.2 (.li 0))).bind fun b => if b = true then some (.a (.s (.int .i64 1)), e)
          else (truL pc (.lt (.li 1048576) a.2)).map fun c => if c = true then (.a (.s (.int .i64 160)), e) else (.a (.s (.int .i64 0)), .app 56 (.cons e (.cons n.2 (.cons a.2 st.2))))
      else none
    | _ => none
  else if g = 13 then
    match args with
    | [.a (.s y), .a (.s z)] => (asI y).bind fun n => (asI z).bind fun m =>
      if n.1 = .i64 ∧ m.1 = .i64 ∧ isFile pc e n.2 = true ∧ isFile pc e m.2 = true then some (.tup [.s (.xb (.app 67 (.cons e (.cons n.2 m.2)))), .s (.int .i64 0)], e) else none
    | _ => none
  else none
/-- zeros. -/
def rZer (pc : List (X × Bool)) (g : Nat) (args : List EV) : Option EV :=
  if g = 14 then
    match args with
    | [.a (.s y)] => (asI y).bind fun n => if n.1 = .i64 ∧ inI64 pc n.2 = true ∧ truL pc (.lt (.li 1048576) n.2) = some false then some (.a (.s (.xs (.app 69 n.2)))) else none
    | _ => none
  else none
def sumBeg : Call := fun g args h nx =>
  if g = 8 then
    match args with
    | [] => some (.tup [.s (.ptr nx 0), .s (.int .i64 2), .s (.bool true)], h.set nx (.abs (.va 0)), nx + 1)
    | _ => none
  else none
def sumTru (l : List Nat) : Call := fun g args h nx =>
  match args with
  | [] => if l.contains g = true then some (.a (.s (.bool true)), h, nx) else none
  | _ => none
def sumB (pc : List (X × Bool)) : Call := sumOr sumBeg (sumOr (sumA (rLaw pc)) (sumP (rZer pc)))
end Go.Proofs.YtcnimekhpnejlaaGreat.Ev
