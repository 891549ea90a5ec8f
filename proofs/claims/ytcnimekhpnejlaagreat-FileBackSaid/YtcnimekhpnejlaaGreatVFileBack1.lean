/- Texts of this seat joined into one: Ev2, Ev3, Ev4, Ev5. -/
import Derived.Test.YtcnimekhpnejlaaGreatVFileBack0
import Derived.Laws.StructEq
import Derived.ChangeKeysEq

/- The evaluator: types, literals, parts, equality. -/
namespace Go.Proofs.YtcnimekhpnejlaaGreat.Ev
open Go Go.RowKit
set_option linter.unusedVariables false

/-- What the evaluator knows of a type. -/
structure TE where
  und : TypeDesc
  size : Nat
  bytes : Nat
  zero : Value
  eqg : Bool
  held : Bool
def TEok (P : Program) (t : TypeId) (e : TE) : Prop :=
  (P.underlying t, (P.info? t).map (fun i => (i.size, i.bytes, i.zero)), P.eqGuardType P.depth t, P.stoodInHeld t) = (some e.und, some (e.size, e.bytes, some e.zero), e.eqg, e.held)
def aggD : TypeDesc → Bool
  | .struct _ | .array _ _ => true
  | _ => false

section te
variable {P : Program} {t : TypeId} {e : TE} (h : TEok P t e)
include h
theorem TEok.und : P.underlying t = some e.und := congrArg Prod.fst h
theorem TEok.info : ∃ i, P.info? t = some i ∧ i.size = e.size ∧ i.bytes = e.bytes ∧ i.zero = some e.zero := by
  have h1 : (P.info? t).map (fun i => (i.size, i.bytes, i.zero)) = some (e.size, e.bytes, some e.zero) := congrArg (fun x => x.2.1) h
  obtain ⟨i, hi, he⟩ := Option.map_eq_some_iff.1 h1
  simp only [Prod.mk.injEq] at he
  exact ⟨i, hi, he.1, he.2.1, he.2.2⟩
theorem TEok.eqg : P.eqGuardType P.depth t = e.eqg := congrArg (fun x => x.2.2.1) h
theorem TEok.held : P.stoodInHeld t = e.held := congrArg (fun x => x.2.2.2) h
theorem TEok.run_und (w : World) : (underlying t).run P w = .ok e.und w := run_underlying h.und w
theorem TEok.run_info (w : World) : ∃ i, (typeInfo t).run P w = .ok i w ∧ i.size = e.size ∧ i.bytes = e.bytes ∧ i.zero = some e.zero := by
  obtain ⟨i, hi, h1⟩ := h.info
  exact ⟨i, by simp [typeInfo, hi], h1⟩
theorem TEok.run_size (w : World) : (sizeOf t).run P w = .ok e.size w := by
  obtain ⟨i, hi, h1, _⟩ := h.run_info w
  simp [sizeOf, hi, h1]
theorem TEok.run_zero (w : World) : (zeroValue t).run P w = .ok e.zero w := by
  obtain ⟨i, hi, _, _, h3⟩ := h.run_info w
  simp [zeroValue, hi, h3]
theorem TEok.run_agg (w : World) : (isAgg t).run P w = .ok (aggD e.und) w := by
  simp only [isAgg, Sem.run_bind, h.run_und w, Result.andThen_ok]
  cases e.und <;> rfl
theorem TEok.cellsOf : P.cellsOf t = e.size := by
  obtain ⟨i, hi, h1, _⟩ := h.info
  simp [Program.cellsOf, hi, h1]
end te

/-! ### Literals -/
def litSV : Value → Option SV
  | .bool b => some (.bool b)
  | .int k n => some (.int k n)
  | .string s => some (.str s)
  | .pointer none => some .nilp
  | .slice none 0 0 => some .nils
  | .map none => some .nilm
  | .nilFunc => some .nilf
  | .nilIface => some .nili
  | _ => none
def litL : List Value → Option (List SV)
  | [] => some []
  | v :: vs => (litSV v).bind fun x => (litL vs).bind fun xs => some (x :: xs)
def litAV : Value → Option AV
  | .agg cs => (litL cs.toList).map .agg
  | v => (litSV v).map .s
theorem litSV_rel {E : Env} {v : Value} {x : SV} (h : litSV v = some x) : x.rel E v := by
  unfold litSV at h
  split at h <;> first | (obtain rfl := Option.some.inj h; rfl) | cases h
theorem litL_rel {E : Env} : ∀ {vs : List Value} {xs : List SV}, litL vs = some xs → Rels (SV.rel E) xs vs
  | [], _, h => by
    obtain rfl := Option.some.inj h
    trivial
  | v :: vs, _, h => by
    obtain ⟨x, hx, h⟩ := Option.bind_eq_some_iff.1 h
    obtain ⟨xs, hxs, h⟩ := Option.bind_eq_some_iff.1 h
    obtain rfl := Option.some.inj h
    exact ⟨litSV_rel hx, litL_rel hxs⟩
theorem litAV_rel {E : Env} {v : Value} {x : AV} (h : litAV v = some x) : x.rel E v := by
  unfold litAV at h
  split at h
  · rename_i cs
    obtain ⟨xs, hxs, rfl⟩ := Option.map_eq_some_iff.1 h
    exact ⟨cs.toList, by simp, litL_rel hxs⟩
  · obtain ⟨x, hx, rfl⟩ := Option.map_eq_some_iff.1 h
    exact litSV_rel hx

/-! ### What a run is -/
structure Ctx where
  P : Program
  tab : Nat → Option TE
  pc : List (X × Bool)
  olk : TypeId → X → List (X × Nat) → SV → Option EV
  oup : TypeId → X → List (X × Nat) → SV → EV → Option (X × List (X × Nat))
  ρ : Rho
structure Ctx.Ok (C : Ctx) : Prop where
  tab : ∀ t e, C.tab t = some e → TEok C.P t e
  pc : ∀ q ∈ C.pc, q.1.bool C.ρ = q.2
  olk : ∀ t e ls y r, C.olk t e ls y = some r → ∀ (E : Env) (o : Obj) (w : World) (b : Nat) (v : Value), E.ρ = C.ρ → linksOk E ls → C.ρ.oq (e.val C.ρ) (linksOf E ls) o → w.heap[b]? = some o → y.rel E v →
    ∃ u, (Instr.lookup t (.map (some b)) v true).run C.P w = .ok u w ∧ r.rel E u
  oup : ∀ t e ls y x r, C.oup t e ls y x = some r → ∀ (E : Env) (o : Obj) (w : World) (b : Nat) (v u : Value), E.ρ = C.ρ → linksOk E ls → C.ρ.oq (e.val C.ρ) (linksOf E ls) o → w.heap[b]? = some o → y.rel E v → x.rel E u →
    (∀ j, x = .a (.s (.ptr j 0)) → ∃ p, E.m j = some p ∧ p.dl = 0) →
    ∃ w' o', (Instr.mapUpdate t (.map (some b)) v u).run C.P w = .ok () w' ∧ Touch b w w' ∧ w'.heap[b]? = some o' ∧ C.ρ.oq (r.1.val C.ρ) (linksOf E r.2) o' ∧ linksOk E r.2
/-- What is told of an open condition. -/
def askL (pc : List (X × Bool)) (e : X) : Option Bool := (pc.find? fun q => decide (q.1 = e)).map (·.2)
def Ctx.ask (C : Ctx) (e : X) : Option Bool := askL C.pc e
def litI : X → Option Int
  | .li n => some n
  | _ => none
theorem litI_eq {e : X} {n : Int} (h : litI e = some n) : e = .li n := by
  unfold litI at h
  split at h
  · rw [Option.some.inj h]
  · cases h
def truL (pc : List (X × Bool)) : X → Option Bool
  | .lb b => some b
  | .not a => (truL pc a).map fun b => !b
  | .lt a b => match litI a, litI b with
    | some x, some y => some (decide (x < y))
    | _, _ => askL pc (.lt a b)
  | .eq a b => match litI a, litI b with
    | some x, some y => some (x == y)
    | _, _ => askL pc (.eq a b)
  | e => askL pc e
def Ctx.tru (C : Ctx) (e : X) : Option Bool := truL C.pc e
theorem askL_ok {ρ : Rho} {pc : List (X × Bool)} (hC : ∀ q ∈ pc, q.1.bool ρ = q.2) {e : X} {b : Bool} (h : askL pc e = some b) : e.bool ρ = b := by
  obtain ⟨q, hq, rfl⟩ := Option.map_eq_some_iff.1 h
  have h1 := hC q (List.mem_of_find?_eq_some hq)
  have h2 := List.find?_some hq
  simp only [decide_eq_true_eq] at h2
  rw [← h2]
  exact h1
theorem Ctx.Ok.ask_ok {C : Ctx} (hC : C.Ok) {e : X} {b : Bool} (h : C.ask e = some b) : e.bool C.ρ = b := askL_ok hC.pc h
theorem truL_ok {ρ : Rho} {pc : List (X × Bool)} (hC : ∀ q ∈ pc, q.1.bool ρ = q.2) : ∀ {e : X} {b : Bool}, truL pc e = some b → e.bool ρ = b := by
  intro e
  induction e with
  | lb b => intro c h; exact Option.some.inj h
  | not a ih =>
    intro c h
    obtain ⟨b, hb, rfl⟩ := Option.map_eq_some_iff.1 h
    show (!(a.val ρ).bool) = _
    exact congrArg Bool.not (ih hb)
  | lt a b =>
    intro c h
    simp only [truL] at h
    split at h
    · rename_i x y h1 h2
      obtain rfl := litI_eq h1
      obtain rfl := litI_eq h2
      exact Option.some.inj h
    · exact askL_ok hC h
  | eq a b =>
    intro c h
    simp only [truL] at h
    split at h
    · rename_i x y h1 h2
      obtain rfl := litI_eq h1
      obtain rfl := litI_eq h2
      exact Option.some.inj h
    · exact askL_ok hC h
  | _ => intro c h; exact askL_ok hC h
theorem Ctx.Ok.tru_ok {C : Ctx} (hC : C.Ok) {e : X} {b : Bool} (h : C.tru e = some b) : e.bool C.ρ = b := truL_ok hC.pc h
/-- A number, as an expression. -/
def asI : SV → Option (IntKind × X)
  | .int k n => some (k, .li n)
  | .xi k e => some (k, e)
  | _ => none
theorem asI_rel {E : Env} {x : SV} {q : IntKind × X} {v : Value} (h : asI x = some q) (hx : x.rel E v) : v = .int q.1 (q.2.int E.ρ) := by
  unfold asI at h
  split at h <;> first | (obtain rfl := Option.some.inj h; exact hx) | cases h
def asS : SV → Option X
  | .str s => some (.ls s)
  | .xs e => some e
  | _ => none
theorem asS_rel {E : Env} {x : SV} {q : X} {v : Value} (h : asS x = some q) (hx : x.rel E v) : v = .string (q.str E.ρ) := by
  unfold asS at h
  split at h <;> first | (obtain rfl := Option.some.inj h; exact hx) | cases h
def asB : SV → Option X
  | .bool b => some (.lb b)
  | .xb e => some e
  | _ => none
theorem asB_rel {E : Env} {x : SV} {q : X} {v : Value} (h : asB x = some q) (hx : x.rel E v) : v = .bool (q.bool E.ρ) := by
  unfold asB at h
  split at h <;> first | (obtain rfl := Option.some.inj h; exact hx) | cases h
/-- Whether a small value is true, as far as it is told. -/
def Ctx.truV (C : Ctx) (x : SV) : Option Bool := (asB x).bind C.tru
theorem Ctx.Ok.truV_ok {C : Ctx} (hC : C.Ok) {E : Env} (hρ : E.ρ = C.ρ) {x : SV} {b : Bool} {v : Value} (h : C.truV x = some b) (hx : x.rel E v) : v = .bool b := by
  obtain ⟨q, hq, h⟩ := Option.bind_eq_some_iff.1 h
  rw [asB_rel hq hx, hρ, hC.tru_ok h]

/-- The computation s ends in what v stands for, with the memory h' behind it. -/
def RunsV (P : Program) (E : Env) (h : T Blk) (nx : Nat) (w : World) (s : Sem Value) (v : EV) (h' : T Blk) (nx' : Nat) : Prop :=
  ∃ v' w' E', s.run P w = .ok v' w' ∧ Goes E h nx w E' h' nx' w' ∧ v.rel E' v'
theorem RunsV.pure {P : Program} {E : Env} {h : T Blk} {nx : Nat} {w : World} {s : Sem Value} {v : EV} (hr : HRel E h w) {v' : Value} (hs : s.run P w = .ok v' w) (hv : v.rel E v') : RunsV P E h nx w s v h nx :=
  ⟨v', w, E, hs, Goes.refl hr, hv⟩

def pureOf : Sem Value → Option Value
  | .pure v => some v
  | _ => none
theorem pureOf_run {s : Sem Value} {v : Value} (h : pureOf s = some v) (P : Program) (w : World) : s.run P w = .ok v w := by
  unfold pureOf at h
  split at h
  · obtain rfl := Option.some.inj h; rfl
  · cases h

/-! ### Parts -/
def evPart (e : TE) (cs : List SV) (off : Nat) : Option AV :=
  if aggD e.und then some (.agg ((cs.drop off).take e.size)) else (cs[off]?).map .s
theorem run_part {P : Program} {E : Env} {t : TypeId} {e : TE} (ht : TEok P t e) {cs : List SV} {vs : List Value} (hr : Rels (SV.rel E) cs vs) {off : Nat} {x : AV} (h : evPart e cs off = some x) (w : World) :
    ∃ v, (part t vs.toArray off).run P w = .ok v w ∧ x.rel E v := by
  unfold evPart at h
  simp only [part, Sem.run_bind, ht.run_agg w, Result.andThen_ok, Sem.run_ite]
  by_cases ha : aggD e.und = true
  · rw [if_pos ha] at h
    obtain rfl := Option.some.inj h
    refine ⟨.agg ((vs.drop off).take e.size).toArray, ?_, _, rfl, (hr.drop off).take e.size⟩
    rw [if_pos ha]
    simp only [ht.run_size w, Result.andThen_ok, Sem.run_pure]
    congr 2
    apply Array.toList_inj.1
    simp [List.extract_eq_take_drop]
  · rw [if_neg ha] at h
    obtain ⟨y, hy, rfl⟩ := Option.map_eq_some_iff.1 h
    obtain ⟨v, hv, hrel⟩ := hr.get off y hy
    refine ⟨v, ?_, hrel⟩
    rw [if_neg ha]
    simp [hv]

/-! ### Equality -/
def live (h : T Blk) (i : Nat) : Bool :=
  match h.get i with
  | some (.cells _ _ _ false) => true
  | _ => false
def eqSV (h : T Blk) : TypeDesc → SV → SV → Option Bool
  | .bool, .bool a, .bool b => some (a == b)
  | .int _, .int k a, .int k' b => if k = k' then some (a == b) else none
  | .string, .str a, .str b => some (a == b)
  | .pointer _, .nilp, .nilp => some true
  | .pointer _, .nilp, .ptr _ _ => some false
  | .pointer _, .ptr _ _, .nilp => some false
  | .slice _, .nils, .nils => some true
  | .slice _, .nils, .sl _ _ _ _ _ => some false
  | .slice _, .nils, .slz _ => some false
  | .slice _, .sl _ _ _ _ _, .nils => some false
  | .slice _, .slz _, .nils => some false
  | .map _ _, .nilm, .nilm => some true
  | .map _ _, .nilm, .map _ => some false
  | .map _ _, .map _, .nilm => some false
  | .func _ _ _, .nilf, .nilf => some true
  | .func _ _ _, .nilf, .func _ _ => some false
  | .func _ _ _, .func _ _, .nilf => some false
  | .interface _, .nili, .nili => some true
  | _, _, _ => none
theorem SV.sl_form {E : Env} {i o l : Nat} {c : Option Nat} {k : Nat} {v : Value} (h : (SV.sl i o l c k).rel E v) : ∃ p cp, E.m i = some p ∧ l ≤ cp ∧ v = .slice (some ⟨p.blk, p.dl + o, none⟩) l cp := by
  cases c with
  | some c => obtain ⟨p, hp, hl, rfl⟩ := h; exact ⟨p, c, hp, hl, rfl⟩
  | none => obtain ⟨p, hp, hl, rfl⟩ := h; exact ⟨p, p.cap - k, hp, by omega, rfl⟩
theorem SV.slz_form {E : Env} {c : Option Nat} {v : Value} (h : (SV.slz c).rel E v) : ∃ a cp, v = .slice (some a) 0 cp := by
  cases c with
  | some c => obtain ⟨a, rfl⟩ := h; exact ⟨a, c, rfl⟩
  | none => obtain ⟨a, c, rfl⟩ := h; exact ⟨a, c, rfl⟩
set_option maxHeartbeats 1000000 in
theorem eqSV_run {P : Program} {E : Env} {h : T Blk} {d : Nat} {t : TypeId} {u : TypeDesc} (hu : P.underlying t = some u) {x y : SV} {b : Bool} {v v' : Value} (hb : eqSV h u x y = some b) (hx : x.rel E v) (hy : y.rel E v') (w : World) : (Op.equalIn (d + 1) t v v').run P w = .ok b w := by
  unfold eqSV at hb
  split at hb
  case h_1 =>
    obtain rfl := hx
    obtain rfl := hy
    obtain rfl := Option.some.inj hb
    simp only [Op.equalIn, Sem.run_bind, run_underlying hu, Result.andThen_ok, Sem.run_pure, Option.isNone]
  case h_2 =>
    obtain rfl := hx
    obtain rfl := hy
    split at hb
    · rename_i hk
      obtain rfl := Option.some.inj hb
      subst hk
      simp only [Op.equalIn, Sem.run_bind, run_underlying hu, Result.andThen_ok, Option.isNone]
      rw [if_pos trivial]
      rfl
    · cases hb
  case h_3 =>
    obtain rfl := hx
    obtain rfl := hy
    obtain rfl := Option.some.inj hb
    simp only [Op.equalIn, Sem.run_bind, run_underlying hu, Result.andThen_ok, Sem.run_pure, Option.isNone]
  case h_4 =>
    obtain rfl := hx
    obtain rfl := hy
    obtain rfl := Option.some.inj hb
    simp only [Op.equalIn, Sem.run_bind, run_underlying hu, Result.andThen_ok, Sem.run_pure, Option.isNone]
  case h_5 =>
    obtain rfl := hx
    obtain ⟨p, _, rfl⟩ := hy
    obtain rfl := Option.some.inj hb
    simp only [Op.equalIn, Sem.run_bind, run_underlying hu, Result.andThen_ok, Sem.run_pure, Option.isNone]
  case h_6 =>
    obtain rfl := hy
    obtain ⟨p, _, rfl⟩ := hx
    obtain rfl := Option.some.inj hb
    simp only [Op.equalIn, Sem.run_bind, run_underlying hu, Result.andThen_ok, Sem.run_pure, Option.isNone]
  case h_7 =>
    obtain rfl := hx
    obtain rfl := hy
    obtain rfl := Option.some.inj hb
    simp only [Op.equalIn, Sem.run_bind, run_underlying hu, Result.andThen_ok, Sem.run_pure, Option.isNone]
  case h_8 =>
    obtain rfl := hx
    obtain ⟨p, c, _, _, rfl⟩ := SV.sl_form hy
    obtain rfl := Option.some.inj hb
    simp only [Op.equalIn, Sem.run_bind, run_underlying hu, Result.andThen_ok, Sem.run_pure, Option.isNone]
  case h_9 =>
    obtain rfl := hx
    obtain ⟨p, c, rfl⟩ := SV.slz_form hy
    obtain rfl := Option.some.inj hb
    simp only [Op.equalIn, Sem.run_bind, run_underlying hu, Result.andThen_ok, Sem.run_pure, Option.isNone]
  case h_10 =>
    obtain rfl := hy
    obtain ⟨p, c, _, _, rfl⟩ := SV.sl_form hx
    obtain rfl := Option.some.inj hb
    simp only [Op.equalIn, Sem.run_bind, run_underlying hu, Result.andThen_ok, Sem.run_pure, Option.isNone]
  case h_11 =>
    obtain rfl := hy
    obtain ⟨p, c, rfl⟩ := SV.slz_form hx
    obtain rfl := Option.some.inj hb
    simp only [Op.equalIn, Sem.run_bind, run_underlying hu, Result.andThen_ok, Sem.run_pure, Option.isNone]
  case h_12 =>
    obtain rfl := hx
    obtain rfl := hy
    obtain rfl := Option.some.inj hb
    simp only [Op.equalIn, Sem.run_bind, run_underlying hu, Result.andThen_ok, Sem.run_pure, Option.isNone]
  case h_13 =>
    obtain rfl := hx
    obtain ⟨p, _, rfl⟩ := hy
    obtain rfl := Option.some.inj hb
    simp only [Op.equalIn, Sem.run_bind, run_underlying hu, Result.andThen_ok, Sem.run_pure, Option.isNone]
  case h_14 =>
    obtain rfl := hy
    obtain ⟨p, _, rfl⟩ := hx
    obtain rfl := Option.some.inj hb
    simp only [Op.equalIn, Sem.run_bind, run_underlying hu, Result.andThen_ok, Sem.run_pure, Option.isNone]
  case h_15 =>
    obtain rfl := hx
    obtain rfl := hy
    obtain rfl := Option.some.inj hb
    simp only [Op.equalIn, Sem.run_bind, run_underlying hu, Result.andThen_ok, Sem.run_pure, Option.isNone]
  case h_16 =>
    obtain rfl := hx
    obtain ⟨p, rfl, _⟩ := hy
    obtain rfl := Option.some.inj hb
    simp only [Op.equalIn, Sem.run_bind, run_underlying hu, Result.andThen_ok, Sem.run_pure, Option.isNone]
  case h_17 =>
    obtain rfl := hy
    obtain ⟨p, rfl, _⟩ := hx
    obtain rfl := Option.some.inj hb
    simp only [Op.equalIn, Sem.run_bind, run_underlying hu, Result.andThen_ok, Sem.run_pure, Option.isNone]
  case h_18 =>
    obtain rfl := hx
    obtain rfl := hy
    obtain rfl := Option.some.inj hb
    simp only [Op.equalIn, Sem.run_bind, run_underlying hu, Result.andThen_ok, Sem.run_pure, Option.isNone]
  case h_19 => cases hb

/-- Are two values alike? By their type, as the model asks. -/
def eqF (C : Ctx) (rec : TypeId → AV → AV → Option Bool) (xs ys : List SV) : List Field → Option Bool
  | [] => some true
  | f :: fs =>
    if f.name ≠ "_" then
      (C.tab f.type).bind fun e => (evPart e xs f.offset).bind fun a => (evPart e ys f.offset).bind fun b => (rec f.type a b).bind fun r => if r = true then eqF C rec xs ys fs else some false
    else eqF C rec xs ys fs
def eqI (el : TypeId) (ee : TE) (rec : TypeId → AV → AV → Option Bool) (xs ys : List SV) : List Nat → Option Bool
  | [] => some true
  | i :: is => (evPart ee xs (i * ee.size)).bind fun a => (evPart ee ys (i * ee.size)).bind fun b => (rec el a b).bind fun r => if r = true then eqI el ee rec xs ys is else some false
/-- Open numbers and texts. -/
def eqVar (C : Ctx) : TypeDesc → SV → SV → Option Bool
  | .int k, x, y => (asI x).bind fun a => (asI y).bind fun b => if a.1 = k ∧ b.1 = k then C.tru (.eq a.2 b.2) else none
  | .string, x, y => (asS x).bind fun a => (asS y).bind fun b => C.tru (.seq a b)
  | _, _, _ => none
theorem eqVar_run {C : Ctx} (hC : C.Ok) {E : Env} (hρ : E.ρ = C.ρ) {d : Nat} {t : TypeId} {u : TypeDesc} (hu : C.P.underlying t = some u) {x y : SV} {b : Bool} {v v' : Value} (hb : eqVar C u x y = some b) (hx : x.rel E v) (hy : y.rel E v') (w : World) : (Op.equalIn (d + 1) t v v').run C.P w = .ok b w := by
  unfold eqVar at hb
  split at hb
  · rename_i k
    obtain ⟨⟨k1, a⟩, ha, hb1⟩ := Option.bind_eq_some_iff.1 hb
    obtain ⟨⟨k2, c⟩, hc, hb2⟩ := Option.bind_eq_some_iff.1 hb1
    clear hb hb1
    simp only at hb2
    split at hb2
    · rename_i hk
      obtain ⟨rfl, rfl⟩ := hk
      have hq := hC.tru_ok hb2
      obtain rfl := asI_rel ha hx
      obtain rfl := asI_rel hc hy
      refine eqSV_run (h := .nil) (E := E) (x := .int k2 (a.int E.ρ)) (y := .int k2 (c.int E.ρ)) hu ?_ rfl rfl w
      show (if k2 = k2 then some (a.int E.ρ == c.int E.ρ) else none) = some b
      rw [if_pos rfl, hρ, ← hq]
      rfl
    · cases hb2
  · obtain ⟨a, ha, hb⟩ := Option.bind_eq_some_iff.1 hb
    obtain ⟨c, hc, hb⟩ := Option.bind_eq_some_iff.1 hb
    have hq := hC.tru_ok hb
    obtain rfl := asS_rel ha hx
    obtain rfl := asS_rel hc hy
    simp only [Op.equalIn, Sem.run_bind, run_underlying hu, Result.andThen_ok, Sem.run_pure, Option.isNone]
    rw [hρ]
    refine congrArg (fun z => Result.ok z w) (Eq.trans ?_ hq)
    exact beq_toListBytes _ _
  · cases hb
def evEq (C : Ctx) (h : T Blk) : Nat → TypeId → AV → AV → Option Bool
  | 0, _, _, _ => none
  | d + 1, t, x, y =>
    (C.tab t).bind fun e =>
      match e.und, x, y with
      | .struct fs, .agg xs, .agg ys => if e.held = true then none else eqF C (evEq C h d) xs ys fs.toList
      | .array n el, .agg xs, .agg ys => (C.tab el).bind fun ee => eqI el ee (evEq C h d) xs ys (List.range n)
      | u, .s a, .s b => match eqSV h u a b with
        | some r => some r
        | none => eqVar C u a b
      | _, _, _ => none

theorem evEq_run {C : Ctx} (hC : C.Ok) {E : Env} (hρ : E.ρ = C.ρ) {h : T Blk} : ∀ (d D : Nat), d ≤ D → ∀ (t : TypeId) (x y : AV) (b : Bool) (v v' : Value), evEq C h d t x y = some b → x.rel E v → y.rel E v' → ∀ w, (Op.equalIn D t v v').run C.P w = .ok b w
  | 0, _, _, _, _, _, _, _, _, hb, _, _, _ => by cases hb
  | d + 1, 0, hD, _, _, _, _, _, _, _, _, _, _ => by omega
  | d + 1, D + 1, hD, t, x, y, b, v, v', hb, hx, hy, w => by
    unfold evEq at hb
    obtain ⟨e, he, hb⟩ := Option.bind_eq_some_iff.1 hb
    have ht := hC.tab t e he
    split at hb
    · rename_i fs xs ys hu hb0
      clear hb0
      obtain ⟨vs, rfl, hvs⟩ := hx
      obtain ⟨vs', rfl, hvs'⟩ := hy
      split at hb
      · cases hb
      · rename_i hh
        have hfs : C.P.fieldsOf t = fs := by unfold Program.fieldsOf; rw [ht.und, hu]
        rw [run_equalIn_struct w D t _ _ (by rw [hfs, ht.und, hu]) (by rw [ht.held]; simpa using hh), hfs]
        revert hb
        generalize fs.toList = l
        intro hb
        induction l with
        | nil => obtain rfl := Option.some.inj hb; rfl
        | cons f fs ih =>
          unfold eqF at hb
          unfold Op.eqFields
          split at hb
          · rename_i hn
            obtain ⟨e1, he1, hb⟩ := Option.bind_eq_some_iff.1 hb
            obtain ⟨a1, ha1, hb⟩ := Option.bind_eq_some_iff.1 hb
            obtain ⟨a2, ha2, hb⟩ := Option.bind_eq_some_iff.1 hb
            obtain ⟨r, hr, hb⟩ := Option.bind_eq_some_iff.1 hb
            obtain ⟨u1, hu1, hr1⟩ := run_part (hC.tab _ _ he1) hvs ha1 w
            obtain ⟨u2, hu2, hr2⟩ := run_part (hC.tab _ _ he1) hvs' ha2 w
            have h3 := evEq_run hC hρ d D (by omega) f.type a1 a2 r u1 u2 hr hr1 hr2 w
            rw [if_pos hn]
            simp only [Sem.run_bind, hu1, hu2, h3, Result.andThen_ok]
            cases r
            · simp only [Bool.false_eq_true, if_false] at hb
              obtain rfl := Option.some.inj hb
              simp
            · simp only [if_true] at hb
              simpa using ih hb
          · rename_i hn
            rw [if_neg hn]
            exact ih hb
    · rename_i n el xs ys hu hb0
      clear hb0
      obtain ⟨vs, rfl, hvs⟩ := hx
      obtain ⟨vs', rfl, hvs'⟩ := hy
      obtain ⟨ee, hee, hb⟩ := Option.bind_eq_some_iff.1 hb
      have hte := hC.tab _ _ hee
      obtain ⟨i, hi, _⟩ := hte.info
      rw [run_equalIn_array w D _ _ (by rw [ht.und, hu]) hi, hte.cellsOf]
      revert hb
      generalize List.range n = l
      intro hb
      induction l with
      | nil => obtain rfl := Option.some.inj hb; rfl
      | cons f fs ih =>
        unfold eqI at hb
        unfold Op.eqItems
        obtain ⟨a1, ha1, hb⟩ := Option.bind_eq_some_iff.1 hb
        obtain ⟨a2, ha2, hb⟩ := Option.bind_eq_some_iff.1 hb
        obtain ⟨r, hr, hb⟩ := Option.bind_eq_some_iff.1 hb
        obtain ⟨u1, hu1, hr1⟩ := run_part hte hvs ha1 w
        obtain ⟨u2, hu2, hr2⟩ := run_part hte hvs' ha2 w
        have h3 := evEq_run hC hρ d D (by omega) el a1 a2 r u1 u2 hr hr1 hr2 w
        simp only [Sem.run_bind, hu1, hu2, h3, Result.andThen_ok]
        cases r
        · simp only [Bool.false_eq_true, if_false] at hb
          obtain rfl := Option.some.inj hb
          simp
        · simp only [if_true] at hb
          simpa using ih hb
    · split at hb
      · rename_i r hr
        obtain rfl := Option.some.inj hb
        exact eqSV_run ht.und hr hx hy w
      · exact eqVar_run hC hρ ht.und hb hx hy w
    · cases hb

end Go.Proofs.YtcnimekhpnejlaaGreat.Ev

/- The evaluator: operations on values, and on memory. -/
namespace Go.Proofs.YtcnimekhpnejlaaGreat.Ev
open Go Go.RowKit
set_option linter.unusedVariables false
set_option linter.unusedSimpArgs false

abbrev Res := EV × T Blk × Nat
/-- The computation s ends in what r tells. -/
def Runs (C : Ctx) (E : Env) (h : T Blk) (nx : Nat) (w : World) (s : Sem Value) (r : Res) : Prop :=
  HRel E h w → E.ρ = C.ρ → Fresh E nx r.2.2 → RunsV C.P E h nx w s r.1 r.2.1 r.2.2

theorem run_newVar {P : Program} {E : Env} {h : T Blk} {nx : Nat} {w : World} (hr : HRel E h w) (hn : E.m nx = none) (t : TypeId) {x : AV} {v : Value} (hx : x.rel E v) :
    ∃ w' E', (newVar t v).run P w = .ok ⟨w.heap.size, 0, none⟩ w' ∧ Goes E h nx w E' (h.set nx (.cells t none (Cells.ofList x.cells) false)) (nx + 1) w' ∧ E'.m nx = some ⟨w.heap.size, 0, 0⟩ := by
  have hc := AV.cells_rel hx
  obtain ⟨h1, h2⟩ := Cells.ofList_rel hc
  rw [Array.toArray_toList] at h1 h2
  obtain ⟨h3, h4⟩ := HRel.run_row (P := P) hr hn t h1 h2
  exact ⟨_, _, h3, h4, Env.put_at _ _ _⟩
theorem fresh1 {E : Env} {nx : Nat} (h : Fresh E nx (nx + 1)) : E.m nx = none := h nx (Nat.le_refl _) (Nat.lt_succ_self _)

def evNew (h : T Blk) (nx : Nat) (t : TypeId) (x : AV) : Res := (.a (.s (.ptr nx 0)), h.set nx (.cells t none (Cells.ofList x.cells) false), nx + 1)
def evAlloc (C : Ctx) (h : T Blk) (nx : Nat) (t : TypeId) : Option Res := (C.tab t).bind fun e => (litAV e.zero).bind fun z => some (evNew h nx t z)
theorem evAlloc_run {C : Ctx} (hC : C.Ok) {E : Env} {h : T Blk} {nx : Nat} {w : World} {t : TypeId} {r : Res} (he : evAlloc C h nx t = some r) : Runs C E h nx w (Instr.alloc t true (.tuple #[])) r := by
  intro hr _ hf
  obtain ⟨e, h1, he⟩ := Option.bind_eq_some_iff.1 he
  obtain ⟨z, h2, he⟩ := Option.bind_eq_some_iff.1 he
  obtain rfl := Option.some.inj he
  obtain ⟨w', E', hrun, hg, hm⟩ := run_newVar (P := C.P) hr (fresh1 hf) t (litAV_rel (E := E) h2)
  exact ⟨_, w', E', by simp [Instr.alloc, (hC.tab t e h1).run_zero, hrun], hg, _, hm, rfl⟩
def evBox (h : T Blk) (nx : Nat) (t : TypeId) : EV → Option Res
  | .a x => some (evNew h nx t x)
  | _ => none
theorem evBox_run {C : Ctx} {E : Env} {h : T Blk} {nx : Nat} {w : World} {t : TypeId} {x : EV} {v : Value} {r : Res} (he : evBox h nx t x = some r) (hx : x.rel E v) : Runs C E h nx w (Instr.box t v) r := by
  intro hr _ hf
  unfold evBox at he
  split at he
  · obtain rfl := Option.some.inj he
    obtain ⟨w', E', hrun, hg, hm⟩ := run_newVar (P := C.P) hr (fresh1 hf) t hx
    exact ⟨_, w', E', by simp [Instr.box, hrun], hg, _, hm, rfl⟩
  · cases he

/-! ### Loads and stores -/
def evLoadAt (C : Ctx) (h : T Blk) (t : TypeId) (i o : Nat) : Option AV :=
  (C.tab t).bind fun e =>
    match h.get i with
    | some (.cells _ _ c _) => if aggD e.und = true then (if o + e.size ≤ c.n then some (.agg (c.list o e.size)) else none) else if o < c.n then some (.s (c.get o)) else none
    | _ => none
theorem evLoadAt_run {C : Ctx} (hC : C.Ok) {E : Env} {h : T Blk} {w : World} {t : TypeId} {i o : Nat} {x : AV} (he : evLoadAt C h t i o = some x) (hr : HRel E h w) {p : Pl} (hp : E.m i = some p) :
    ∃ v, (loadVar t ⟨p.blk, p.dl + o, none⟩).run C.P w = .ok v w ∧ x.rel E v := by
  obtain ⟨e, h1, he⟩ := Option.bind_eq_some_iff.1 he
  have ht := hC.tab t e h1
  split at he
  · rename_i t' opn c fz hb
    unfold loadVar
    simp only [Sem.run_bind, ht.run_agg w, Result.andThen_ok, Sem.run_ite]
    split at he
    · rename_i ha
      split at he
      · rename_i hn
        obtain rfl := Option.some.inj he
        obtain ⟨vs, _, h2, h3⟩ := HRel.run_load (P := C.P) hr hb hp o e.size hn
        exact ⟨.agg vs.toArray, by simp [ha, ht.run_size w, h3], vs, rfl, h2⟩
      · cases he
    · rename_i ha
      split at he
      · rename_i hn
        obtain rfl := Option.some.inj he
        obtain ⟨vs, hl, h2, h3⟩ := hr.read hb hp o 1 (by omega)
        obtain ⟨v, hv, hrel⟩ := h2.get 0 (c.get o) (Cells.list_get c 1 o 0 (by omega))
        have h4 := h3 0 v hv
        rw [Nat.add_zero] at h4
        exact ⟨v, by simp [ha, run_load, h4], hrel⟩
      · cases he
  · cases he
def evLoad (C : Ctx) (h : T Blk) (t : TypeId) : EV → Option EV
  | .a (.s (.ptr i o)) => (evLoadAt C h t i o).map .a
  | _ => none
theorem evLoad_run {C : Ctx} (hC : C.Ok) {E : Env} {h : T Blk} {w : World} {t : TypeId} {x r : EV} {v : Value} (he : evLoad C h t x = some r) (hr : HRel E h w) (hx : x.rel E v) :
    ∃ v', (Instr.loadAt t v).run C.P w = .ok v' w ∧ r.rel E v' := by
  unfold evLoad at he
  split at he
  · obtain ⟨y, hy, rfl⟩ := Option.map_eq_some_iff.1 he
    obtain ⟨p, hp, rfl⟩ := hx
    obtain ⟨v, h1, h2⟩ := evLoadAt_run hC hy hr hp
    exact ⟨v, by simp [Instr.loadAt, Instr.sureAddr, h1], h2⟩
  · cases he

def evStore (C : Ctx) (h : T Blk) (t : TypeId) : EV → EV → Option (T Blk)
  | .a (.s (.ptr i o)), .a x =>
    (C.tab t).bind fun e =>
      match h.get i with
      | some (.cells t' opn c fz) => if x.cells.length = e.size ∧ o + e.size ≤ c.n then some (h.set i (.cells t' opn (c.puts o x.cells) fz)) else none
      | _ => none
  | _, _ => none
theorem evStore_run {C : Ctx} (hC : C.Ok) {E : Env} {h h' : T Blk} {nx : Nat} {w : World} {t : TypeId} {a x : EV} {va vx : Value} (he : evStore C h t a x = some h') (hr : HRel E h w) (ha : a.rel E va) (hx : x.rel E vx) :
    ∃ w', (Instr.storeAt t va vx).run C.P w = .ok () w' ∧ Goes E h nx w E h' nx w' := by
  unfold evStore at he
  split at he
  · rename_i i o x
    obtain ⟨e, h1, he⟩ := Option.bind_eq_some_iff.1 he
    have ht := hC.tab t e h1
    split at he
    · rename_i t' opn c fz hb
      split at he
      · rename_i hn
        obtain rfl := Option.some.inj he
        obtain ⟨p, hp, rfl⟩ := ha
        have hc := AV.cells_rel hx
        obtain ⟨w', h2, h3⟩ := HRel.run_store (P := C.P) (nx := nx) hr hb hp o hc (by omega)
        refine ⟨w', ?_, h3⟩
        have hl : vx.cells.size = e.size := by rw [← hn.1, ← hc.length, Array.length_toList]
        simp [Instr.storeAt, Instr.sureAddr, storeVar, ht.run_size w, hl, h2]
      · cases he
    · cases he
  · cases he

/-! ### Addresses -/
def evFieldAddr (C : Ctx) (s : TypeId) (f : Nat) : EV → Option EV
  | .a (.s (.ptr i o)) => (C.tab s).bind fun e =>
    match e.und with
    | .struct fs => (fs[f]?).bind fun fd => (C.tab fd.type).bind fun ef => if ef.size = 0 then none else some (.a (.s (.ptr i (o + fd.offset))))
    | _ => none
  | _ => none
theorem evFieldAddr_run {C : Ctx} (hC : C.Ok) {E : Env} {w : World} {s : TypeId} {f : Nat} {x r : EV} {v : Value} (he : evFieldAddr C s f x = some r) (hx : x.rel E v) :
    ∃ v', (Instr.fieldAt s v f).run C.P w = .ok v' w ∧ r.rel E v' := by
  unfold evFieldAddr at he
  split at he
  · obtain ⟨e, h1, he⟩ := Option.bind_eq_some_iff.1 he
    split at he
    · rename_i fs hu
      obtain ⟨fd, h2, he⟩ := Option.bind_eq_some_iff.1 he
      obtain ⟨ef, h3, he⟩ := Option.bind_eq_some_iff.1 he
      split at he
      · cases he
      · rename_i hz
        obtain rfl := Option.some.inj he
        obtain ⟨p, hp, rfl⟩ := hx
        have hru := (hC.tab s e h1).run_und w
        rw [hu] at hru
        refine ⟨.pointer (some ⟨p.blk, p.dl + (_ + fd.offset), none⟩), ?_, p, hp, rfl⟩
        simp [Instr.fieldAt, hru, h2, Instr.sureAddr, fieldPlace, (hC.tab _ _ h3).run_size w, hz, add_eq, Nat.add_assoc]
    · cases he
  · cases he

/-- A place among so many. -/
def Ctx.idx (C : Ctx) (n : Nat) : SV → Option Nat
  | .int _ j => if 0 ≤ j ∧ j < n then some j.toNat else none
  | .xi _ e => if n ≤ 64 then (List.range n).find? fun j => decide (C.tru (.eq e (.li j)) = some true) else none
  | _ => none
theorem Ctx.Ok.idx_ok {C : Ctx} (hC : C.Ok) {E : Env} (hρ : E.ρ = C.ρ) {n j : Nat} {x : SV} {v : Value} (h : C.idx n x = some j) (hx : x.rel E v) : j < n ∧ ∃ k, v = .int k j := by
  unfold Ctx.idx at h
  split at h
  · split at h
    · rename_i k i hj
      obtain rfl := Option.some.inj h
      obtain rfl := hx
      exact ⟨by omega, k, by rw [Int.toNat_of_nonneg hj.1]⟩
    · cases h
  · split at h
    · rename_i k e hn
      have h1 := List.mem_range.1 (List.mem_of_find?_eq_some h)
      have h2 := List.find?_some h
      simp only [decide_eq_true_eq] at h2
      have h3 := hC.tru_ok h2
      refine ⟨h1, k, ?_⟩
      obtain rfl := hx
      rw [hρ]
      have h4 : (e.int C.ρ == (j : Int)) = true := h3
      rw [beq_iff_eq.1 h4]
    · cases h
  · cases h
def evIndexAddr (C : Ctx) (t : TypeId) : EV → EV → Option EV
  | .a (.s (.ptr i o)), .a (.s y) => (C.tab t).bind fun e =>
    match e.und with
    | .array n el => (C.tab el).bind fun ee => (C.idx n y).map fun j => .a (.s (.ptr i (o + j * ee.size)))
    | _ => none
  | .a (.s (.sl i o len c q)), .a (.s y) => (C.tab t).bind fun e =>
    match e.und with
    | .slice el => (C.tab el).bind fun ee => (C.idx len y).map fun j => .a (.s (.ptr i (o + j * ee.size)))
    | _ => none
  | _, _ => none
theorem evIndexAddr_run {C : Ctx} (hC : C.Ok) {E : Env} (hρ : E.ρ = C.ρ) {w : World} {t : TypeId} {x y r : EV} {v u : Value} (he : evIndexAddr C t x y = some r) (hx : x.rel E v) (hy : y.rel E u) :
    ∃ v', (Instr.indexAt t v u).run C.P w = .ok v' w ∧ r.rel E v' := by
  unfold evIndexAddr at he
  split at he
  · rename_i i o y
    obtain ⟨e, h1, he⟩ := Option.bind_eq_some_iff.1 he
    split at he
    · rename_i n el hu
      obtain ⟨ee, h2, he⟩ := Option.bind_eq_some_iff.1 he
      obtain ⟨j, hj, rfl⟩ := Option.map_eq_some_iff.1 he
      obtain ⟨p, hp, rfl⟩ := hx
      obtain ⟨hlt, k, rfl⟩ := hC.idx_ok hρ hj hy
      have hru := (hC.tab t e h1).run_und w
      rw [hu] at hru
      have hj2 : 0 ≤ (j : Int) ∧ (j : Int) < n := by omega
      refine ⟨_, by simp [Instr.indexAt, hru, asIntOf, Instr.sureAddr, hlt, (hC.tab _ _ h2).run_size w, add_eq]; rfl, p, hp, by rw [Nat.add_assoc]⟩
    · cases he
  · rename_i i o len c q y
    obtain ⟨e, h1, he⟩ := Option.bind_eq_some_iff.1 he
    split at he
    · rename_i el hu
      obtain ⟨ee, h2, he⟩ := Option.bind_eq_some_iff.1 he
      obtain ⟨j, hj, rfl⟩ := Option.map_eq_some_iff.1 he
      obtain ⟨p, cp, hp, _, rfl⟩ := SV.sl_form hx
      obtain ⟨hlt, k, rfl⟩ := hC.idx_ok hρ hj hy
      have hru := (hC.tab t e h1).run_und w
      rw [hu] at hru
      refine ⟨_, by simp [Instr.indexAt, hru, asIntOf, hlt, (hC.tab _ _ h2).run_size w, add_eq]; rfl, p, hp, by rw [Nat.add_assoc]⟩
    · cases he
  · cases he

end Go.Proofs.YtcnimekhpnejlaaGreat.Ev

/- The evaluator: operations on numbers, texts, structs, slices. -/
namespace Go.Proofs.YtcnimekhpnejlaaGreat.Ev
open Go Go.RowKit
set_option linter.unusedVariables false
set_option linter.unusedSimpArgs false

/-! ### Two operands -/
/-- The model's own value of a small one. -/
def back : SV → Option Value
  | .bool b => some (.bool b)
  | .int k n => some (.int k n)
  | .str s => some (.string s)
  | _ => none
theorem back_eq {E : Env} {x : SV} {v u : Value} (h : back x = some v) (hx : x.rel E u) : u = v := by
  unfold back at h
  split at h <;> first | (obtain rfl := Option.some.inj h; exact hx) | cases h

def isEql : BinOp → Option Bool
  | .eql => some true
  | .neq => some false
  | _ => none
/-- Small operands: the model's own operator. -/
def evBinS (op : BinOp) (t : TypeId) (x y : SV) : Option EV :=
  (back x).bind fun a => (back y).bind fun b => (pureOf (binOp op t a b)).bind fun v => (litSV v).map fun z => .a (.s z)
def plain : SV → Bool
  | .int _ _ | .str _ | .xi _ _ | .xb _ | .xs _ | .op _ | .nili => false
  | _ => true
/-- Open operands. -/
def evBinI (C : Ctx) (op : BinOp) (k : IntKind) (a b : X) : Option SV :=
  match op with
  | .add | .sub | .mul => some (.xi k (.bin op k a b))
  | .quo | .rem => if C.tru (.eq b (.li 0)) = some false then some (.xi k (.bin op k a b)) else none
  | .shl => if C.tru (.lt b (.li 0)) = some false then some (.xi k (.bin op k a b)) else none
  | .eql => some (.xb (.eq a b))
  | .neq => some (.xb (.not (.eq a b)))
  | .lss => some (.xb (.lt a b))
  | .gtr => some (.xb (.lt b a))
  | .leq => some (.xb (.not (.lt b a)))
  | .geq => some (.xb (.not (.lt a b)))
  | _ => none
def evBinT (C : Ctx) (op : BinOp) (a b : X) : Option SV :=
  match op with
  | .add => if C.tru (.big a b) = some false then some (.xs (.cat a b)) else none
  | .eql => some (.xb (.seq a b))
  | .neq => some (.xb (.not (.seq a b)))
  | .lss => some (.xb (.slt a b))
  | .geq => some (.xb (.not (.slt a b)))
  | _ => none
def evBinX (C : Ctx) (op : BinOp) (x y : SV) : Option SV :=
  match asI x, asI y with
  | some a, some b => if a.1 = b.1 then evBinI C op a.1 a.2 b.2 else none
  | _, _ =>
    match asS x, asS y with
    | some a, some b => evBinT C op a b
    | _, _ => none
theorem evBinX_run {C : Ctx} (hC : C.Ok) {E : Env} (hρ : E.ρ = C.ρ) {op : BinOp} {t : TypeId} {x y r : SV} {v u : Value} (he : evBinX C op x y = some r) (hx : x.rel E v) (hy : y.rel E u) (w : World) :
    ∃ z, (binOp op t v u).run C.P w = .ok z w ∧ r.rel E z := by
  unfold evBinX at he
  split at he
  · rename_i a b ha hb
    split at he
    · rename_i hk
      obtain ⟨k, a⟩ := a
      obtain ⟨k2, b⟩ := b
      simp only at hk he
      subst hk
      obtain rfl := asI_rel ha hx
      obtain rfl := asI_rel hb hy
      unfold evBinI at he
      split at he
      · obtain rfl := Option.some.inj he
        exact ⟨_, by simp [binOp, Op.intArith]; rfl, rfl⟩
      · obtain rfl := Option.some.inj he
        exact ⟨_, by simp [binOp, Op.intArith]; rfl, rfl⟩
      · obtain rfl := Option.some.inj he
        exact ⟨_, by simp [binOp, Op.intArith]; rfl, rfl⟩
      · split at he
        · rename_i h0
          obtain rfl := Option.some.inj he
          have h1 := hC.tru_ok h0
          have h2 : b.int E.ρ ≠ 0 := fun e => by
            rw [hρ] at e
            have : (b.int C.ρ == 0) = false := h1
            rw [e] at this
            cases this
          exact ⟨_, by simp [binOp, Op.intDiv, h2]; rfl, rfl⟩
        · cases he
      · split at he
        · rename_i h0
          obtain rfl := Option.some.inj he
          have h1 := hC.tru_ok h0
          have h2 : b.int E.ρ ≠ 0 := fun e => by
            rw [hρ] at e
            have : (b.int C.ρ == 0) = false := h1
            rw [e] at this
            cases this
          exact ⟨_, by simp [binOp, Op.intDiv, h2]; rfl, rfl⟩
        · cases he
      · split at he
        · rename_i h0
          obtain rfl := Option.some.inj he
          have h1 : decide (b.int C.ρ < 0) = false := hC.tru_ok h0
          have h2 := of_decide_eq_false h1
          rw [← hρ] at h2
          exact ⟨_, by simp only [binOp, Op.shift]; rw [if_neg h2]; rfl, rfl⟩
        · cases he
      · obtain rfl := Option.some.inj he
        exact ⟨_, by simp [binOp, Op.intCmp]; rfl, rfl⟩
      · obtain rfl := Option.some.inj he
        exact ⟨_, by simp only [binOp, Op.intCmp, ne_eq, not_true_eq_false, if_false]; rfl, rfl⟩
      · obtain rfl := Option.some.inj he
        exact ⟨_, by simp only [binOp, Op.intCmp, ne_eq, not_true_eq_false, if_false]; rfl, rfl⟩
      · obtain rfl := Option.some.inj he
        exact ⟨_, by simp only [binOp, Op.intCmp, ne_eq, not_true_eq_false, if_false]; rfl, rfl⟩
      · obtain rfl := Option.some.inj he
        refine ⟨_, by simp only [binOp, Op.intCmp, ne_eq, not_true_eq_false, if_false]; rfl, ?_⟩
        show Value.bool _ = .bool (!decide (b.int E.ρ < a.int E.ρ))
        congr 1
        rw [← decide_not]
        exact decide_eq_decide.2 Int.not_lt.symm
      · obtain rfl := Option.some.inj he
        refine ⟨_, by simp only [binOp, Op.intCmp, ne_eq, not_true_eq_false, if_false]; rfl, ?_⟩
        show Value.bool _ = .bool (!decide (a.int E.ρ < b.int E.ρ))
        congr 1
        rw [← decide_not]
        exact decide_eq_decide.2 Int.not_lt.symm
      · cases he
    · cases he
  · split at he
    · rename_i a b ha hb
      obtain rfl := asS_rel ha hx
      obtain rfl := asS_rel hb hy
      unfold evBinT at he
      split at he
      · split at he
        · rename_i h0
          obtain rfl := Option.some.inj he
          have h1 : decide ((((a.str C.ρ).size + (b.str C.ρ).size : Nat) : Int) > IntKind.i64.max) = false := hC.tru_ok h0
          have h2 := of_decide_eq_false h1
          rw [← hρ] at h2
          exact ⟨_, by simp only [binOp, Op.stringOp]; rw [if_neg h2]; rfl, rfl⟩
        · cases he
      · obtain rfl := Option.some.inj he
        exact ⟨_, by simp only [binOp, Op.stringOp]; rfl, rfl⟩
      · obtain rfl := Option.some.inj he
        exact ⟨_, by simp only [binOp, Op.stringOp]; rfl, rfl⟩
      · obtain rfl := Option.some.inj he
        exact ⟨_, by simp only [binOp, Op.stringOp]; rfl, rfl⟩
      · obtain rfl := Option.some.inj he
        exact ⟨_, by simp only [binOp, Op.stringOp]; rfl, rfl⟩
      · cases he
    · cases he
def evBin (C : Ctx) (h : T Blk) (op : BinOp) (t : TypeId) : EV → EV → Option EV
  | .a (.s x), .a (.s y) =>
    match evBinS op t x y with
    | some r => some r
    | none =>
      match evBinX C op x y with
      | some r => some (.a (.s r))
      | none => if plain x = true then (isEql op).bind fun q => (evEq C h 2 t (.s x) (.s y)).map fun b => .a (.s (.bool (b == q))) else none
  | .a (.agg xs), .a (.agg ys) => (C.tab t).bind fun e => if e.eqg = true then none else (isEql op).bind fun q => (evEq C h 9 t (.agg xs) (.agg ys)).map fun b => .a (.s (.bool (b == q)))
  | _, _ => none

theorem eqGuard_scalar {P : Program} (op : BinOp) (t : TypeId) (x y : Operand) {a b : Value} (ha : a.oneCell' = true) (hn : ¬ (a = .nilIface ∧ b = .nilIface)) (w : World) : (eqGuard op t x y a b).run P w = .ok () w := by
  unfold eqGuard
  cases op <;> (try rfl)
  all_goals
    simp only [Bool.not_true, Bool.false_eq_true, if_false]
    cases a <;> cases b <;> first | rfl | (exact absurd ⟨rfl, rfl⟩ hn) | (simp [Value.oneCell'] at ha)

/-- How == and != are asked where no operand is a number, a text or a float. -/
def eqForm (a b : Value) : Bool :=
  match a, b with
  | .int _ _, .int _ _ | .float _ _, .float _ _ | .complex _ _ _, .complex _ _ _ | .string _, .string _ => false
  | _, _ => true
theorem binOp_eql (t : TypeId) {a b : Value} (h : eqForm a b = true) : binOp .eql t a b = (do pure (.bool (← Op.equal t a b)) : Sem Value) := by
  cases a <;> cases b <;> first | rfl | (simp [eqForm] at h)
theorem binOp_neq (t : TypeId) {a b : Value} (h : eqForm a b = true) : binOp .neq t a b = (do pure (.bool (!(← Op.equal t a b))) : Sem Value) := by
  cases a <;> cases b <;> first | rfl | (simp [eqForm] at h)
theorem run_eq {P : Program} {op : BinOp} {q : Bool} (hq : isEql op = some q) {t : TypeId} {a b : Value} (hf : eqForm a b = true) {r : Bool} {w : World} (h : (Op.equalIn 10000 t a b).run P w = .ok r w) :
    (binOp op t a b).run P w = .ok (.bool (r == q)) w := by
  cases op <;> first
    | (cases hq; done)
    | (obtain rfl := Option.some.inj hq
       rw [binOp_eql t hf]
       simp [Op.equal, Op.maxDepth, h])
    | (obtain rfl := Option.some.inj hq
       rw [binOp_neq t hf]
       simp [Op.equal, Op.maxDepth, h])
theorem plain_form {E : Env} {x : SV} {v : Value} (h : plain x = true) (hx : x.rel E v) : (∀ u, eqForm v u = true) ∧ v ≠ .nilIface := by
  cases x with
  | bool b => obtain rfl := hx; exact ⟨fun u => by cases u <;> rfl, by intro e; cases e⟩
  | int k n => cases h
  | str s => cases h
  | xi k e => cases h
  | xb e => cases h
  | xs e => cases h
  | op i => cases h
  | nili => cases h
  | nilp => obtain rfl := hx; exact ⟨fun u => by cases u <;> rfl, by intro e; cases e⟩
  | ptr i o => obtain ⟨p, _, rfl⟩ := hx; exact ⟨fun u => by cases u <;> rfl, by intro e; cases e⟩
  | nils => obtain rfl := hx; exact ⟨fun u => by cases u <;> rfl, by intro e; cases e⟩
  | sl i o l c k => obtain ⟨p, c, _, _, rfl⟩ := SV.sl_form hx; exact ⟨fun u => by cases u <;> rfl, by intro e; cases e⟩
  | slz c => obtain ⟨p, c, rfl⟩ := SV.slz_form hx; exact ⟨fun u => by cases u <;> rfl, by intro e; cases e⟩
  | nilm => obtain rfl := hx; exact ⟨fun u => by cases u <;> rfl, by intro e; cases e⟩
  | map i => obtain ⟨p, _, rfl⟩ := hx; exact ⟨fun u => by cases u <;> rfl, by intro e; cases e⟩
  | func f cs => obtain ⟨p, rfl, _⟩ := hx; exact ⟨fun u => by cases u <;> rfl, by intro e; cases e⟩
  | nilf => obtain rfl := hx; exact ⟨fun u => by cases u <;> rfl, by intro e; cases e⟩

/-- The computation s reads only, and ends in what r stands for. -/
def Reads (C : Ctx) (E : Env) (w : World) (s : Sem Value) (r : EV) : Prop := ∃ v, s.run C.P w = .ok v w ∧ r.rel E v

theorem evBin_run {C : Ctx} (hC : C.Ok) {E : Env} (hρ : E.ρ = C.ρ) {h : T Blk} {w : World} {op : BinOp} {t : TypeId} {x y r : EV} {v u : Value} (X Y : Operand) (he : evBin C h op t x y = some r) (hx : x.rel E v) (hy : y.rel E u) :
    Reads C E w (do eqGuard op t X Y v u; binOp op t v u) r := by
  unfold evBin at he
  split at he
  · rename_i x y
    have h1 := SV.oneCell hx
    split at he
    · rename_i r' hs
      obtain rfl := Option.some.inj he
      obtain ⟨a, ha, hs⟩ := Option.bind_eq_some_iff.1 hs
      obtain ⟨b, hb, hs⟩ := Option.bind_eq_some_iff.1 hs
      obtain ⟨z, hz, hs⟩ := Option.bind_eq_some_iff.1 hs
      obtain ⟨q, hq, rfl⟩ := Option.map_eq_some_iff.1 hs
      obtain rfl := back_eq ha hx
      obtain rfl := back_eq hb hy
      refine ⟨z, ?_, litSV_rel hq⟩
      rw [Sem.run_bind, eqGuard_scalar op t X Y h1 (by rintro ⟨rfl, _⟩; cases x <;> first | (cases ha; done) | (simp [back] at ha)) w, Result.andThen_ok]
      exact pureOf_run hz C.P w
    · split at he
      · rename_i z hz
        obtain rfl := Option.some.inj he
        obtain ⟨v', h2, h3⟩ := evBinX_run hC hρ (t := t) hz hx hy w
        refine ⟨v', ?_, h3⟩
        rw [Sem.run_bind, eqGuard_scalar op t X Y h1 (by
          rintro ⟨rfl, _⟩
          unfold evBinX at hz
          split at hz
          · rename_i ha _
            exact absurd (asI_rel ha hx) (by intro e; cases e)
          · split at hz
            · rename_i ha _
              exact absurd (asS_rel ha hx) (by intro e; cases e)
            · cases hz) w, Result.andThen_ok]
        exact h2
      · split at he
        · rename_i hp
          obtain ⟨q, hq, he⟩ := Option.bind_eq_some_iff.1 he
          obtain ⟨b, hb, rfl⟩ := Option.map_eq_some_iff.1 he
          obtain ⟨hf, hn⟩ := plain_form hp hx
          refine ⟨.bool (b == q), ?_, rfl⟩
          rw [Sem.run_bind, eqGuard_scalar op t X Y h1 (fun e => hn e.1) w, Result.andThen_ok]
          exact run_eq hq (hf u) (evEq_run hC hρ 2 10000 (by omega) t _ _ b v u hb hx hy w)
        · cases he
  · rename_i xs ys
    obtain ⟨e, h1, he⟩ := Option.bind_eq_some_iff.1 he
    split at he
    · cases he
    · rename_i hg
      obtain ⟨q, hq, he⟩ := Option.bind_eq_some_iff.1 he
      obtain ⟨b, hb, rfl⟩ := Option.map_eq_some_iff.1 he
      have h2 := evEq_run hC hρ 9 10000 (by omega) t _ _ b v u hb hx hy w
      obtain ⟨vs, rfl, _⟩ := hx
      obtain ⟨us, rfl, _⟩ := hy
      refine ⟨.bool (b == q), ?_, rfl⟩
      have hgd : C.P.eqGuardType C.P.depth t = false := by rw [(hC.tab t e h1).eqg]; simpa using hg
      rw [Sem.run_bind, run_eqGuard_agg w op t X Y _ _ hgd, Result.andThen_ok]
      exact run_eq hq rfl h2
  · cases he

def evUnX (op : UnOp) (x : SV) : Option SV :=
  match op with
  | .not => (asB x).map fun e => .xb (.not e)
  | .neg => (asI x).map fun a => .xi a.1 (.bin .sub a.1 (.li 0) a.2)
  | _ => none
def evUn (op : UnOp) : EV → Option EV
  | .a (.s x) =>
    match (back x).bind fun a => (pureOf (Op.unary op a)).bind fun v => (litSV v).map fun z => .a (.s z) with
    | some r => some r
    | none => (evUnX op x).map fun z => .a (.s z)
  | _ => none
theorem evUn_run {C : Ctx} {E : Env} {w : World} {op : UnOp} {x r : EV} {v : Value} (he : evUn op x = some r) (hx : x.rel E v) : Reads C E w (Op.unary op v) r := by
  unfold evUn at he
  split at he
  · split at he
    · rename_i r' hs
      obtain rfl := Option.some.inj he
      obtain ⟨a, ha, hs⟩ := Option.bind_eq_some_iff.1 hs
      obtain ⟨z, hz, hs⟩ := Option.bind_eq_some_iff.1 hs
      obtain ⟨q, hq, rfl⟩ := Option.map_eq_some_iff.1 hs
      obtain rfl := back_eq ha hx
      exact ⟨z, pureOf_run hz C.P w, litSV_rel hq⟩
    · obtain ⟨z, hz, rfl⟩ := Option.map_eq_some_iff.1 he
      unfold evUnX at hz
      split at hz
      · obtain ⟨e, he2, rfl⟩ := Option.map_eq_some_iff.1 hz
        obtain rfl := asB_rel he2 hx
        exact ⟨_, rfl, rfl⟩
      · obtain ⟨⟨k, a⟩, he2, rfl⟩ := Option.map_eq_some_iff.1 hz
        obtain rfl := asI_rel he2 hx
        exact ⟨_, rfl, rfl⟩
      · cases hz
  · cases he

def evConvInt (C : Ctx) (src dst : TypeId) : EV → Option EV
  | .a (.s (.int k n)) => (C.tab src).bind fun _ => (C.tab dst).bind fun e =>
    match e.und with
    | .int q => some (.a (.s (.int q (q.wrap n))))
    | _ => none
  | .a (.s (.xi k n)) => (C.tab src).bind fun _ => (C.tab dst).bind fun e =>
    match e.und with
    | .int q => some (.a (.s (.xi q (.conv q n))))
    | _ => none
  | _ => none
theorem evConvInt_run {C : Ctx} (hC : C.Ok) {E : Env} {w : World} {src dst : TypeId} {x r : EV} {v : Value} (he : evConvInt C src dst x = some r) (hx : x.rel E v) : Reads C E w (convert src dst v) r := by
  unfold evConvInt at he
  split at he
  · rename_i k n
    obtain ⟨e1, h1, he⟩ := Option.bind_eq_some_iff.1 he
    obtain ⟨e, h2, he⟩ := Option.bind_eq_some_iff.1 he
    split at he
    · rename_i q hu
      obtain rfl := Option.some.inj he
      obtain rfl := hx
      have hr1 := (hC.tab _ _ h1).run_und w
      have hr2 := (hC.tab _ _ h2).run_und w
      rw [hu] at hr2
      exact ⟨_, by simp only [convert, Sem.run_bind, hr1, hr2, Result.andThen_ok]; rfl, rfl⟩
    · cases he
  · rename_i k n
    obtain ⟨e1, h1, he⟩ := Option.bind_eq_some_iff.1 he
    obtain ⟨e, h2, he⟩ := Option.bind_eq_some_iff.1 he
    split at he
    · rename_i q hu
      obtain rfl := Option.some.inj he
      obtain rfl := hx
      have hr1 := (hC.tab _ _ h1).run_und w
      have hr2 := (hC.tab _ _ h2).run_und w
      rw [hu] at hr2
      exact ⟨_, by simp only [convert, Sem.run_bind, hr1, hr2, Result.andThen_ok]; rfl, rfl⟩
    · cases he
  · cases he

/-! ### Parts of values -/
theorem bytes_at {s : ByteArray} {j : Nat} (h : j < s.size) : s[j]? = some (s.data.getD j 0) := by
  have h2 : j < s.data.size := h
  rw [getElem?_pos s j h]
  unfold Array.getD
  rw [dif_pos h2]
  rfl
def evIndex (C : Ctx) (t : TypeId) : EV → EV → Option EV
  | .a (.agg cs), .a (.s y) => (C.tab t).bind fun e =>
    match e.und with
    | .array n el => (C.tab el).bind fun ee => (C.idx n y).bind fun j => (evPart ee cs (j * ee.size)).map .a
    | _ => none
  | .a (.s x), .a (.s y) => (C.tab t).bind fun e =>
    match e.und with
    | .string =>
      match x, y with
      | .str s, .int k j => if 0 ≤ j then (s[j.toNat]?).map fun b => .a (.s (.int .u8 b.toNat)) else none
      | x, y => (asS x).bind fun s => (asI y).bind fun i => if C.tru (.lt i.2 (.li 0)) = some false ∧ C.tru (.lt i.2 (.len s)) = some true then some (.a (.s (.xi .u8 (.byte s i.2)))) else none
    | _ => none
  | _, _ => none
theorem evIndex_run {C : Ctx} (hC : C.Ok) {E : Env} (hρ : E.ρ = C.ρ) {w : World} {t : TypeId} {x y r : EV} {v u : Value} (he : evIndex C t x y = some r) (hx : x.rel E v) (hy : y.rel E u) : Reads C E w (Instr.index t v u) r := by
  unfold evIndex at he
  split at he
  · rename_i cs y
    obtain ⟨e, h1, he⟩ := Option.bind_eq_some_iff.1 he
    split at he
    · rename_i n el hu
      obtain ⟨ee, h2, he⟩ := Option.bind_eq_some_iff.1 he
      obtain ⟨j, hj, he⟩ := Option.bind_eq_some_iff.1 he
      obtain ⟨a, ha, rfl⟩ := Option.map_eq_some_iff.1 he
      obtain ⟨vs, rfl, hvs⟩ := hx
      obtain ⟨hlt, k, rfl⟩ := hC.idx_ok hρ hj hy
      have hru := (hC.tab t e h1).run_und w
      rw [hu] at hru
      obtain ⟨z, hz, hrel⟩ := run_part (hC.tab _ _ h2) hvs ha w
      exact ⟨z, by simp [Instr.index, asIntOf, hru, hlt, (hC.tab _ _ h2).run_size w, hz], hrel⟩
    · cases he
  · rename_i x y
    obtain ⟨e, h1, he⟩ := Option.bind_eq_some_iff.1 he
    split at he
    · rename_i hu
      have hru := (hC.tab t e h1).run_und w
      rw [hu] at hru
      split at he
      · rename_i s k j
        split at he
        · rename_i hj
          obtain ⟨b, hb, rfl⟩ := Option.map_eq_some_iff.1 he
          obtain rfl := hx
          obtain rfl := hy
          exact ⟨.int .u8 b.toNat, by simp [Instr.index, asIntOf, hru, hj, hb], rfl⟩
        · cases he
      · obtain ⟨s, hs, he⟩ := Option.bind_eq_some_iff.1 he
        obtain ⟨⟨k, i⟩, hi, he⟩ := Option.bind_eq_some_iff.1 he
        split at he
        · rename_i hc
          obtain rfl := Option.some.inj he
          obtain rfl := asS_rel hs hx
          obtain rfl := asI_rel hi hy
          have c1 : decide (i.int C.ρ < 0) = false := hC.tru_ok hc.1
          have c2 : decide (i.int C.ρ < ((s.str C.ρ).size : Int)) = true := hC.tru_ok hc.2
          have c1 := of_decide_eq_false c1
          have c2 := of_decide_eq_true c2
          rw [← hρ] at c1 c2
          have hb := bytes_at (s := s.str E.ρ) (j := (i.int E.ρ).toNat) (by omega)
          have h0 : 0 ≤ i.int E.ρ := by omega
          exact ⟨_, by simp only [Instr.index, asIntOf, hru, Sem.run_bind, Sem.run_pure, Result.andThen_ok, h0, if_true, hb]; rfl, rfl⟩
        · cases he
    · cases he
  · cases he

def evField (C : Ctx) (t : TypeId) (f : Nat) : EV → Option EV
  | .a (.agg cs) => (C.tab t).bind fun e =>
    match e.und with
    | .struct fs => (fs[f]?).bind fun fd => (C.tab fd.type).bind fun ef => (evPart ef cs fd.offset).map .a
    | _ => none
  | _ => none
theorem evField_run {C : Ctx} (hC : C.Ok) {E : Env} {w : World} {t : TypeId} {f : Nat} {x r : EV} {v : Value} (he : evField C t f x = some r) (hx : x.rel E v) : Reads C E w (Instr.field t v f) r := by
  unfold evField at he
  split at he
  · obtain ⟨e, h1, he⟩ := Option.bind_eq_some_iff.1 he
    split at he
    · rename_i fs hu
      obtain ⟨fd, h2, he⟩ := Option.bind_eq_some_iff.1 he
      obtain ⟨ef, h3, he⟩ := Option.bind_eq_some_iff.1 he
      obtain ⟨a, ha, rfl⟩ := Option.map_eq_some_iff.1 he
      obtain ⟨vs, rfl, hvs⟩ := hx
      have hru := (hC.tab t e h1).run_und w
      rw [hu] at hru
      obtain ⟨z, hz, hrel⟩ := run_part (hC.tab _ _ h3) hvs ha w
      exact ⟨z, by simp [Instr.field, hru, h2, asAgg, hz], hrel⟩
    · cases he
  · cases he

def evExtract (i : Nat) : EV → Option EV
  | .tup l => (l[i]?).map .a
  | _ => none
theorem evExtract_run {C : Ctx} {E : Env} {w : World} {i : Nat} {x r : EV} {v : Value} (he : evExtract i x = some r) (hx : x.rel E v) : Reads C E w (Instr.extract v i) r := by
  unfold evExtract at he
  split at he
  · obtain ⟨a, ha, rfl⟩ := Option.map_eq_some_iff.1 he
    obtain ⟨vs, rfl, hvs⟩ := hx
    obtain ⟨z, hz, hrel⟩ := hvs.get i a ha
    exact ⟨z, by simp [Instr.extract, hz], hrel⟩
  · cases he

end Go.Proofs.YtcnimekhpnejlaaGreat.Ev

/- The evaluator: structs and slices that are made, slices of slices, small builtins. -/
namespace Go.Proofs.YtcnimekhpnejlaaGreat.Ev
open Go Go.RowKit
set_option linter.unusedVariables false
set_option linter.unusedSimpArgs false

/-! ### Filling -/
def evFill (place : Nat → Option (Nat × Nat)) (cells : List SV) : List (Nat × AV) → Option (List SV)
  | [] => some cells
  | (i, v) :: rest =>
    match place i with
    | none => none
    | some (off, size) => if v.cells.length = size ∧ off + size ≤ cells.length then evFill place (cells.take off ++ v.cells ++ cells.drop (off + size)) rest else none

theorem foldl_set (off : Nat) : ∀ (l : List Value) (k : Nat) (cs : Array Value), off + k + l.length ≤ cs.size →
    ((l.zipIdx k).foldl (fun (cs : Array Value) (x : Value × Nat) => cs.setIfInBounds (off + x.2) x.1) cs).toList = cs.toList.take (off + k) ++ l ++ cs.toList.drop (off + k + l.length)
  | [], k, cs, h => by simp
  | x :: l, k, cs, h => by
    rw [List.length_cons] at h
    rw [List.zipIdx_cons, List.foldl_cons, foldl_set off l (k + 1) _ (by rw [Array.size_setIfInBounds]; omega)]
    have hlt : off + k < cs.toList.length := by rw [Array.length_toList]; omega
    rw [Array.toList_setIfInBounds, List.length_cons]
    rw [show off + (k + 1) = (off + k) + 1 by omega, List.take_succ_eq_append_getElem (by rw [List.length_set]; exact hlt), List.getElem_set_self, List.take_set_of_le (by omega), List.drop_set_of_lt (by omega)]
    rw [List.append_assoc, List.append_assoc, List.append_assoc]
    rw [show off + k + 1 + l.length = off + k + (l.length + 1) by omega]
    rfl

theorem evFill_run {E : Env} {place : Nat → Option (Nat × Nat)} : ∀ {parts : List (Nat × AV)} {vs : List (Nat × Value)} {cells r : List SV} {arr : Array Value}, evFill place cells parts = some r → Rels (fun (x : Nat × AV) (y : Nat × Value) => x.1 = y.1 ∧ x.2.rel E y.2) parts vs → Rels (SV.rel E) cells arr.toList →
    ∃ arr', Instr.fill place arr vs = some arr' ∧ Rels (SV.rel E) r arr'.toList
  | [], [], cells, r, arr, he, _, hc => by
    obtain rfl := Option.some.inj he
    exact ⟨arr, rfl, hc⟩
  | (i, v) :: rest, (j, u) :: vs, cells, r, arr, he, hp, hc => by
    obtain ⟨⟨rfl, hv⟩, hp2⟩ := hp
    unfold evFill at he
    unfold Instr.fill
    split at he
    · cases he
    · rename_i off size hpl
      split at he
      · rename_i hn
        have hv' : v.rel E u := hv
        have hcv := AV.cells_rel hv'
        have hl := hcv.length
        have hl2 := hc.length
        rw [Array.length_toList] at hl hl2
        simp only [hpl]
        have hcond : (decide (u.cells.size ≠ size) || decide (off + u.cells.size > arr.size)) = false := by
          simp only [Bool.or_eq_false_iff, decide_eq_false_iff_not]
          omega
        rw [if_neg (by rw [hcond]; simp)]
        refine evFill_run he hp2 ?_
        rw [← Array.foldl_toList, Array.toList_zipIdx, foldl_set off u.cells.toList 0 arr (by rw [Array.length_toList]; omega)]
        rw [Nat.add_zero, Array.length_toList, show u.cells.size = size by omega]
        exact ((hc.take off).app hcv).app (hc.drop (off + size))
      · cases he
  | [], _ :: _, _, _, _, _, hp, _ => hp.elim
  | _ :: _, [], _, _, _, _, hp, _ => hp.elim

theorem run_mapM' {P : Program} {w : World} {α β : Type} {f : α → Sem β} {g : α → β} : ∀ (l : List α), (∀ x ∈ l, (f x).run P w = .ok (g x) w) → (l.mapM f).run P w = .ok (l.map g) w
  | [], _ => by simp
  | x :: l, h => by
    rw [List.mapM_cons]
    simp only [Sem.run_bind, h x (by simp), Result.andThen_ok, run_mapM' l (fun y hy => h y (by simp [hy])), Sem.run_pure, List.map_cons]

def opParts : List (Nat × EV) → Option (List (Nat × AV))
  | [] => some []
  | (i, .a x) :: r => (opParts r).map fun l => (i, x) :: l
  | _ => none
theorem opParts_rel {E : Env} : ∀ {ps : List (Nat × EV)} {vs : List (Nat × Value)} {r : List (Nat × AV)}, opParts ps = some r → Rels (fun (x : Nat × EV) (y : Nat × Value) => x.1 = y.1 ∧ x.2.rel E y.2) ps vs → Rels (fun (x : Nat × AV) (y : Nat × Value) => x.1 = y.1 ∧ x.2.rel E y.2) r vs
  | [], [], r, h, _ => by
    obtain rfl := Option.some.inj h
    trivial
  | (i, .a x) :: ps, v :: vs, r, h, hr => by
    obtain ⟨l, hl, rfl⟩ := Option.map_eq_some_iff.1 h
    exact ⟨hr.1, opParts_rel hl hr.2⟩
  | (i, .tup x) :: ps, _, r, h, _ => by cases h
  | [], _ :: _, _, _, hr => hr.elim
  | (_, .a _) :: _, [], _, _, hr => hr.elim

def evBuild (C : Ctx) (t : TypeId) (parts : List (Nat × EV)) : Option EV :=
  (C.tab t).bind fun e => (litAV e.zero).bind fun z => (opParts parts).bind fun ps =>
    match e.und with
    | .struct fs => if fs.toList.all (fun f => (C.tab f.type).isSome) = true then (evFill (fun i => (fs[i]?).map fun f => (f.offset, ((C.tab f.type).map (·.size)).getD 0)) z.cells ps).map fun cs => .a (.agg cs) else none
    | .array _ el => (C.tab el).bind fun ee => (evFill (fun i => some (i * ee.size, ee.size)) z.cells ps).map fun cs => .a (.agg cs)
    | _ => none
theorem evBuild_run {C : Ctx} (hC : C.Ok) {E : Env} {w : World} {t : TypeId} {parts : List (Nat × EV)} {vs : Array (Nat × Value)} {r : EV} (he : evBuild C t parts = some r) (hp : Rels (fun (x : Nat × EV) (y : Nat × Value) => x.1 = y.1 ∧ x.2.rel E y.2) parts vs.toList) :
    Reads C E w (Instr.build t vs) r := by
  obtain ⟨e, h1, he⟩ := Option.bind_eq_some_iff.1 he
  obtain ⟨z, h2, he⟩ := Option.bind_eq_some_iff.1 he
  obtain ⟨ps, h3, he⟩ := Option.bind_eq_some_iff.1 he
  have ht := hC.tab t e h1
  have hz := AV.cells_rel (litAV_rel (E := E) h2)
  have hps := opParts_rel h3 hp
  split at he
  · rename_i fs hu
    split at he
    · rename_i hall
      obtain ⟨cs, hcs, rfl⟩ := Option.map_eq_some_iff.1 he
      obtain ⟨arr, ha, hr⟩ := evFill_run hcs hps hz
      have hru := ht.run_und w
      rw [hu] at hru
      have hm : (fs.mapM (fun f => (do pure (f.offset, ← sizeOf f.type) : Sem (Nat × Nat)))).run C.P w = .ok (fs.map fun f => (f.offset, ((C.tab f.type).map (·.size)).getD 0)) w := by
        rw [Array.mapM_eq_mapM_toList, Sem.run_map, run_mapM' (g := fun f => (f.offset, ((C.tab f.type).map (·.size)).getD 0)) fs.toList (fun f hf => ?_)]
        · simp only [Result.andThen_ok]
          rw [← Array.toList_map]
        · obtain ⟨ef, hef⟩ := Option.isSome_iff_exists.1 (List.all_eq_true.1 hall f hf)
          simp [(hC.tab _ _ hef).run_size w, hef]
      refine ⟨.agg arr, ?_, arr.toList, by simp, hr⟩
      simp only [Instr.build, Sem.run_bind, ht.run_zero w, Result.andThen_ok, hru, hm, Array.getElem?_map]
      rw [ha]
      rfl
    · cases he
  · rename_i n el hu
    obtain ⟨ee, h4, he⟩ := Option.bind_eq_some_iff.1 he
    obtain ⟨cs, hcs, rfl⟩ := Option.map_eq_some_iff.1 he
    obtain ⟨arr, ha, hr⟩ := evFill_run hcs hps hz
    have hru := ht.run_und w
    rw [hu] at hru
    refine ⟨.agg arr, ?_, arr.toList, by simp, hr⟩
    simp only [Instr.build, Sem.run_bind, ht.run_zero w, Result.andThen_ok, hru, (hC.tab _ _ h4).run_size w]
    rw [ha]
    rfl
  · cases he

/-! ### Rows of zeros -/
def zeroL (zs : List SV) (n : Nat) : List SV := (List.range n).map fun j => (zs[j % zs.length]?).getD .nilp
theorem zero_rel {E : Env} {zs : List SV} {zv : Array Value} (hz : Rels (SV.rel E) zs zv.toList) (hs : 0 < zs.length) (n : Nat) : Rels (SV.rel E) (zeroL zs n) ((Array.range n).map (fun j => zv[j % zv.size]!)).toList := by
  have hl := hz.length
  rw [Array.length_toList] at hl
  refine Rels.of_get (by simp [zeroL]) (fun i a b ha hb => ?_)
  have hi : i < n := by
    have := (List.getElem?_eq_some_iff.1 ha).1
    simpa [zeroL] using this
  simp only [zeroL, List.getElem?_map, List.getElem?_range hi, Option.map_some, Option.some.injEq] at ha
  rw [Array.toList_map, List.getElem?_map, Array.toList_range, List.getElem?_range hi] at hb
  simp only [Option.map_some, Option.some.injEq] at hb
  have hlt : i % zs.length < zs.length := Nat.mod_lt _ hs
  obtain ⟨v, hv, hrel⟩ := hz.get (i % zs.length) zs[i % zs.length] (List.getElem?_eq_getElem hlt)
  rw [← ha, ← hb, List.getElem?_eq_getElem hlt]
  rw [Array.getElem?_toList] at hv
  have hlt2 : i % zv.size < zv.size := by rw [hl]; exact hlt
  rw [getElem!_pos zv (i % zv.size) hlt2]
  have : zv[i % zv.size]? = some v := by rw [hl]; exact hv
  rw [Array.getElem?_eq_getElem hlt2] at this
  obtain rfl := Option.some.inj this
  exact hrel

def evBuildSlice (C : Ctx) (h : T Blk) (nx : Nat) (t : TypeId) (len : Nat) (parts : List (Nat × EV)) : Option Res :=
  (C.tab t).bind fun e =>
    match e.und with
    | .slice el => (C.tab el).bind fun ee => (litAV ee.zero).bind fun z => (opParts parts).bind fun ps =>
      if len * ee.size ≤ 2 ^ 24 ∧ 0 < z.cells.length ∧ 0 < ee.size then (evFill (fun i => some (i * ee.size, ee.size)) (zeroL z.cells (len * ee.size)) ps).map fun cs => (.a (.s (.sl nx 0 len (some len) 0)), h.set nx (.cells el none (Cells.ofList cs) false), nx + 1) else none
    | _ => none
theorem evBuildSlice_run {C : Ctx} (hC : C.Ok) {E : Env} {h : T Blk} {nx : Nat} {w : World} {t : TypeId} {len : Nat} {parts : List (Nat × EV)} {vs : Array (Nat × Value)} {r : Res} (he : evBuildSlice C h nx t len parts = some r)
    (hp : Rels (fun (x : Nat × EV) (y : Nat × Value) => x.1 = y.1 ∧ x.2.rel E y.2) parts vs.toList) : Runs C E h nx w (Instr.buildSlice t len vs) r := by
  intro hr _ hf
  obtain ⟨e, h1, he⟩ := Option.bind_eq_some_iff.1 he
  split at he
  · rename_i el hu
    obtain ⟨ee, h2, he⟩ := Option.bind_eq_some_iff.1 he
    obtain ⟨z, h3, he⟩ := Option.bind_eq_some_iff.1 he
    obtain ⟨ps, h4, he⟩ := Option.bind_eq_some_iff.1 he
    split at he
    · rename_i hn
      obtain ⟨cs, hcs, rfl⟩ := Option.map_eq_some_iff.1 he
      have hru := (hC.tab t e h1).run_und w
      rw [hu] at hru
      have hte := hC.tab el ee h2
      have hz := AV.cells_rel (litAV_rel (E := E) h3)
      have hlz : ee.zero.cells.size = z.cells.length := by
        have := hz.length
        rwa [Array.length_toList] at this
      obtain ⟨arr, ha, hrel⟩ := evFill_run hcs (opParts_rel h4 hp) (zero_rel hz hn.2.1 (len * ee.size))
      obtain ⟨hs, hg⟩ := Cells.ofList_rel hrel
      rw [Array.toArray_toList] at hs hg
      obtain ⟨hrow, hgoes⟩ := HRel.run_row (P := C.P) hr (fresh1 hf) el hs hg
      refine ⟨_, _, _, ?_, hgoes, _, Env.put_at _ _ _, Nat.le_refl _, rfl⟩
      simp only [Instr.buildSlice, Sem.run_bind, hru, Result.andThen_ok, hte.run_size w, Sem.run_ite, run_unsupported]
      rw [if_neg (by omega)]
      by_cases h0 : len * ee.size = 0
      · rw [if_pos h0]
        have e0 : (Array.map (fun x => (#[] : Array Value)[x % (#[] : Array Value).size]!) (Array.range (len * ee.size))) = (Array.map (fun j => ee.zero.cells[j % ee.zero.cells.size]!) (Array.range (len * ee.size))) := by rw [h0]; simp
        simp only [Sem.run_pure, Result.andThen_ok, e0]
        rw [ha]
        simp only [Sem.run_bind, hrow, Result.andThen_ok, Sem.run_pure, Nat.add_zero]
      · rw [if_neg h0]
        simp only [hte.run_zero w, Sem.run_pure, Result.andThen_ok]
        rw [ha]
        simp only [Sem.run_bind, hrow, Result.andThen_ok, Sem.run_pure, Nat.add_zero]
    · cases he
  · cases he

/-- A row of n zero cells. -/
def zeroCells (zs : List SV) (n : Nat) : Cells :=
  match zs with
  | [] => { n := 0, d := .nilp, t := .nil }
  | z :: r => if Nat.ble 15 r.length = true then { n := n, d := .nilp, t := .nil, w := r.length + 1, dr := z :: r, r := .nil } else if r.all (SV.same z) = true then { n := n, d := z, t := .nil } else Cells.ofList (zeroL (z :: r) n)
theorem zeroCells_rel {E : Env} {zs : List SV} {zv : Array Value} (hz : Rels (SV.rel E) zs zv.toList) (hs : 0 < zs.length) (n : Nat) :
    (zeroCells zs n).n = n ∧ ∀ j, j < n → ∃ v, ((Array.range n).map (fun j => zv[j % zv.size]!))[j]? = some v ∧ ((zeroCells zs n).get j).rel E v := by
  have hrel := zero_rel hz hs n
  have hlen : (zeroL zs n).length = n := by simp [zeroL]
  unfold zeroCells
  split
  · simp at hs
  · rename_i z r
    split
    · refine ⟨rfl, fun j hj => ?_⟩
      obtain ⟨v, hv, h2⟩ := hrel.get j ((zeroL (z :: r) n)[j]'(by omega)) (List.getElem?_eq_getElem _)
      rw [Array.getElem?_toList] at hv
      refine ⟨v, hv, ?_⟩
      have e : (zeroL (z :: r) n)[j]'(by omega) = ({ n := n, d := .nilp, t := .nil, w := r.length + 1, dr := z :: r, r := .nil } : Cells).get j := by
        simp only [zeroL, List.getElem_map, List.getElem_range]
        rfl
      rw [← e]
      exact h2
    split
    · rename_i ha
      refine ⟨rfl, fun j hj => ?_⟩
      obtain ⟨v, hv, h2⟩ := hrel.get j ((zeroL (z :: r) n)[j]'(by omega)) (List.getElem?_eq_getElem _)
      rw [Array.getElem?_toList] at hv
      refine ⟨v, hv, ?_⟩
      have e : (zeroL (z :: r) n)[j]'(by omega) = z := by
        simp only [zeroL, List.getElem_map, List.getElem_range]
        have hlt : j % (z :: r).length < (z :: r).length := Nat.mod_lt _ hs
        rw [List.getElem?_eq_getElem hlt]
        show (z :: r)[j % (z :: r).length] = z
        generalize j % (z :: r).length = q at hlt
        cases q with
        | zero => rfl
        | succ q => exact (SV.same_eq (List.all_eq_true.1 ha _ (List.getElem_mem (by simpa using hlt)))).symm
      rw [e] at h2
      exact h2
    · obtain ⟨h1, h2⟩ := Cells.ofList_rel hrel
      rw [Array.toArray_toList] at h1 h2
      refine ⟨by rw [Cells.ofList_n, hlen], fun j hj => h2 j (by rw [Cells.ofList_n, hlen]; exact hj)⟩

def evMakeSlice (C : Ctx) (h : T Blk) (nx : Nat) (t : TypeId) : EV → EV → Option Res
  | .a (.s (.int kl l)), .a (.s (.int kc c)) =>
    (C.tab t).bind fun e =>
      match e.und with
      | .slice el => (C.tab el).bind fun ee => (litAV ee.zero).bind fun z =>
        if 0 ≤ l ∧ l ≤ c ∧ c < 2 ^ 62 ∧ ee.bytes * c ≤ 2 ^ 48 ∧ 0 < z.cells.length ∧ 0 < ee.size then
          some (.a (.s (.sl nx 0 l.toNat (some c.toNat) 0)), h.set nx (.cells el none (zeroCells z.cells (c.toNat * ee.size)) false), nx + 1)
        else none
      | _ => none
  | _, _ => none
theorem wrap_small {n : Int} (h0 : 0 ≤ n) (h1 : n < 2 ^ 62) : IntKind.i64.wrap n = n := by
  have e : n % (2 ^ IntKind.i64.bits : Int) = n := Int.emod_eq_of_lt h0 (by show n < 2 ^ 64; omega)
  show (if (IntKind.i64.signed && decide (n % (2 ^ IntKind.i64.bits : Int) ≥ (2 ^ (IntKind.i64.bits - 1) : Int))) = true then n % (2 ^ IntKind.i64.bits : Int) - (2 ^ IntKind.i64.bits : Int) else n % (2 ^ IntKind.i64.bits : Int)) = n
  simp only [e]
  have e2 : ¬ n ≥ (2 ^ (IntKind.i64.bits - 1) : Int) := by show ¬ n ≥ 2 ^ 63; omega
  simp only [e2, decide_false, Bool.and_false, Bool.false_eq_true, if_false]
theorem evMakeSlice_run {C : Ctx} (hC : C.Ok) {E : Env} {h : T Blk} {nx : Nat} {w : World} {t : TypeId} {x y : EV} {v u : Value} {r : Res} (he : evMakeSlice C h nx t x y = some r) (hx : x.rel E v) (hy : y.rel E u) : Runs C E h nx w (Instr.makeSlice t v u) r := by
  intro hr _ hf
  unfold evMakeSlice at he
  split at he
  · rename_i kl l kc c
    obtain ⟨e, h1, he⟩ := Option.bind_eq_some_iff.1 he
    split at he
    · rename_i el hu
      obtain ⟨ee, h2, he⟩ := Option.bind_eq_some_iff.1 he
      obtain ⟨z, h3, he⟩ := Option.bind_eq_some_iff.1 he
      split at he
      · rename_i hn
        obtain ⟨n0, n1, n2, n3, n4, n5⟩ := hn
        obtain rfl := Option.some.inj he
        obtain rfl := hx
        obtain rfl := hy
        have hru := (hC.tab t e h1).run_und w
        rw [hu] at hru
        have hte := hC.tab el ee h2
        obtain ⟨i, hinfo, _, hby, _⟩ := hte.run_info w
        have hz := AV.cells_rel (litAV_rel (E := E) h3)
        obtain ⟨hzn, hzr⟩ := zeroCells_rel hz n4 (c.toNat * ee.size)
        obtain ⟨hrow, hgoes⟩ := HRel.run_row (P := C.P) hr (fresh1 hf) el (c := zeroCells z.cells (c.toNat * ee.size)) (cs := (Array.range (c.toNat * ee.size)).map (fun j => ee.zero.cells[j % ee.zero.cells.size]!)) (by rw [hzn]; simp) (fun j hj => hzr j (by rw [hzn] at hj; exact hj))
        have hwl : IntKind.i64.wrap l = l := wrap_small n0 (by omega)
        have hwc : IntKind.i64.wrap c = c := wrap_small (by omega) n2
        refine ⟨.slice (some ⟨w.heap.size, 0, none⟩) l.toNat c.toNat, _, _, ?_, hgoes, _, Env.put_at _ _ _, by omega, rfl⟩
        simp only [Instr.makeSlice, Sem.run_bind, hru, Result.andThen_ok, asInt, asIntOf, Sem.run_pure, hinfo, hwl, hwc]
        have c1 : (decide (c < 0) || decide (((i.bytes : Nat) : Int) * c > 2 ^ 48)) = false := by
          rw [hby]
          simp only [Bool.or_eq_false_iff, decide_eq_false_iff_not]
          omega
        rw [if_neg (by rw [c1]; simp; omega)]
        simp only [Sem.run_bind, run_askRoom, Result.andThen_ok, hte.run_size w, Sem.run_ite, Sem.run_pure, hte.run_zero w]
        by_cases h0 : c.toNat * ee.size = 0
        · rw [if_pos h0]
          have e0 : (Array.map (fun x => (#[] : Array Value)[x % (#[] : Array Value).size]!) (Array.range (c.toNat * ee.size))) = (Array.map (fun j => ee.zero.cells[j % ee.zero.cells.size]!) (Array.range (c.toNat * ee.size))) := by rw [h0]; simp
          simp only [Result.andThen_ok, e0, hrow, Sem.run_pure]
        · rw [if_neg h0]
          simp only [Result.andThen_ok, hrow, Sem.run_pure]
      · cases he
    · cases he
  · cases he

end Go.Proofs.YtcnimekhpnejlaaGreat.Ev
