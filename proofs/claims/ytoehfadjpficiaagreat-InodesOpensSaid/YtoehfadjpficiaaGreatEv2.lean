/- The evaluator: types, literals, parts, equality. -/
import Derived.Test.YtoehfadjpficiaaGreatEv1
import Derived.Laws.StructEq
import Derived.ChangeKeysEq
namespace Go.Proofs.YtoehfadjpficiaaGreat.Ev
open Go Go.RowKit
set_option linter.unusedVariables false

/-- What the evaluator knows of a type. -/
structure TE where
  und : TypeDesc
  size : Nat
  bytes : Nat
  zero : Value
  eqg : Bool
  held : Bool
def TEok (P : Program) (t : TypeId) (e : TE) : Prop :=
  (P.underlying t, (P.info? t).map (fun i => (i.size, i.bytes, i.zero)), P.eqGuardType P.depth t, P.stoodInHeld t) = (some e.und, some (e.size, e.bytes, some e.zero), e.eqg, e.held)
def aggD : TypeDesc → Bool
  | .struct _ | .array _ _ => true
  | _ => false

section te
variable {P : Program} {t : TypeId} {e : TE} (h : TEok P t e)
include h
theorem TEok.und : P.underlying t = some e.und := congrArg Prod.fst h
theorem TEok.info : ∃ i, P.info? t = some i ∧ i.size = e.size ∧ i.bytes = e.bytes ∧ i.zero = some e.zero := by
  have h1 : (P.info? t).map (fun i => (i.size, i.bytes, i.zero)) = some (e.size, e.bytes, some e.zero) := congrArg (fun x => x.2.1) h
  obtain ⟨i, hi, he⟩ := Option.map_eq_some_iff.1 h1
  simp only [Prod.mk.injEq] at he
  exact ⟨i, hi, he.1, he.2.1, he.2.2⟩
theorem TEok.eqg : P.eqGuardType P.depth t = e.eqg := congrArg (fun x => x.2.2.1) h
theorem TEok.held : P.stoodInHeld t = e.held := congrArg (fun x => x.2.2.2) h
theorem TEok.run_und (w : World) : (underlying t).run P w = .ok e.und w := run_underlying h.und w
theorem TEok.run_info (w : World) : ∃ i, (typeInfo t).run P w = .ok i w ∧ i.size = e.size ∧ i.bytes = e.bytes ∧ i.zero = some e.zero := by
  obtain ⟨i, hi, h1⟩ := h.info
  exact ⟨i, by simp [typeInfo, hi], h1⟩
theorem TEok.run_size (w : World) : (sizeOf t).run P w = .ok e.size w := by
  obtain ⟨i, hi, h1, _⟩ := h.run_info w
  simp [sizeOf, hi, h1]
theorem TEok.run_zero (w : World) : (zeroValue t).run P w = .ok e.zero w := by
  obtain ⟨i, hi, _, _, h3⟩ := h.run_info w
  simp [zeroValue, hi, h3]
theorem TEok.run_agg (w : World) : (isAgg t).run P w = .ok (aggD e.und) w := by
  simp only [isAgg, Sem.run_bind, h.run_und w, Result.andThen_ok]
  cases e.und <;> rfl
theorem TEok.cellsOf : P.cellsOf t = e.size := by
  obtain ⟨i, hi, h1, _⟩ := h.info
  simp [Program.cellsOf, hi, h1]
end te

/-! ### Literals -/
def litSV : Value → Option SV
  | .bool b => some (.bool b)
  | .int k n => some (.int k n)
  | .string s => some (.str s)
  | .pointer none => some .nilp
  | .slice none 0 0 => some .nils
  | .map none => some .nilm
  | .nilFunc => some .nilf
  | .nilIface => some .nili
  | _ => none
def litL : List Value → Option (List SV)
  | [] => some []
  | v :: vs => (litSV v).bind fun x => (litL vs).bind fun xs => some (x :: xs)
def litAV : Value → Option AV
  | .agg cs => (litL cs.toList).map .agg
  | v => (litSV v).map .s
theorem litSV_rel {E : Env} {v : Value} {x : SV} (h : litSV v = some x) : x.rel E v := by
  unfold litSV at h
  split at h <;> first | (obtain rfl := Option.some.inj h; rfl) | cases h
theorem litL_rel {E : Env} : ∀ {vs : List Value} {xs : List SV}, litL vs = some xs → Rels (SV.rel E) xs vs
  | [], _, h => by
    obtain rfl := Option.some.inj h
    trivial
  | v :: vs, _, h => by
    obtain ⟨x, hx, h⟩ := Option.bind_eq_some_iff.1 h
    obtain ⟨xs, hxs, h⟩ := Option.bind_eq_some_iff.1 h
    obtain rfl := Option.some.inj h
    exact ⟨litSV_rel hx, litL_rel hxs⟩
theorem litAV_rel {E : Env} {v : Value} {x : AV} (h : litAV v = some x) : x.rel E v := by
  unfold litAV at h
  split at h
  · rename_i cs
    obtain ⟨xs, hxs, rfl⟩ := Option.map_eq_some_iff.1 h
    exact ⟨cs.toList, by simp, litL_rel hxs⟩
  · obtain ⟨x, hx, rfl⟩ := Option.map_eq_some_iff.1 h
    exact litSV_rel hx

/-! ### What a run is -/
structure Ctx where
  P : Program
  tab : Nat → Option TE
  fact : BinOp → Nat → IntKind → Int → Option Bool
  der : BinOp → Nat → IntKind → Int → Option SV
  num : Nat → Option IntKind
  len : Nat → Option SV
  ρ : Nat → Value
structure Ctx.Ok (C : Ctx) : Prop where
  tab : ∀ t e, C.tab t = some e → TEok C.P t e
  fact : ∀ op i k c b, C.fact op i k c = some b → ∀ t w, (binOp op t (C.ρ i) (.int k c)).run C.P w = .ok (.bool b) w
  der : ∀ op i k c y, C.der op i k c = some y → ∀ t w, ∃ v, (binOp op t (C.ρ i) (.int k c)).run C.P w = .ok v w ∧ ∀ E : Env, E.ρ = C.ρ → y.rel E v
  eql : ∀ i k c b, C.fact .eql i k c = some b → ∃ x, C.ρ i = .int k x ∧ (x == c) = b
  num : ∀ i k, C.num i = some k → ∃ x, C.ρ i = .int k x
  len : ∀ i y, C.len i = some y → ∃ a l c, C.ρ i = .slice a l c ∧ ∀ E : Env, E.ρ = C.ρ → y.rel E (.int .i64 (l : Nat))

/-- The computation s ends in what v stands for, with the memory h' behind it. -/
def RunsV (P : Program) (E : Env) (h : T Blk) (nx : Nat) (w : World) (s : Sem Value) (v : EV) (h' : T Blk) (nx' : Nat) : Prop :=
  ∃ v' w' E', s.run P w = .ok v' w' ∧ Goes E h nx w E' h' nx' w' ∧ v.rel E' v'
theorem RunsV.pure {P : Program} {E : Env} {h : T Blk} {nx : Nat} {w : World} {s : Sem Value} {v : EV} (hr : HRel E h w) {v' : Value} (hs : s.run P w = .ok v' w) (hv : v.rel E v') : RunsV P E h nx w s v h nx :=
  ⟨v', w, E, hs, Goes.refl hr, hv⟩

def pureOf : Sem Value → Option Value
  | .pure v => some v
  | _ => none
theorem pureOf_run {s : Sem Value} {v : Value} (h : pureOf s = some v) (P : Program) (w : World) : s.run P w = .ok v w := by
  unfold pureOf at h
  split at h
  · obtain rfl := Option.some.inj h; rfl
  · cases h

/-! ### Parts -/
def evPart (e : TE) (cs : List SV) (off : Nat) : Option AV :=
  if aggD e.und then some (.agg ((cs.drop off).take e.size)) else (cs[off]?).map .s
theorem run_part {P : Program} {E : Env} {t : TypeId} {e : TE} (ht : TEok P t e) {cs : List SV} {vs : List Value} (hr : Rels (SV.rel E) cs vs) {off : Nat} {x : AV} (h : evPart e cs off = some x) (w : World) :
    ∃ v, (part t vs.toArray off).run P w = .ok v w ∧ x.rel E v := by
  unfold evPart at h
  simp only [part, Sem.run_bind, ht.run_agg w, Result.andThen_ok, Sem.run_ite]
  by_cases ha : aggD e.und = true
  · rw [if_pos ha] at h
    obtain rfl := Option.some.inj h
    refine ⟨.agg ((vs.drop off).take e.size).toArray, ?_, _, rfl, (hr.drop off).take e.size⟩
    rw [if_pos ha]
    simp only [ht.run_size w, Result.andThen_ok, Sem.run_pure]
    congr 2
    apply Array.toList_inj.1
    simp [List.extract_eq_take_drop]
  · rw [if_neg ha] at h
    obtain ⟨y, hy, rfl⟩ := Option.map_eq_some_iff.1 h
    obtain ⟨v, hv, hrel⟩ := hr.get off y hy
    refine ⟨v, ?_, hrel⟩
    rw [if_neg ha]
    simp [hv]

/-! ### Equality -/
def live (h : T Blk) (i : Nat) : Bool :=
  match h.get i with
  | some (.cells _ _ _ false) => true
  | _ => false
def eqSV (h : T Blk) : TypeDesc → SV → SV → Option Bool
  | .bool, .bool a, .bool b => some (a == b)
  | .int _, .int k a, .int k' b => if k = k' then some (a == b) else none
  | .string, .str a, .str b => some (a == b)
  | .pointer _, .nilp, .nilp => some true
  | .pointer _, .nilp, .ptr _ _ => some false
  | .pointer _, .ptr _ _, .nilp => some false
  | .slice _, .nils, .nils => some true
  | .slice _, .nils, .sl _ _ _ _ _ => some false
  | .slice _, .nils, .slz _ => some false
  | .slice _, .sl _ _ _ _ _, .nils => some false
  | .slice _, .slz _, .nils => some false
  | .map _ _, .nilm, .nilm => some true
  | .map _ _, .nilm, .map _ => some false
  | .map _ _, .map _, .nilm => some false
  | .func _ _ _, .nilf, .nilf => some true
  | .func _ _ _, .nilf, .func _ _ => some false
  | .func _ _ _, .func _ _, .nilf => some false
  | .interface _, .nili, .nili => some true
  | _, _, _ => none
theorem SV.sl_form {E : Env} {i o l : Nat} {c : Option Nat} {k : Nat} {v : Value} (h : (SV.sl i o l c k).rel E v) : ∃ p cp, E.m i = some p ∧ l ≤ cp ∧ v = .slice (some ⟨p.blk, p.dl + o, none⟩) l cp := by
  cases c with
  | some c => obtain ⟨p, hp, hl, rfl⟩ := h; exact ⟨p, c, hp, hl, rfl⟩
  | none => obtain ⟨p, hp, hl, rfl⟩ := h; exact ⟨p, p.cap - k, hp, by omega, rfl⟩
theorem SV.slz_form {E : Env} {c : Option Nat} {v : Value} (h : (SV.slz c).rel E v) : ∃ a cp, v = .slice (some a) 0 cp := by
  cases c with
  | some c => obtain ⟨a, rfl⟩ := h; exact ⟨a, c, rfl⟩
  | none => obtain ⟨a, c, rfl⟩ := h; exact ⟨a, c, rfl⟩
set_option maxHeartbeats 1000000 in
theorem eqSV_run {P : Program} {E : Env} {h : T Blk} {d : Nat} {t : TypeId} {u : TypeDesc} (hu : P.underlying t = some u) {x y : SV} {b : Bool} {v v' : Value} (hb : eqSV h u x y = some b) (hx : x.rel E v) (hy : y.rel E v') (w : World) : (Op.equalIn (d + 1) t v v').run P w = .ok b w := by
  unfold eqSV at hb
  split at hb
  case h_1 =>
    obtain rfl := hx
    obtain rfl := hy
    obtain rfl := Option.some.inj hb
    simp only [Op.equalIn, Sem.run_bind, run_underlying hu, Result.andThen_ok, Sem.run_pure, Option.isNone]
  case h_2 =>
    obtain rfl := hx
    obtain rfl := hy
    split at hb
    · rename_i hk
      obtain rfl := Option.some.inj hb
      subst hk
      simp only [Op.equalIn, Sem.run_bind, run_underlying hu, Result.andThen_ok, Option.isNone]
      rw [if_pos trivial]
      rfl
    · cases hb
  case h_3 =>
    obtain rfl := hx
    obtain rfl := hy
    obtain rfl := Option.some.inj hb
    simp only [Op.equalIn, Sem.run_bind, run_underlying hu, Result.andThen_ok, Sem.run_pure, Option.isNone]
  case h_4 =>
    obtain rfl := hx
    obtain rfl := hy
    obtain rfl := Option.some.inj hb
    simp only [Op.equalIn, Sem.run_bind, run_underlying hu, Result.andThen_ok, Sem.run_pure, Option.isNone]
  case h_5 =>
    obtain rfl := hx
    obtain ⟨p, _, rfl⟩ := hy
    obtain rfl := Option.some.inj hb
    simp only [Op.equalIn, Sem.run_bind, run_underlying hu, Result.andThen_ok, Sem.run_pure, Option.isNone]
  case h_6 =>
    obtain rfl := hy
    obtain ⟨p, _, rfl⟩ := hx
    obtain rfl := Option.some.inj hb
    simp only [Op.equalIn, Sem.run_bind, run_underlying hu, Result.andThen_ok, Sem.run_pure, Option.isNone]
  case h_7 =>
    obtain rfl := hx
    obtain rfl := hy
    obtain rfl := Option.some.inj hb
    simp only [Op.equalIn, Sem.run_bind, run_underlying hu, Result.andThen_ok, Sem.run_pure, Option.isNone]
  case h_8 =>
    obtain rfl := hx
    obtain ⟨p, c, _, _, rfl⟩ := SV.sl_form hy
    obtain rfl := Option.some.inj hb
    simp only [Op.equalIn, Sem.run_bind, run_underlying hu, Result.andThen_ok, Sem.run_pure, Option.isNone]
  case h_9 =>
    obtain rfl := hx
    obtain ⟨p, c, rfl⟩ := SV.slz_form hy
    obtain rfl := Option.some.inj hb
    simp only [Op.equalIn, Sem.run_bind, run_underlying hu, Result.andThen_ok, Sem.run_pure, Option.isNone]
  case h_10 =>
    obtain rfl := hy
    obtain ⟨p, c, _, _, rfl⟩ := SV.sl_form hx
    obtain rfl := Option.some.inj hb
    simp only [Op.equalIn, Sem.run_bind, run_underlying hu, Result.andThen_ok, Sem.run_pure, Option.isNone]
  case h_11 =>
    obtain rfl := hy
    obtain ⟨p, c, rfl⟩ := SV.slz_form hx
    obtain rfl := Option.some.inj hb
    simp only [Op.equalIn, Sem.run_bind, run_underlying hu, Result.andThen_ok, Sem.run_pure, Option.isNone]
  case h_12 =>
    obtain rfl := hx
    obtain rfl := hy
    obtain rfl := Option.some.inj hb
    simp only [Op.equalIn, Sem.run_bind, run_underlying hu, Result.andThen_ok, Sem.run_pure, Option.isNone]
  case h_13 =>
    obtain rfl := hx
    obtain ⟨p, _, rfl⟩ := hy
    obtain rfl := Option.some.inj hb
    simp only [Op.equalIn, Sem.run_bind, run_underlying hu, Result.andThen_ok, Sem.run_pure, Option.isNone]
  case h_14 =>
    obtain rfl := hy
    obtain ⟨p, _, rfl⟩ := hx
    obtain rfl := Option.some.inj hb
    simp only [Op.equalIn, Sem.run_bind, run_underlying hu, Result.andThen_ok, Sem.run_pure, Option.isNone]
  case h_15 =>
    obtain rfl := hx
    obtain rfl := hy
    obtain rfl := Option.some.inj hb
    simp only [Op.equalIn, Sem.run_bind, run_underlying hu, Result.andThen_ok, Sem.run_pure, Option.isNone]
  case h_16 =>
    obtain rfl := hx
    obtain ⟨p, rfl, _⟩ := hy
    obtain rfl := Option.some.inj hb
    simp only [Op.equalIn, Sem.run_bind, run_underlying hu, Result.andThen_ok, Sem.run_pure, Option.isNone]
  case h_17 =>
    obtain rfl := hy
    obtain ⟨p, rfl, _⟩ := hx
    obtain rfl := Option.some.inj hb
    simp only [Op.equalIn, Sem.run_bind, run_underlying hu, Result.andThen_ok, Sem.run_pure, Option.isNone]
  case h_18 =>
    obtain rfl := hx
    obtain rfl := hy
    obtain rfl := Option.some.inj hb
    simp only [Op.equalIn, Sem.run_bind, run_underlying hu, Result.andThen_ok, Sem.run_pure, Option.isNone]
  case h_19 => cases hb

/-- Are two values alike? By their type, as the model asks. -/
def eqF (C : Ctx) (rec : TypeId → AV → AV → Option Bool) (xs ys : List SV) : List Field → Option Bool
  | [] => some true
  | f :: fs =>
    if f.name ≠ "_" then
      (C.tab f.type).bind fun e => (evPart e xs f.offset).bind fun a => (evPart e ys f.offset).bind fun b => (rec f.type a b).bind fun r => if r = true then eqF C rec xs ys fs else some false
    else eqF C rec xs ys fs
def eqI (el : TypeId) (ee : TE) (rec : TypeId → AV → AV → Option Bool) (xs ys : List SV) : List Nat → Option Bool
  | [] => some true
  | i :: is => (evPart ee xs (i * ee.size)).bind fun a => (evPart ee ys (i * ee.size)).bind fun b => (rec el a b).bind fun r => if r = true then eqI el ee rec xs ys is else some false
/-- Open numbers. -/
def eqVar (C : Ctx) : TypeDesc → SV → SV → Option Bool
  | .int k, .var i, .int k' c => if k = k' then C.fact .eql i k c else none
  | .int k, .var i, .var j => if i = j ∧ C.num i = some k then some true else none
  | _, _, _ => none
theorem eqVar_run {C : Ctx} (hC : C.Ok) {E : Env} (hρ : E.ρ = C.ρ) {d : Nat} {t : TypeId} {u : TypeDesc} (hu : C.P.underlying t = some u) {x y : SV} {b : Bool} {v v' : Value} (hb : eqVar C u x y = some b) (hx : x.rel E v) (hy : y.rel E v') (w : World) : (Op.equalIn (d + 1) t v v').run C.P w = .ok b w := by
  unfold eqVar at hb
  split at hb
  · rename_i k i k' c
    split at hb
    · rename_i hk
      subst hk
      obtain ⟨n, hn, hnb⟩ := hC.eql _ _ _ _ hb
      have e1 := hx.1
      rw [hρ, hn] at e1
      subst e1
      refine eqSV_run (h := .nil) (E := E) (x := .int k n) (y := .int k c) hu ?_ rfl hy w
      show (if k = k then some (n == c) else none) = some b
      rw [if_pos rfl, hnb]
    · cases hb
  · rename_i k i j
    split at hb
    · rename_i hk
      obtain ⟨rfl, hk⟩ := hk
      obtain rfl := Option.some.inj hb
      obtain ⟨n, hn⟩ := hC.num _ _ hk
      have e1 := hx.1
      have e2 := hy.1
      rw [hρ, hn] at e1 e2
      subst e1
      subst e2
      refine eqSV_run (h := .nil) (E := E) (x := .int k n) (y := .int k n) hu ?_ rfl rfl w
      show (if k = k then some (n == n) else none) = some true
      rw [if_pos rfl]
      simp
    · cases hb
  · cases hb
def evEq (C : Ctx) (h : T Blk) : Nat → TypeId → AV → AV → Option Bool
  | 0, _, _, _ => none
  | d + 1, t, x, y =>
    (C.tab t).bind fun e =>
      match e.und, x, y with
      | .struct fs, .agg xs, .agg ys => if e.held = true then none else eqF C (evEq C h d) xs ys fs.toList
      | .array n el, .agg xs, .agg ys => (C.tab el).bind fun ee => eqI el ee (evEq C h d) xs ys (List.range n)
      | u, .s a, .s b => match eqSV h u a b with
        | some r => some r
        | none => eqVar C u a b
      | _, _, _ => none

theorem evEq_run {C : Ctx} (hC : C.Ok) {E : Env} (hρ : E.ρ = C.ρ) {h : T Blk} : ∀ (d D : Nat), d ≤ D → ∀ (t : TypeId) (x y : AV) (b : Bool) (v v' : Value), evEq C h d t x y = some b → x.rel E v → y.rel E v' → ∀ w, (Op.equalIn D t v v').run C.P w = .ok b w
  | 0, _, _, _, _, _, _, _, _, hb, _, _, _ => by cases hb
  | d + 1, 0, hD, _, _, _, _, _, _, _, _, _, _ => by omega
  | d + 1, D + 1, hD, t, x, y, b, v, v', hb, hx, hy, w => by
    unfold evEq at hb
    obtain ⟨e, he, hb⟩ := Option.bind_eq_some_iff.1 hb
    have ht := hC.tab t e he
    split at hb
    · rename_i fs xs ys hu hb0
      clear hb0
      obtain ⟨vs, rfl, hvs⟩ := hx
      obtain ⟨vs', rfl, hvs'⟩ := hy
      split at hb
      · cases hb
      · rename_i hh
        have hfs : C.P.fieldsOf t = fs := by unfold Program.fieldsOf; rw [ht.und, hu]
        rw [run_equalIn_struct w D t _ _ (by rw [hfs, ht.und, hu]) (by rw [ht.held]; simpa using hh), hfs]
        revert hb
        generalize fs.toList = l
        intro hb
        induction l with
        | nil => obtain rfl := Option.some.inj hb; rfl
        | cons f fs ih =>
          unfold eqF at hb
          unfold Op.eqFields
          split at hb
          · rename_i hn
            obtain ⟨e1, he1, hb⟩ := Option.bind_eq_some_iff.1 hb
            obtain ⟨a1, ha1, hb⟩ := Option.bind_eq_some_iff.1 hb
            obtain ⟨a2, ha2, hb⟩ := Option.bind_eq_some_iff.1 hb
            obtain ⟨r, hr, hb⟩ := Option.bind_eq_some_iff.1 hb
            obtain ⟨u1, hu1, hr1⟩ := run_part (hC.tab _ _ he1) hvs ha1 w
            obtain ⟨u2, hu2, hr2⟩ := run_part (hC.tab _ _ he1) hvs' ha2 w
            have h3 := evEq_run hC hρ d D (by omega) f.type a1 a2 r u1 u2 hr hr1 hr2 w
            rw [if_pos hn]
            simp only [Sem.run_bind, hu1, hu2, h3, Result.andThen_ok]
            cases r
            · simp only [Bool.false_eq_true, if_false] at hb
              obtain rfl := Option.some.inj hb
              simp
            · simp only [if_true] at hb
              simpa using ih hb
          · rename_i hn
            rw [if_neg hn]
            exact ih hb
    · rename_i n el xs ys hu hb0
      clear hb0
      obtain ⟨vs, rfl, hvs⟩ := hx
      obtain ⟨vs', rfl, hvs'⟩ := hy
      obtain ⟨ee, hee, hb⟩ := Option.bind_eq_some_iff.1 hb
      have hte := hC.tab _ _ hee
      obtain ⟨i, hi, _⟩ := hte.info
      rw [run_equalIn_array w D _ _ (by rw [ht.und, hu]) hi, hte.cellsOf]
      revert hb
      generalize List.range n = l
      intro hb
      induction l with
      | nil => obtain rfl := Option.some.inj hb; rfl
      | cons f fs ih =>
        unfold eqI at hb
        unfold Op.eqItems
        obtain ⟨a1, ha1, hb⟩ := Option.bind_eq_some_iff.1 hb
        obtain ⟨a2, ha2, hb⟩ := Option.bind_eq_some_iff.1 hb
        obtain ⟨r, hr, hb⟩ := Option.bind_eq_some_iff.1 hb
        obtain ⟨u1, hu1, hr1⟩ := run_part hte hvs ha1 w
        obtain ⟨u2, hu2, hr2⟩ := run_part hte hvs' ha2 w
        have h3 := evEq_run hC hρ d D (by omega) el a1 a2 r u1 u2 hr hr1 hr2 w
        simp only [Sem.run_bind, hu1, hu2, h3, Result.andThen_ok]
        cases r
        · simp only [Bool.false_eq_true, if_false] at hb
          obtain rfl := Option.some.inj hb
          simp
        · simp only [if_true] at hb
          simpa using ih hb
    · split at hb
      · rename_i r hr
        obtain rfl := Option.some.inj hb
        exact eqSV_run ht.und hr hx hy w
      · exact eqVar_run hC hρ ht.und hb hx hy w
    · cases hb

end Go.Proofs.YtoehfadjpficiaaGreat.Ev
