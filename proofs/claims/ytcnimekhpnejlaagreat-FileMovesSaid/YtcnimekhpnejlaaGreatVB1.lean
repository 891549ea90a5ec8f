/- Texts of this seat joined into one: Ev4, Ev5, Ev6, Ev7, Ev8. -/
import Derived.Test.YtcnimekhpnejlaaGreatVB0
import Derived.Lib.Strings

/- The evaluator: operations on numbers, texts, structs, slices. -/
namespace Go.Proofs.YtcnimekhpnejlaaGreat.Ev
open Go Go.RowKit
set_option linter.unusedVariables false
set_option linter.unusedSimpArgs false

/-! ### Two operands -/
/-- The model's own value of a small one. -/
def back : SV → Option Value
  | .bool b => some (.bool b)
  | .int k n => some (.int k n)
  | .str s => some (.string s)
  | _ => none
theorem back_eq {E : Env} {x : SV} {v u : Value} (h : back x = some v) (hx : x.rel E u) : u = v := by
  unfold back at h
  split at h <;> first | (obtain rfl := Option.some.inj h; exact hx) | cases h

def isEql : BinOp → Option Bool
  | .eql => some true
  | .neq => some false
  | _ => none
/-- Small operands: the model's own operator. -/
def evBinS (op : BinOp) (t : TypeId) (x y : SV) : Option EV :=
  (back x).bind fun a => (back y).bind fun b => (pureOf (binOp op t a b)).bind fun v => (litSV v).map fun z => .a (.s z)
def plain : SV → Bool
  | .int _ _ | .str _ | .xi _ _ | .xb _ | .xs _ | .op _ | .nili => false
  | _ => true
/-- Open operands. -/
def evBinI (C : Ctx) (op : BinOp) (k : IntKind) (a b : X) : Option SV :=
  match op with
  | .add | .sub | .mul => some (.xi k (.bin op k a b))
  | .quo | .rem => if C.tru (.eq b (.li 0)) = some false then some (.xi k (.bin op k a b)) else none
  | .shl => if C.tru (.lt b (.li 0)) = some false then some (.xi k (.bin op k a b)) else none
  | .eql => some (.xb (.eq a b))
  | .neq => some (.xb (.not (.eq a b)))
  | .lss => some (.xb (.lt a b))
  | .gtr => some (.xb (.lt b a))
  | .leq => some (.xb (.not (.lt b a)))
  | .geq => some (.xb (.not (.lt a b)))
  | _ => none
def evBinT (C : Ctx) (op : BinOp) (a b : X) : Option SV :=
  match op with
  | .add => if C.tru (.big a b) = some false then some (.xs (.cat a b)) else none
  | .eql => some (.xb (.seq a b))
  | .neq => some (.xb (.not (.seq a b)))
  | .lss => some (.xb (.slt a b))
  | .geq => some (.xb (.not (.slt a b)))
  | _ => none
def evBinX (C : Ctx) (op : BinOp) (x y : SV) : Option SV :=
  match asI x, asI y with
  | some a, some b => if a.1 = b.1 then evBinI C op a.1 a.2 b.2 else none
  | _, _ =>
    match asS x, asS y with
    | some a, some b => evBinT C op a b
    | _, _ => none
theorem evBinX_run {C : Ctx} (hC : C.Ok) {E : Env} (hρ : E.ρ = C.ρ) {op : BinOp} {t : TypeId} {x y r : SV} {v u : Value} (he : evBinX C op x y = some r) (hx : x.rel E v) (hy : y.rel E u) (w : World) :
    ∃ z, (binOp op t v u).run C.P w = .ok z w ∧ r.rel E z := by
  unfold evBinX at he
  split at he
  · rename_i a b ha hb
    split at he
    · rename_i hk
      obtain ⟨k, a⟩ := a
      obtain ⟨k2, b⟩ := b
      simp only at hk he
      subst hk
      obtain rfl := asI_rel ha hx
      obtain rfl := asI_rel hb hy
      unfold evBinI at he
      split at he
      · obtain rfl := Option.some.inj he
        exact ⟨_, by simp [binOp, Op.intArith]; rfl, rfl⟩
      · obtain rfl := Option.some.inj he
        exact ⟨_, by simp [binOp, Op.intArith]; rfl, rfl⟩
      · obtain rfl := Option.some.inj he
        exact ⟨_, by simp [binOp, Op.intArith]; rfl, rfl⟩
      · split at he
        · rename_i h0
          obtain rfl := Option.some.inj he
          have h1 := hC.tru_ok h0
          have h2 : b.int E.ρ ≠ 0 := fun e => by
            rw [hρ] at e
            have : (b.int C.ρ == 0) = false := h1
            rw [e] at this
            cases this
          exact ⟨_, by simp [binOp, Op.intDiv, h2]; rfl, rfl⟩
        · cases he
      · split at he
        · rename_i h0
          obtain rfl := Option.some.inj he
          have h1 := hC.tru_ok h0
          have h2 : b.int E.ρ ≠ 0 := fun e => by
            rw [hρ] at e
            have : (b.int C.ρ == 0) = false := h1
            rw [e] at this
            cases this
          exact ⟨_, by simp [binOp, Op.intDiv, h2]; rfl, rfl⟩
        · cases he
      · split at he
        · rename_i h0
          obtain rfl := Option.some.inj he
          have h1 : decide (b.int C.ρ < 0) = false := hC.tru_ok h0
          have h2 := of_decide_eq_false h1
          rw [← hρ] at h2
          exact ⟨_, by simp only [binOp, Op.shift]; rw [if_neg h2]; rfl, rfl⟩
        · cases he
      · obtain rfl := Option.some.inj he
        exact ⟨_, by simp [binOp, Op.intCmp]; rfl, rfl⟩
      · obtain rfl := Option.some.inj he
        exact ⟨_, by simp only [binOp, Op.intCmp, ne_eq, not_true_eq_false, if_false]; rfl, rfl⟩
      · obtain rfl := Option.some.inj he
        exact ⟨_, by simp only [binOp, Op.intCmp, ne_eq, not_true_eq_false, if_false]; rfl, rfl⟩
      · obtain rfl := Option.some.inj he
        exact ⟨_, by simp only [binOp, Op.intCmp, ne_eq, not_true_eq_false, if_false]; rfl, rfl⟩
      · obtain rfl := Option.some.inj he
        refine ⟨_, by simp only [binOp, Op.intCmp, ne_eq, not_true_eq_false, if_false]; rfl, ?_⟩
        show Value.bool _ = .bool (!decide (b.int E.ρ < a.int E.ρ))
        congr 1
        rw [← decide_not]
        exact decide_eq_decide.2 Int.not_lt.symm
      · obtain rfl := Option.some.inj he
        refine ⟨_, by simp only [binOp, Op.intCmp, ne_eq, not_true_eq_false, if_false]; rfl, ?_⟩
        show Value.bool _ = .bool (!decide (a.int E.ρ < b.int E.ρ))
        congr 1
        rw [← decide_not]
        exact decide_eq_decide.2 Int.not_lt.symm
      · cases he
    · cases he
  · split at he
    · rename_i a b ha hb
      obtain rfl := asS_rel ha hx
      obtain rfl := asS_rel hb hy
      unfold evBinT at he
      split at he
      · split at he
        · rename_i h0
          obtain rfl := Option.some.inj he
          have h1 : decide ((((a.str C.ρ).size + (b.str C.ρ).size : Nat) : Int) > IntKind.i64.max) = false := hC.tru_ok h0
          have h2 := of_decide_eq_false h1
          rw [← hρ] at h2
          exact ⟨_, by simp only [binOp, Op.stringOp]; rw [if_neg h2]; rfl, rfl⟩
        · cases he
      · obtain rfl := Option.some.inj he
        exact ⟨_, by simp only [binOp, Op.stringOp]; rfl, rfl⟩
      · obtain rfl := Option.some.inj he
        exact ⟨_, by simp only [binOp, Op.stringOp]; rfl, rfl⟩
      · obtain rfl := Option.some.inj he
        exact ⟨_, by simp only [binOp, Op.stringOp]; rfl, rfl⟩
      · obtain rfl := Option.some.inj he
        exact ⟨_, by simp only [binOp, Op.stringOp]; rfl, rfl⟩
      · cases he
    · cases he
/-- Two answers compared, of which one is open. -/
def evBinB (C : Ctx) (op : BinOp) (t : TypeId) (x y : SV) : Option SV :=
  (C.tab t).bind fun e => match e.und with
    | .bool => (asB x).bind fun a => (asB y).bind fun b => (isEql op).map fun q => if q = true then .xb (.beq a b) else .xb (.not (.beq a b))
    | _ => none
def evBin (C : Ctx) (h : T Blk) (op : BinOp) (t : TypeId) : EV → EV → Option EV
  | .a (.s x), .a (.s y) =>
    match evBinS op t x y with
    | some r => some r
    | none =>
      match evBinX C op x y with
      | some r => some (.a (.s r))
      | none =>
        match (if plain x && plain y then none else evBinB C op t x y) with
        | some r => some (.a (.s r))
        | none => if plain x = true then (isEql op).bind fun q => (evEq C h 2 t (.s x) (.s y)).map fun b => .a (.s (.bool (b == q))) else none
  | .a (.agg xs), .a (.agg ys) => (C.tab t).bind fun e => if e.eqg = true then none else (isEql op).bind fun q => (evEq C h 9 t (.agg xs) (.agg ys)).map fun b => .a (.s (.bool (b == q)))
  | _, _ => none

theorem eqGuard_scalar {P : Program} (op : BinOp) (t : TypeId) (x y : Operand) {a b : Value} (ha : a.oneCell' = true) (hn : ¬ (a = .nilIface ∧ b = .nilIface)) (w : World) : (eqGuard op t x y a b).run P w = .ok () w := by
  unfold eqGuard
  cases op <;> (try rfl)
  all_goals
    simp only [Bool.not_true, Bool.false_eq_true, if_false]
    cases a <;> cases b <;> first | rfl | (exact absurd ⟨rfl, rfl⟩ hn) | (simp [Value.oneCell'] at ha)

/-- How == and != are asked where no operand is a number, a text or a float. -/
def eqForm (a b : Value) : Bool :=
  match a, b with
  | .int _ _, .int _ _ | .float _ _, .float _ _ | .complex _ _ _, .complex _ _ _ | .string _, .string _ => false
  | _, _ => true
theorem binOp_eql (t : TypeId) {a b : Value} (h : eqForm a b = true) : binOp .eql t a b = (do pure (.bool (← Op.equal t a b)) : Sem Value) := by
  cases a <;> cases b <;> first | rfl | (simp [eqForm] at h)
theorem binOp_neq (t : TypeId) {a b : Value} (h : eqForm a b = true) : binOp .neq t a b = (do pure (.bool (!(← Op.equal t a b))) : Sem Value) := by
  cases a <;> cases b <;> first | rfl | (simp [eqForm] at h)
theorem run_eq {P : Program} {op : BinOp} {q : Bool} (hq : isEql op = some q) {t : TypeId} {a b : Value} (hf : eqForm a b = true) {r : Bool} {w : World} (h : (Op.equalIn 10000 t a b).run P w = .ok r w) :
    (binOp op t a b).run P w = .ok (.bool (r == q)) w := by
  cases op <;> first
    | (cases hq; done)
    | (obtain rfl := Option.some.inj hq
       rw [binOp_eql t hf]
       simp [Op.equal, Op.maxDepth, h])
    | (obtain rfl := Option.some.inj hq
       rw [binOp_neq t hf]
       simp [Op.equal, Op.maxDepth, h])
theorem plain_form {E : Env} {x : SV} {v : Value} (h : plain x = true) (hx : x.rel E v) : (∀ u, eqForm v u = true) ∧ v ≠ .nilIface := by
  cases x with
  | bool b => obtain rfl := hx; exact ⟨fun u => by cases u <;> rfl, by intro e; cases e⟩
  | int k n => cases h
  | str s => cases h
  | xi k e => cases h
  | xb e => cases h
  | xs e => cases h
  | op i => cases h
  | nili => cases h
  | nilp => obtain rfl := hx; exact ⟨fun u => by cases u <;> rfl, by intro e; cases e⟩
  | ptr i o => obtain ⟨p, _, rfl⟩ := hx; exact ⟨fun u => by cases u <;> rfl, by intro e; cases e⟩
  | nils => obtain rfl := hx; exact ⟨fun u => by cases u <;> rfl, by intro e; cases e⟩
  | sl i o l c k => obtain ⟨p, c, _, _, rfl⟩ := SV.sl_form hx; exact ⟨fun u => by cases u <;> rfl, by intro e; cases e⟩
  | slz c => obtain ⟨p, c, rfl⟩ := SV.slz_form hx; exact ⟨fun u => by cases u <;> rfl, by intro e; cases e⟩
  | nilm => obtain rfl := hx; exact ⟨fun u => by cases u <;> rfl, by intro e; cases e⟩
  | map i => obtain ⟨p, _, rfl⟩ := hx; exact ⟨fun u => by cases u <;> rfl, by intro e; cases e⟩
  | func f cs => obtain ⟨p, rfl, _⟩ := hx; exact ⟨fun u => by cases u <;> rfl, by intro e; cases e⟩
  | nilf => obtain rfl := hx; exact ⟨fun u => by cases u <;> rfl, by intro e; cases e⟩

/-- The computation s reads only, and ends in what r stands for. -/
def Reads (C : Ctx) (E : Env) (w : World) (s : Sem Value) (r : EV) : Prop := ∃ v, s.run C.P w = .ok v w ∧ r.rel E v

theorem evBin_run {C : Ctx} (hC : C.Ok) {E : Env} (hρ : E.ρ = C.ρ) {h : T Blk} {w : World} {op : BinOp} {t : TypeId} {x y r : EV} {v u : Value} (X Y : Operand) (he : evBin C h op t x y = some r) (hx : x.rel E v) (hy : y.rel E u) :
    Reads C E w (do eqGuard op t X Y v u; binOp op t v u) r := by
  unfold evBin at he
  split at he
  · rename_i x y
    have h1 := SV.oneCell hx
    split at he
    · rename_i r' hs
      obtain rfl := Option.some.inj he
      obtain ⟨a, ha, hs⟩ := Option.bind_eq_some_iff.1 hs
      obtain ⟨b, hb, hs⟩ := Option.bind_eq_some_iff.1 hs
      obtain ⟨z, hz, hs⟩ := Option.bind_eq_some_iff.1 hs
      obtain ⟨q, hq, rfl⟩ := Option.map_eq_some_iff.1 hs
      obtain rfl := back_eq ha hx
      obtain rfl := back_eq hb hy
      refine ⟨z, ?_, litSV_rel hq⟩
      rw [Sem.run_bind, eqGuard_scalar op t X Y h1 (by rintro ⟨rfl, _⟩; cases x <;> first | (cases ha; done) | (simp [back] at ha)) w, Result.andThen_ok]
      exact pureOf_run hz C.P w
    · split at he
      · rename_i z hz
        obtain rfl := Option.some.inj he
        obtain ⟨v', h2, h3⟩ := evBinX_run hC hρ (t := t) hz hx hy w
        refine ⟨v', ?_, h3⟩
        rw [Sem.run_bind, eqGuard_scalar op t X Y h1 (by
          rintro ⟨rfl, _⟩
          unfold evBinX at hz
          split at hz
          · rename_i ha _
            exact absurd (asI_rel ha hx) (by intro e; cases e)
          · split at hz
            · rename_i ha _
              exact absurd (asS_rel ha hx) (by intro e; cases e)
            · cases hz) w, Result.andThen_ok]
        exact h2
      · split at he
        · rename_i z hz
          obtain rfl := Option.some.inj he
          split at hz
          · cases hz
          obtain ⟨e, h0, hz⟩ := Option.bind_eq_some_iff.1 hz
          split at hz
          · rename_i hu
            obtain ⟨a, ha, hz⟩ := Option.bind_eq_some_iff.1 hz
            obtain ⟨b, hb, hz⟩ := Option.bind_eq_some_iff.1 hz
            obtain ⟨q, hq, hz⟩ := Option.map_eq_some_iff.1 hz
            obtain rfl := asB_rel ha hx
            obtain rfl := asB_rel hb hy
            have hund : C.P.underlying t = some .bool := by rw [(hC.tab t e h0).und, hu]
            refine ⟨.bool ((a.bool E.ρ == b.bool E.ρ) == q), ?_, ?_⟩
            · rw [Sem.run_bind, eqGuard_scalar op t X Y h1 (fun e => by cases e.1) w, Result.andThen_ok]
              exact run_eq hq rfl (eqSV_run (h := .nil) (E := E) (x := .bool (a.bool E.ρ)) (y := .bool (b.bool E.ρ)) (d := 9999) hund rfl rfl rfl w)
            · subst hz
              cases q
              · show Value.bool _ = .bool (!(a.bool E.ρ == b.bool E.ρ))
                cases (a.bool E.ρ == b.bool E.ρ) <;> rfl
              · show Value.bool _ = .bool (a.bool E.ρ == b.bool E.ρ)
                cases (a.bool E.ρ == b.bool E.ρ) <;> rfl
          · cases hz
        · split at he
          · rename_i hp
            obtain ⟨q, hq, he⟩ := Option.bind_eq_some_iff.1 he
            obtain ⟨b, hb, rfl⟩ := Option.map_eq_some_iff.1 he
            obtain ⟨hf, hn⟩ := plain_form hp hx
            refine ⟨.bool (b == q), ?_, rfl⟩
            rw [Sem.run_bind, eqGuard_scalar op t X Y h1 (fun e => hn e.1) w, Result.andThen_ok]
            exact run_eq hq (hf u) (evEq_run hC hρ 2 10000 (by omega) t _ _ b v u hb hx hy w)
          · cases he
  · rename_i xs ys
    obtain ⟨e, h1, he⟩ := Option.bind_eq_some_iff.1 he
    split at he
    · cases he
    · rename_i hg
      obtain ⟨q, hq, he⟩ := Option.bind_eq_some_iff.1 he
      obtain ⟨b, hb, rfl⟩ := Option.map_eq_some_iff.1 he
      have h2 := evEq_run hC hρ 9 10000 (by omega) t _ _ b v u hb hx hy w
      obtain ⟨vs, rfl, _⟩ := hx
      obtain ⟨us, rfl, _⟩ := hy
      refine ⟨.bool (b == q), ?_, rfl⟩
      have hgd : C.P.eqGuardType C.P.depth t = false := by rw [(hC.tab t e h1).eqg]; simpa using hg
      rw [Sem.run_bind, run_eqGuard_agg w op t X Y _ _ hgd, Result.andThen_ok]
      exact run_eq hq rfl h2
  · cases he

def evUnX (op : UnOp) (x : SV) : Option SV :=
  match op with
  | .not => (asB x).map fun e => .xb (.not e)
  | .neg => (asI x).map fun a => .xi a.1 (.bin .sub a.1 (.li 0) a.2)
  | _ => none
def evUn (op : UnOp) : EV → Option EV
  | .a (.s x) =>
    match (back x).bind fun a => (pureOf (Op.unary op a)).bind fun v => (litSV v).map fun z => .a (.s z) with
    | some r => some r
    | none => (evUnX op x).map fun z => .a (.s z)
  | _ => none
theorem evUn_run {C : Ctx} {E : Env} {w : World} {op : UnOp} {x r : EV} {v : Value} (he : evUn op x = some r) (hx : x.rel E v) : Reads C E w (Op.unary op v) r := by
  unfold evUn at he
  split at he
  · split at he
    · rename_i r' hs
      obtain rfl := Option.some.inj he
      obtain ⟨a, ha, hs⟩ := Option.bind_eq_some_iff.1 hs
      obtain ⟨z, hz, hs⟩ := Option.bind_eq_some_iff.1 hs
      obtain ⟨q, hq, rfl⟩ := Option.map_eq_some_iff.1 hs
      obtain rfl := back_eq ha hx
      exact ⟨z, pureOf_run hz C.P w, litSV_rel hq⟩
    · obtain ⟨z, hz, rfl⟩ := Option.map_eq_some_iff.1 he
      unfold evUnX at hz
      split at hz
      · obtain ⟨e, he2, rfl⟩ := Option.map_eq_some_iff.1 hz
        obtain rfl := asB_rel he2 hx
        exact ⟨_, rfl, rfl⟩
      · obtain ⟨⟨k, a⟩, he2, rfl⟩ := Option.map_eq_some_iff.1 hz
        obtain rfl := asI_rel he2 hx
        exact ⟨_, rfl, rfl⟩
      · cases hz
  · cases he

def evConvInt (C : Ctx) (src dst : TypeId) : EV → Option EV
  | .a (.s (.int k n)) => (C.tab src).bind fun _ => (C.tab dst).bind fun e =>
    match e.und with
    | .int q => some (.a (.s (.int q (q.wrap n))))
    | _ => none
  | .a (.s (.xi k n)) => (C.tab src).bind fun _ => (C.tab dst).bind fun e =>
    match e.und with
    | .int q => some (.a (.s (.xi q (.conv q n))))
    | _ => none
  | _ => none
theorem evConvInt_run {C : Ctx} (hC : C.Ok) {E : Env} {w : World} {src dst : TypeId} {x r : EV} {v : Value} (he : evConvInt C src dst x = some r) (hx : x.rel E v) : Reads C E w (convert src dst v) r := by
  unfold evConvInt at he
  split at he
  · rename_i k n
    obtain ⟨e1, h1, he⟩ := Option.bind_eq_some_iff.1 he
    obtain ⟨e, h2, he⟩ := Option.bind_eq_some_iff.1 he
    split at he
    · rename_i q hu
      obtain rfl := Option.some.inj he
      obtain rfl := hx
      have hr1 := (hC.tab _ _ h1).run_und w
      have hr2 := (hC.tab _ _ h2).run_und w
      rw [hu] at hr2
      exact ⟨_, by simp only [convert, Sem.run_bind, hr1, hr2, Result.andThen_ok]; rfl, rfl⟩
    · cases he
  · rename_i k n
    obtain ⟨e1, h1, he⟩ := Option.bind_eq_some_iff.1 he
    obtain ⟨e, h2, he⟩ := Option.bind_eq_some_iff.1 he
    split at he
    · rename_i q hu
      obtain rfl := Option.some.inj he
      obtain rfl := hx
      have hr1 := (hC.tab _ _ h1).run_und w
      have hr2 := (hC.tab _ _ h2).run_und w
      rw [hu] at hr2
      exact ⟨_, by simp only [convert, Sem.run_bind, hr1, hr2, Result.andThen_ok]; rfl, rfl⟩
    · cases he
  · cases he

/-! ### Parts of values -/
theorem bytes_at {s : ByteArray} {j : Nat} (h : j < s.size) : s[j]? = some (s.data.getD j 0) := by
  have h2 : j < s.data.size := h
  rw [getElem?_pos s j h]
  unfold Array.getD
  rw [dif_pos h2]
  rfl
def evIndex (C : Ctx) (t : TypeId) : EV → EV → Option EV
  | .a (.agg cs), .a (.s y) => (C.tab t).bind fun e =>
    match e.und with
    | .array n el => (C.tab el).bind fun ee => (C.idx n y).bind fun j => (evPart ee cs (j * ee.size)).map .a
    | _ => none
  | .a (.s x), .a (.s y) => (C.tab t).bind fun e =>
    match e.und with
    | .string =>
      match x, y with
      | .str s, .int k j => if 0 ≤ j then (s[j.toNat]?).map fun b => .a (.s (.int .u8 b.toNat)) else none
      | x, y => (asS x).bind fun s => (asI y).bind fun i => if C.tru (.lt i.2 (.li 0)) = some false ∧ C.tru (.lt i.2 (.len s)) = some true then some (.a (.s (.xi .u8 (.byte s i.2)))) else none
    | _ => none
  | _, _ => none
theorem evIndex_run {C : Ctx} (hC : C.Ok) {E : Env} (hρ : E.ρ = C.ρ) {w : World} {t : TypeId} {x y r : EV} {v u : Value} (he : evIndex C t x y = some r) (hx : x.rel E v) (hy : y.rel E u) : Reads C E w (Instr.index t v u) r := by
  unfold evIndex at he
  split at he
  · rename_i cs y
    obtain ⟨e, h1, he⟩ := Option.bind_eq_some_iff.1 he
    split at he
    · rename_i n el hu
      obtain ⟨ee, h2, he⟩ := Option.bind_eq_some_iff.1 he
      obtain ⟨j, hj, he⟩ := Option.bind_eq_some_iff.1 he
      obtain ⟨a, ha, rfl⟩ := Option.map_eq_some_iff.1 he
      obtain ⟨vs, rfl, hvs⟩ := hx
      obtain ⟨hlt, k, rfl⟩ := hC.idx_ok hρ hj hy
      have hru := (hC.tab t e h1).run_und w
      rw [hu] at hru
      obtain ⟨z, hz, hrel⟩ := run_part (hC.tab _ _ h2) hvs ha w
      exact ⟨z, by simp [Instr.index, asIntOf, hru, hlt, (hC.tab _ _ h2).run_size w, hz], hrel⟩
    · cases he
  · rename_i x y
    obtain ⟨e, h1, he⟩ := Option.bind_eq_some_iff.1 he
    split at he
    · rename_i hu
      have hru := (hC.tab t e h1).run_und w
      rw [hu] at hru
      split at he
      · rename_i s k j
        split at he
        · rename_i hj
          obtain ⟨b, hb, rfl⟩ := Option.map_eq_some_iff.1 he
          obtain rfl := hx
          obtain rfl := hy
          exact ⟨.int .u8 b.toNat, by simp [Instr.index, asIntOf, hru, hj, hb], rfl⟩
        · cases he
      · obtain ⟨s, hs, he⟩ := Option.bind_eq_some_iff.1 he
        obtain ⟨⟨k, i⟩, hi, he⟩ := Option.bind_eq_some_iff.1 he
        split at he
        · rename_i hc
          obtain rfl := Option.some.inj he
          obtain rfl := asS_rel hs hx
          obtain rfl := asI_rel hi hy
          have c1 : decide (i.int C.ρ < 0) = false := hC.tru_ok hc.1
          have c2 : decide (i.int C.ρ < ((s.str C.ρ).size : Int)) = true := hC.tru_ok hc.2
          have c1 := of_decide_eq_false c1
          have c2 := of_decide_eq_true c2
          rw [← hρ] at c1 c2
          have hb := bytes_at (s := s.str E.ρ) (j := (i.int E.ρ).toNat) (by omega)
          have h0 : 0 ≤ i.int E.ρ := by omega
          exact ⟨_, by simp only [Instr.index, asIntOf, hru, Sem.run_bind, Sem.run_pure, Result.andThen_ok, h0, if_true, hb]; rfl, rfl⟩
        · cases he
    · cases he
  · cases he

def evField (C : Ctx) (t : TypeId) (f : Nat) : EV → Option EV
  | .a (.agg cs) => (C.tab t).bind fun e =>
    match e.und with
    | .struct fs => (fs[f]?).bind fun fd => (C.tab fd.type).bind fun ef => (evPart ef cs fd.offset).map .a
    | _ => none
  | _ => none
theorem evField_run {C : Ctx} (hC : C.Ok) {E : Env} {w : World} {t : TypeId} {f : Nat} {x r : EV} {v : Value} (he : evField C t f x = some r) (hx : x.rel E v) : Reads C E w (Instr.field t v f) r := by
  unfold evField at he
  split at he
  · obtain ⟨e, h1, he⟩ := Option.bind_eq_some_iff.1 he
    split at he
    · rename_i fs hu
      obtain ⟨fd, h2, he⟩ := Option.bind_eq_some_iff.1 he
      obtain ⟨ef, h3, he⟩ := Option.bind_eq_some_iff.1 he
      obtain ⟨a, ha, rfl⟩ := Option.map_eq_some_iff.1 he
      obtain ⟨vs, rfl, hvs⟩ := hx
      have hru := (hC.tab t e h1).run_und w
      rw [hu] at hru
      obtain ⟨z, hz, hrel⟩ := run_part (hC.tab _ _ h3) hvs ha w
      exact ⟨z, by simp [Instr.field, hru, h2, asAgg, hz], hrel⟩
    · cases he
  · cases he

def evExtract (i : Nat) : EV → Option EV
  | .tup l => (l[i]?).map .a
  | _ => none
theorem evExtract_run {C : Ctx} {E : Env} {w : World} {i : Nat} {x r : EV} {v : Value} (he : evExtract i x = some r) (hx : x.rel E v) : Reads C E w (Instr.extract v i) r := by
  unfold evExtract at he
  split at he
  · obtain ⟨a, ha, rfl⟩ := Option.map_eq_some_iff.1 he
    obtain ⟨vs, rfl, hvs⟩ := hx
    obtain ⟨z, hz, hrel⟩ := hvs.get i a ha
    exact ⟨z, by simp [Instr.extract, hz], hrel⟩
  · cases he

end Go.Proofs.YtcnimekhpnejlaaGreat.Ev

/- The evaluator: structs and slices that are made, slices of slices, small builtins. -/
namespace Go.Proofs.YtcnimekhpnejlaaGreat.Ev
open Go Go.RowKit
set_option linter.unusedVariables false
set_option linter.unusedSimpArgs false

/-! ### Filling -/
def evFill (place : Nat → Option (Nat × Nat)) (cells : List SV) : List (Nat × AV) → Option (List SV)
  | [] => some cells
  | (i, v) :: rest =>
    match place i with
    | none => none
    | some (off, size) => if v.cells.length = size ∧ off + size ≤ cells.length then evFill place (cells.take off ++ v.cells ++ cells.drop (off + size)) rest else none

theorem foldl_set (off : Nat) : ∀ (l : List Value) (k : Nat) (cs : Array Value), off + k + l.length ≤ cs.size →
    ((l.zipIdx k).foldl (fun (cs : Array Value) (x : Value × Nat) => cs.setIfInBounds (off + x.2) x.1) cs).toList = cs.toList.take (off + k) ++ l ++ cs.toList.drop (off + k + l.length)
  | [], k, cs, h => by simp
  | x :: l, k, cs, h => by
    rw [List.length_cons] at h
    rw [List.zipIdx_cons, List.foldl_cons, foldl_set off l (k + 1) _ (by rw [Array.size_setIfInBounds]; omega)]
    have hlt : off + k < cs.toList.length := by rw [Array.length_toList]; omega
    rw [Array.toList_setIfInBounds, List.length_cons]
    rw [show off + (k + 1) = (off + k) + 1 by omega, List.take_succ_eq_append_getElem (by rw [List.length_set]; exact hlt), List.getElem_set_self, List.take_set_of_le (by omega), List.drop_set_of_lt (by omega)]
    rw [List.append_assoc, List.append_assoc, List.append_assoc]
    rw [show off + k + 1 + l.length = off + k + (l.length + 1) by omega]
    rfl

theorem evFill_run {E : Env} {place : Nat → Option (Nat × Nat)} : ∀ {parts : List (Nat × AV)} {vs : List (Nat × Value)} {cells r : List SV} {arr : Array Value}, evFill place cells parts = some r → Rels (fun (x : Nat × AV) (y : Nat × Value) => x.1 = y.1 ∧ x.2.rel E y.2) parts vs → Rels (SV.rel E) cells arr.toList →
    ∃ arr', Instr.fill place arr vs = some arr' ∧ Rels (SV.rel E) r arr'.toList
  | [], [], cells, r, arr, he, _, hc => by
    obtain rfl := Option.some.inj he
    exact ⟨arr, rfl, hc⟩
  | (i, v) :: rest, (j, u) :: vs, cells, r, arr, he, hp, hc => by
    obtain ⟨⟨rfl, hv⟩, hp2⟩ := hp
    unfold evFill at he
    unfold Instr.fill
    split at he
    · cases he
    · rename_i off size hpl
      split at he
      · rename_i hn
        have hv' : v.rel E u := hv
        have hcv := AV.cells_rel hv'
        have hl := hcv.length
        have hl2 := hc.length
        rw [Array.length_toList] at hl hl2
        simp only [hpl]
        have hcond : (decide (u.cells.size ≠ size) || decide (off + u.cells.size > arr.size)) = false := by
          simp only [Bool.or_eq_false_iff, decide_eq_false_iff_not]
          omega
        rw [if_neg (by rw [hcond]; simp)]
        refine evFill_run he hp2 ?_
        rw [← Array.foldl_toList, Array.toList_zipIdx, foldl_set off u.cells.toList 0 arr (by rw [Array.length_toList]; omega)]
        rw [Nat.add_zero, Array.length_toList, show u.cells.size = size by omega]
        exact ((hc.take off).app hcv).app (hc.drop (off + size))
      · cases he
  | [], _ :: _, _, _, _, _, hp, _ => hp.elim
  | _ :: _, [], _, _, _, _, hp, _ => hp.elim

theorem run_mapM' {P : Program} {w : World} {α β : Type} {f : α → Sem β} {g : α → β} : ∀ (l : List α), (∀ x ∈ l, (f x).run P w = .ok (g x) w) → (l.mapM f).run P w = .ok (l.map g) w
  | [], _ => by simp
  | x :: l, h => by
    rw [List.mapM_cons]
    simp only [Sem.run_bind, h x (by simp), Result.andThen_ok, run_mapM' l (fun y hy => h y (by simp [hy])), Sem.run_pure, List.map_cons]

def opParts : List (Nat × EV) → Option (List (Nat × AV))
  | [] => some []
  | (i, .a x) :: r => (opParts r).map fun l => (i, x) :: l
  | _ => none
theorem opParts_rel {E : Env} : ∀ {ps : List (Nat × EV)} {vs : List (Nat × Value)} {r : List (Nat × AV)}, opParts ps = some r → Rels (fun (x : Nat × EV) (y : Nat × Value) => x.1 = y.1 ∧ x.2.rel E y.2) ps vs → Rels (fun (x : Nat × AV) (y : Nat × Value) => x.1 = y.1 ∧ x.2.rel E y.2) r vs
  | [], [], r, h, _ => by
    obtain rfl := Option.some.inj h
    trivial
  | (i, .a x) :: ps, v :: vs, r, h, hr => by
    obtain ⟨l, hl, rfl⟩ := Option.map_eq_some_iff.1 h
    exact ⟨hr.1, opParts_rel hl hr.2⟩
  | (i, .tup x) :: ps, _, r, h, _ => by cases h
  | [], _ :: _, _, _, hr => hr.elim
  | (_, .a _) :: _, [], _, _, hr => hr.elim

def evBuild (C : Ctx) (t : TypeId) (parts : List (Nat × EV)) : Option EV :=
  (C.tab t).bind fun e => (litAV e.zero).bind fun z => (opParts parts).bind fun ps =>
    match e.und with
    | .struct fs => if fs.toList.all (fun f => (C.tab f.type).isSome) = true then (evFill (fun i => (fs[i]?).map fun f => (f.offset, ((C.tab f.type).map (·.size)).getD 0)) z.cells ps).map fun cs => .a (.agg cs) else none
    | .array _ el => (C.tab el).bind fun ee => (evFill (fun i => some (i * ee.size, ee.size)) z.cells ps).map fun cs => .a (.agg cs)
    | _ => none
theorem evBuild_run {C : Ctx} (hC : C.Ok) {E : Env} {w : World} {t : TypeId} {parts : List (Nat × EV)} {vs : Array (Nat × Value)} {r : EV} (he : evBuild C t parts = some r) (hp : Rels (fun (x : Nat × EV) (y : Nat × Value) => x.1 = y.1 ∧ x.2.rel E y.2) parts vs.toList) :
    Reads C E w (Instr.build t vs) r := by
  obtain ⟨e, h1, he⟩ := Option.bind_eq_some_iff.1 he
  obtain ⟨z, h2, he⟩ := Option.bind_eq_some_iff.1 he
  obtain ⟨ps, h3, he⟩ := Option.bind_eq_some_iff.1 he
  have ht := hC.tab t e h1
  have hz := AV.cells_rel (litAV_rel (E := E) h2)
  have hps := opParts_rel h3 hp
  split at he
  · rename_i fs hu
    split at he
    · rename_i hall
      obtain ⟨cs, hcs, rfl⟩ := Option.map_eq_some_iff.1 he
      obtain ⟨arr, ha, hr⟩ := evFill_run hcs hps hz
      have hru := ht.run_und w
      rw [hu] at hru
      have hm : (fs.mapM (fun f => (do pure (f.offset, ← sizeOf f.type) : Sem (Nat × Nat)))).run C.P w = .ok (fs.map fun f => (f.offset, ((C.tab f.type).map (·.size)).getD 0)) w := by
        rw [Array.mapM_eq_mapM_toList, Sem.run_map, run_mapM' (g := fun f => (f.offset, ((C.tab f.type).map (·.size)).getD 0)) fs.toList (fun f hf => ?_)]
        · simp only [Result.andThen_ok]
          rw [← Array.toList_map]
        · obtain ⟨ef, hef⟩ := Option.isSome_iff_exists.1 (List.all_eq_true.1 hall f hf)
          simp [(hC.tab _ _ hef).run_size w, hef]
      refine ⟨.agg arr, ?_, arr.toList, by simp, hr⟩
      simp only [Instr.build, Sem.run_bind, ht.run_zero w, Result.andThen_ok, hru, hm, Array.getElem?_map]
      rw [ha]
      rfl
    · cases he
  · rename_i n el hu
    obtain ⟨ee, h4, he⟩ := Option.bind_eq_some_iff.1 he
    obtain ⟨cs, hcs, rfl⟩ := Option.map_eq_some_iff.1 he
    obtain ⟨arr, ha, hr⟩ := evFill_run hcs hps hz
    have hru := ht.run_und w
    rw [hu] at hru
    refine ⟨.agg arr, ?_, arr.toList, by simp, hr⟩
    simp only [Instr.build, Sem.run_bind, ht.run_zero w, Result.andThen_ok, hru, (hC.tab _ _ h4).run_size w]
    rw [ha]
    rfl
  · cases he

/-! ### Rows of zeros -/
def zeroL (zs : List SV) (n : Nat) : List SV := (List.range n).map fun j => (zs[j % zs.length]?).getD .nilp
theorem zero_rel {E : Env} {zs : List SV} {zv : Array Value} (hz : Rels (SV.rel E) zs zv.toList) (hs : 0 < zs.length) (n : Nat) : Rels (SV.rel E) (zeroL zs n) ((Array.range n).map (fun j => zv[j % zv.size]!)).toList := by
  have hl := hz.length
  rw [Array.length_toList] at hl
  refine Rels.of_get (by simp [zeroL]) (fun i a b ha hb => ?_)
  have hi : i < n := by
    have := (List.getElem?_eq_some_iff.1 ha).1
    simpa [zeroL] using this
  simp only [zeroL, List.getElem?_map, List.getElem?_range hi, Option.map_some, Option.some.injEq] at ha
  rw [Array.toList_map, List.getElem?_map, Array.toList_range, List.getElem?_range hi] at hb
  simp only [Option.map_some, Option.some.injEq] at hb
  have hlt : i % zs.length < zs.length := Nat.mod_lt _ hs
  obtain ⟨v, hv, hrel⟩ := hz.get (i % zs.length) zs[i % zs.length] (List.getElem?_eq_getElem hlt)
  rw [← ha, ← hb, List.getElem?_eq_getElem hlt]
  rw [Array.getElem?_toList] at hv
  have hlt2 : i % zv.size < zv.size := by rw [hl]; exact hlt
  rw [getElem!_pos zv (i % zv.size) hlt2]
  have : zv[i % zv.size]? = some v := by rw [hl]; exact hv
  rw [Array.getElem?_eq_getElem hlt2] at this
  obtain rfl := Option.some.inj this
  exact hrel

def evBuildSlice (C : Ctx) (h : T Blk) (nx : Nat) (t : TypeId) (len : Nat) (parts : List (Nat × EV)) : Option Res :=
  (C.tab t).bind fun e =>
    match e.und with
    | .slice el => (C.tab el).bind fun ee => (litAV ee.zero).bind fun z => (opParts parts).bind fun ps =>
      if len * ee.size ≤ 2 ^ 24 ∧ 0 < z.cells.length ∧ 0 < ee.size then (evFill (fun i => some (i * ee.size, ee.size)) (zeroL z.cells (len * ee.size)) ps).map fun cs => (.a (.s (.sl nx 0 len (some len) 0)), h.set nx (.cells el none (Cells.ofList cs) false), nx + 1) else none
    | _ => none
theorem evBuildSlice_run {C : Ctx} (hC : C.Ok) {E : Env} {h : T Blk} {nx : Nat} {w : World} {t : TypeId} {len : Nat} {parts : List (Nat × EV)} {vs : Array (Nat × Value)} {r : Res} (he : evBuildSlice C h nx t len parts = some r)
    (hp : Rels (fun (x : Nat × EV) (y : Nat × Value) => x.1 = y.1 ∧ x.2.rel E y.2) parts vs.toList) : Runs C E h nx w (Instr.buildSlice t len vs) r := by
  intro hr _ hf
  obtain ⟨e, h1, he⟩ := Option.bind_eq_some_iff.1 he
  split at he
  · rename_i el hu
    obtain ⟨ee, h2, he⟩ := Option.bind_eq_some_iff.1 he
    obtain ⟨z, h3, he⟩ := Option.bind_eq_some_iff.1 he
    obtain ⟨ps, h4, he⟩ := Option.bind_eq_some_iff.1 he
    split at he
    · rename_i hn
      obtain ⟨cs, hcs, rfl⟩ := Option.map_eq_some_iff.1 he
      have hru := (hC.tab t e h1).run_und w
      rw [hu] at hru
      have hte := hC.tab el ee h2
      have hz := AV.cells_rel (litAV_rel (E := E) h3)
      have hlz : ee.zero.cells.size = z.cells.length := by
        have := hz.length
        rwa [Array.length_toList] at this
      obtain ⟨arr, ha, hrel⟩ := evFill_run hcs (opParts_rel h4 hp) (zero_rel hz hn.2.1 (len * ee.size))
      obtain ⟨hs, hg⟩ := Cells.ofList_rel hrel
      rw [Array.toArray_toList] at hs hg
      obtain ⟨hrow, hgoes⟩ := HRel.run_row (P := C.P) hr (fresh1 hf) el hs hg
      refine ⟨_, _, _, ?_, hgoes, _, Env.put_at _ _ _, Nat.le_refl _, rfl⟩
      simp only [Instr.buildSlice, Sem.run_bind, hru, Result.andThen_ok, hte.run_size w, Sem.run_ite, run_unsupported]
      rw [if_neg (by omega)]
      by_cases h0 : len * ee.size = 0
      · rw [if_pos h0]
        have e0 : (Array.map (fun x => (#[] : Array Value)[x % (#[] : Array Value).size]!) (Array.range (len * ee.size))) = (Array.map (fun j => ee.zero.cells[j % ee.zero.cells.size]!) (Array.range (len * ee.size))) := by rw [h0]; simp
        simp only [Sem.run_pure, Result.andThen_ok, e0]
        rw [ha]
        simp only [Sem.run_bind, hrow, Result.andThen_ok, Sem.run_pure, Nat.add_zero]
      · rw [if_neg h0]
        simp only [hte.run_zero w, Sem.run_pure, Result.andThen_ok]
        rw [ha]
        simp only [Sem.run_bind, hrow, Result.andThen_ok, Sem.run_pure, Nat.add_zero]
    · cases he
  · cases he

/-- A row of n zero cells. -/
def zeroCells (zs : List SV) (n : Nat) : Cells :=
  match zs with
  | [] => { n := 0, d := .nilp, t := .nil }
  | z :: r => if Nat.ble 15 r.length = true then { n := n, d := .nilp, t := .nil, w := r.length + 1, dr := z :: r, r := .nil } else if r.all (SV.same z) = true then { n := n, d := z, t := .nil } else Cells.ofList (zeroL (z :: r) n)
theorem zeroCells_rel {E : Env} {zs : List SV} {zv : Array Value} (hz : Rels (SV.rel E) zs zv.toList) (hs : 0 < zs.length) (n : Nat) :
    (zeroCells zs n).n = n ∧ ∀ j, j < n → ∃ v, ((Array.range n).map (fun j => zv[j % zv.size]!))[j]? = some v ∧ ((zeroCells zs n).get j).rel E v := by
  have hrel := zero_rel hz hs n
  have hlen : (zeroL zs n).length = n := by simp [zeroL]
  unfold zeroCells
  split
  · simp at hs
  · rename_i z r
    split
    · refine ⟨rfl, fun j hj => ?_⟩
      obtain ⟨v, hv, h2⟩ := hrel.get j ((zeroL (z :: r) n)[j]'(by omega)) (List.getElem?_eq_getElem _)
      rw [Array.getElem?_toList] at hv
      refine ⟨v, hv, ?_⟩
      have e : (zeroL (z :: r) n)[j]'(by omega) = ({ n := n, d := .nilp, t := .nil, w := r.length + 1, dr := z :: r, r := .nil } : Cells).get j := by
        simp only [zeroL, List.getElem_map, List.getElem_range]
        rfl
      rw [← e]
      exact h2
    split
    · rename_i ha
      refine ⟨rfl, fun j hj => ?_⟩
      obtain ⟨v, hv, h2⟩ := hrel.get j ((zeroL (z :: r) n)[j]'(by omega)) (List.getElem?_eq_getElem _)
      rw [Array.getElem?_toList] at hv
      refine ⟨v, hv, ?_⟩
      have e : (zeroL (z :: r) n)[j]'(by omega) = z := by
        simp only [zeroL, List.getElem_map, List.getElem_range]
        have hlt : j % (z :: r).length < (z :: r).length := Nat.mod_lt _ hs
        rw [List.getElem?_eq_getElem hlt]
        show (z :: r)[j % (z :: r).length] = z
        generalize j % (z :: r).length = q at hlt
        cases q with
        | zero => rfl
        | succ q => exact (SV.same_eq (List.all_eq_true.1 ha _ (List.getElem_mem (by simpa using hlt)))).symm
      rw [e] at h2
      exact h2
    · obtain ⟨h1, h2⟩ := Cells.ofList_rel hrel
      rw [Array.toArray_toList] at h1 h2
      refine ⟨by rw [Cells.ofList_n, hlen], fun j hj => h2 j (by rw [Cells.ofList_n, hlen]; exact hj)⟩

def evMakeSlice (C : Ctx) (h : T Blk) (nx : Nat) (t : TypeId) : EV → EV → Option Res
  | .a (.s (.int kl l)), .a (.s (.int kc c)) =>
    (C.tab t).bind fun e =>
      match e.und with
      | .slice el => (C.tab el).bind fun ee => (litAV ee.zero).bind fun z =>
        if 0 ≤ l ∧ l ≤ c ∧ c < 2 ^ 62 ∧ ee.bytes * c ≤ 2 ^ 48 ∧ 0 < z.cells.length ∧ 0 < ee.size then
          some (.a (.s (.sl nx 0 l.toNat (some c.toNat) 0)), h.set nx (.cells el none (zeroCells z.cells (c.toNat * ee.size)) false), nx + 1)
        else none
      | _ => none
  | _, _ => none
theorem wrap_small {n : Int} (h0 : 0 ≤ n) (h1 : n < 2 ^ 62) : IntKind.i64.wrap n = n := by
  have e : n % (2 ^ IntKind.i64.bits : Int) = n := Int.emod_eq_of_lt h0 (by show n < 2 ^ 64; omega)
  show (if (IntKind.i64.signed && decide (n % (2 ^ IntKind.i64.bits : Int) ≥ (2 ^ (IntKind.i64.bits - 1) : Int))) = true then n % (2 ^ IntKind.i64.bits : Int) - (2 ^ IntKind.i64.bits : Int) else n % (2 ^ IntKind.i64.bits : Int)) = n
  simp only [e]
  have e2 : ¬ n ≥ (2 ^ (IntKind.i64.bits - 1) : Int) := by show ¬ n ≥ 2 ^ 63; omega
  simp only [e2, decide_false, Bool.and_false, Bool.false_eq_true, if_false]
theorem evMakeSlice_run {C : Ctx} (hC : C.Ok) {E : Env} {h : T Blk} {nx : Nat} {w : World} {t : TypeId} {x y : EV} {v u : Value} {r : Res} (he : evMakeSlice C h nx t x y = some r) (hx : x.rel E v) (hy : y.rel E u) : Runs C E h nx w (Instr.makeSlice t v u) r := by
  intro hr _ hf
  unfold evMakeSlice at he
  split at he
  · rename_i kl l kc c
    obtain ⟨e, h1, he⟩ := Option.bind_eq_some_iff.1 he
    split at he
    · rename_i el hu
      obtain ⟨ee, h2, he⟩ := Option.bind_eq_some_iff.1 he
      obtain ⟨z, h3, he⟩ := Option.bind_eq_some_iff.1 he
      split at he
      · rename_i hn
        obtain ⟨n0, n1, n2, n3, n4, n5⟩ := hn
        obtain rfl := Option.some.inj he
        obtain rfl := hx
        obtain rfl := hy
        have hru := (hC.tab t e h1).run_und w
        rw [hu] at hru
        have hte := hC.tab el ee h2
        obtain ⟨i, hinfo, _, hby, _⟩ := hte.run_info w
        have hz := AV.cells_rel (litAV_rel (E := E) h3)
        obtain ⟨hzn, hzr⟩ := zeroCells_rel hz n4 (c.toNat * ee.size)
        obtain ⟨hrow, hgoes⟩ := HRel.run_row (P := C.P) hr (fresh1 hf) el (c := zeroCells z.cells (c.toNat * ee.size)) (cs := (Array.range (c.toNat * ee.size)).map (fun j => ee.zero.cells[j % ee.zero.cells.size]!)) (by rw [hzn]; simp) (fun j hj => hzr j (by rw [hzn] at hj; exact hj))
        have hwl : IntKind.i64.wrap l = l := wrap_small n0 (by omega)
        have hwc : IntKind.i64.wrap c = c := wrap_small (by omega) n2
        refine ⟨.slice (some ⟨w.heap.size, 0, none⟩) l.toNat c.toNat, _, _, ?_, hgoes, _, Env.put_at _ _ _, by omega, rfl⟩
        simp only [Instr.makeSlice, Sem.run_bind, hru, Result.andThen_ok, asInt, asIntOf, Sem.run_pure, hinfo, hwl, hwc]
        have c1 : (decide (c < 0) || decide (((i.bytes : Nat) : Int) * c > 2 ^ 48)) = false := by
          rw [hby]
          simp only [Bool.or_eq_false_iff, decide_eq_false_iff_not]
          omega
        rw [if_neg (by rw [c1]; simp; omega)]
        simp only [Sem.run_bind, run_askRoom, Result.andThen_ok, hte.run_size w, Sem.run_ite, Sem.run_pure, hte.run_zero w]
        by_cases h0 : c.toNat * ee.size = 0
        · rw [if_pos h0]
          have e0 : (Array.map (fun x => (#[] : Array Value)[x % (#[] : Array Value).size]!) (Array.range (c.toNat * ee.size))) = (Array.map (fun j => ee.zero.cells[j % ee.zero.cells.size]!) (Array.range (c.toNat * ee.size))) := by rw [h0]; simp
          simp only [Result.andThen_ok, e0, hrow, Sem.run_pure]
        · rw [if_neg h0]
          simp only [Result.andThen_ok, hrow, Sem.run_pure]
      · cases he
    · cases he
  · cases he

end Go.Proofs.YtcnimekhpnejlaaGreat.Ev

/- The evaluator: slices of slices, small builtins. -/
namespace Go.Proofs.YtcnimekhpnejlaaGreat.Ev
open Go Go.RowKit
set_option linter.unusedVariables false
set_option linter.unusedSimpArgs false

/-! ### Slices of slices -/
def bound : Option EV → Option (Option Nat)
  | none => some none
  | some (.a (.s (.int _ n))) => if 0 ≤ n then some (some n.toNat) else none
  | _ => none
def relO (E : Env) : Option EV → Option Value → Prop
  | none, none => True
  | some x, some v => x.rel E v
  | _, _ => False
theorem bound_run {P : Program} {E : Env} {x : Option EV} {v : Option Value} {b : Option Nat} (hb : bound x = some b) (hx : relO E x v) : (v = none ∧ b = none) ∨ ∃ k n, v = some (.int k n) ∧ 0 ≤ n ∧ b = some n.toNat := by
  unfold bound at hb
  split at hb
  · obtain rfl := Option.some.inj hb
    cases v with
    | none => exact .inl ⟨rfl, rfl⟩
    | some v => exact hx.elim
  · rename_i k n
    split at hb
    · rename_i h0
      obtain rfl := Option.some.inj hb
      cases v with
      | none => exact hx.elim
      | some v => obtain rfl := hx; exact .inr ⟨k, n, rfl, h0, rfl⟩
    · cases hb
  · cases hb
theorem run_sliceBound {P : Program} {w : World} {k : IntKind} {n : Int} {y : Nat} {code : BoundsCode} (h0 : 0 ≤ n) (h1 : n.toNat ≤ y) : (Instr.sliceBound (.int k n) y code).run P w = .ok n.toNat w := by
  simp only [Instr.sliceBound, asIntOf, Sem.run_bind, Sem.run_pure, Result.andThen_ok]
  rw [if_pos ⟨h0, by omega⟩]
  rfl
theorem run_sliceBounds {P : Program} {E : Env} {w : World} {isS : Bool} {len cap : Nat} {lo hi mx : Option EV} {lv hv mv : Option Value} {bl bh bm : Option Nat} (hl : bound lo = some bl) (hh : bound hi = some bh) (hm : bound mx = some bm)
    (rl : relO E lo lv) (rh : relO E hi hv) (rm : relO E mx mv) (h1 : bm.getD cap ≤ cap) (h2 : bh.getD len ≤ bm.getD cap) (h3 : bl.getD 0 ≤ bh.getD len) (h4 : bm.isSome = true → bh.isSome = true) :
    (Instr.sliceBounds isS len cap lv hv mv).run P w = .ok (bl.getD 0, bh.getD len, bm.getD cap) w := by
  rcases bound_run (P := P) hl rl with ⟨rfl, rfl⟩ | ⟨kl, nl, rfl, l0, rfl⟩ <;> rcases bound_run (P := P) hh rh with ⟨rfl, rfl⟩ | ⟨kh, nh, rfl, g0, rfl⟩ <;> rcases bound_run (P := P) hm rm with ⟨rfl, rfl⟩ | ⟨km, nm, rfl, m0, rfl⟩ <;>
    simp only [Option.getD_some, Option.getD_none, Option.isSome_some, Option.isSome_none] at h1 h2 h3 h4 <;>
    first
      | (exfalso; simp at h4; done)
      | (simp only [Instr.sliceBounds, Sem.run_bind, Sem.run_pure, Result.andThen_ok, run_sliceBound l0 h3, run_sliceBound g0 h2, run_sliceBound m0 h1, Option.getD_some, Option.getD_none]; done)
      | (simp only [Instr.sliceBounds, Sem.run_bind, Sem.run_pure, Result.andThen_ok, run_sliceBound g0 h2, run_sliceBound m0 h1, Option.getD_some, Option.getD_none]; done)
      | (simp only [Instr.sliceBounds, Sem.run_bind, Sem.run_pure, Result.andThen_ok, run_sliceBound l0 h3, run_sliceBound g0 h2, Option.getD_some, Option.getD_none]; done)
      | (simp only [Instr.sliceBounds, Sem.run_bind, Sem.run_pure, Result.andThen_ok, run_sliceBound l0 h3, Option.getD_some, Option.getD_none]; done)
      | (simp only [Instr.sliceBounds, Sem.run_bind, Sem.run_pure, Result.andThen_ok, run_sliceBound g0 h2, Option.getD_some, Option.getD_none]; done)
      | (simp only [Instr.sliceBounds, Sem.run_bind, Sem.run_pure, Result.andThen_ok, Option.getD_some, Option.getD_none]; done)

def evSliceC (C : Ctx) (t : TypeId) (x : EV) (lo hi mx : Option EV) : Option EV :=
  (C.tab t).bind fun e => (bound lo).bind fun bl => (bound hi).bind fun bh => (bound mx).bind fun bm =>
    if bm.isSome = true ∧ bh.isSome = false then none else
    match e.und, x with
    | .string, .a (.s (.str s)) => if bm = none ∧ bl.getD 0 ≤ bh.getD s.size ∧ bh.getD s.size ≤ s.size then some (.a (.s (.str (s.extract (bl.getD 0) (bh.getD s.size))))) else none
    | .array n el, .a (.s (.ptr i o)) => (C.tab el).bind fun ee =>
      if bm.getD n ≤ n ∧ bh.getD n ≤ bm.getD n ∧ bl.getD 0 ≤ bh.getD n then
        some (.a (.s (.sl i (if bm.getD n = bl.getD 0 then o else o + bl.getD 0 * ee.size) (bh.getD n - bl.getD 0) (some (bm.getD n - bl.getD 0)) 0)))
      else none
    | .slice el, .a (.s (.sl i o len (some c) _)) => (C.tab el).bind fun ee =>
      if bm.getD c ≤ c ∧ bh.getD len ≤ bm.getD c ∧ bl.getD 0 ≤ bh.getD len then
        some (.a (.s (.sl i (if bm.getD c = bl.getD 0 then o else o + bl.getD 0 * ee.size) (bh.getD len - bl.getD 0) (some (bm.getD c - bl.getD 0)) 0)))
      else none
    | .slice el, .a (.s (.sl i o len none k)) => (C.tab el).bind fun ee =>
      match bm with
      | some m => if m ≤ len ∧ bh.getD len ≤ m ∧ bl.getD 0 ≤ bh.getD len then some (.a (.s (.sl i (if m = bl.getD 0 then o else o + bl.getD 0 * ee.size) (bh.getD len - bl.getD 0) (some (m - bl.getD 0)) 0))) else none
      | none =>
        if bh.getD len ≤ len ∧ bl.getD 0 ≤ bh.getD len then
          if bl.getD 0 < len ∨ bl.getD 0 = 0 then some (.a (.s (.sl i (o + bl.getD 0 * ee.size) (bh.getD len - bl.getD 0) none (k + bl.getD 0)))) else some (.a (.s (.slz none)))
        else none
    | .slice el, .a (.s .nils) => (C.tab el).bind fun _ => if bm.getD 0 = 0 ∧ bh.getD 0 = 0 ∧ bl.getD 0 = 0 then some (.a (.s .nils)) else none
    | .slice el, .a (.s (.slz c)) => (C.tab el).bind fun _ =>
      match bm with
      | some m => if m = 0 ∧ bh.getD 0 = 0 ∧ bl.getD 0 = 0 then some (.a (.s (.slz (some 0)))) else none
      | none => if bh.getD 0 = 0 ∧ bl.getD 0 = 0 then some (.a (.s (.slz c))) else none
    | _, _ => none

theorem evSliceC_run {C : Ctx} (hC : C.Ok) {E : Env} {w : World} {t : TypeId} {x r : EV} {lo hi mx : Option EV} {v : Value} {lv hv mv : Option Value} (he : evSliceC C t x lo hi mx = some r) (hx : x.rel E v) (rl : relO E lo lv) (rh : relO E hi hv) (rm : relO E mx mv) :
    Reads C E w (Instr.sliceAt t v lv hv mv) r := by
  replace he := Option.bind_eq_some_iff.1 he
  obtain ⟨e, h1, he⟩ := he
  replace he := Option.bind_eq_some_iff.1 he
  obtain ⟨bl, hbl, he⟩ := he
  replace he := Option.bind_eq_some_iff.1 he
  obtain ⟨bh, hbh, he⟩ := he
  replace he := Option.bind_eq_some_iff.1 he
  obtain ⟨bm, hbm, he⟩ := he
  have hru := (hC.tab t e h1).run_und w
  split at he
  · cases he
  rename_i hmh
  have h4 : bm.isSome = true → bh.isSome = true := fun h => by
    cases hb : bh.isSome with
    | true => rfl
    | false => exact absurd ⟨h, hb⟩ hmh
  split at he
  · rename_i s hu
    rw [hu] at hru
    split at he
    · rename_i hn
      obtain ⟨rfl, n1, n2⟩ := hn
      obtain rfl := Option.some.inj he
      obtain rfl := hx
      have hb := run_sliceBounds (P := C.P) (w := w) (isS := false) (len := s.size) (cap := s.size) (mx := none) (mv := none) (bm := none) hbl hbh rfl rl rh trivial (Nat.le_refl _) n2 n1 (fun h => by cases h)
      refine ⟨_, ?_, rfl⟩
      have hmv : mv.isSome = false := by
        rcases bound_run (P := C.P) hbm rm with ⟨rfl, _⟩ | ⟨_, _, _, _, h⟩
        · rfl
        · cases h
      simp only [Instr.sliceAt, Sem.run_bind, hru, Result.andThen_ok, Instr.slice, hmv, Bool.false_eq_true, if_false, Sem.run_pure, hb]
    · cases he
  · rename_i n el i o hu
    rw [hu] at hru
    replace he := Option.bind_eq_some_iff.1 he
    obtain ⟨ee, h2, he⟩ := he
    split at he
    · rename_i hn
      obtain ⟨n1, n2, n3⟩ := hn
      obtain rfl := Option.some.inj he
      obtain ⟨p, hp, rfl⟩ := hx
      have hb := run_sliceBounds (P := C.P) (w := w) (isS := false) (len := n) (cap := n) hbl hbh hbm rl rh rm n1 n2 n3 h4
      refine ⟨.slice (some ⟨p.blk, p.dl + (if bm.getD n = bl.getD 0 then o else o + bl.getD 0 * ee.size), none⟩) (bh.getD n - bl.getD 0) (bm.getD n - bl.getD 0), ?_, p, hp, by omega, rfl⟩
      simp only [Instr.sliceAt, Sem.run_bind, hru, Result.andThen_ok, Instr.sureAddr, Sem.run_pure, hb, (hC.tab _ _ h2).run_size w]
      split
      · rfl
      · rw [add_eq, Nat.add_assoc]
    · cases he
  · rename_i el i o len c q hu
    rw [hu] at hru
    replace he := Option.bind_eq_some_iff.1 he
    obtain ⟨ee, h2, he⟩ := he
    split at he
    · rename_i hn
      obtain ⟨n1, n2, n3⟩ := hn
      obtain rfl := Option.some.inj he
      obtain ⟨p, hp, hlc, rfl⟩ := hx
      have hb := run_sliceBounds (P := C.P) (w := w) (isS := true) (len := len) (cap := c) hbl hbh hbm rl rh rm n1 n2 n3 h4
      refine ⟨.slice (some ⟨p.blk, p.dl + (if bm.getD c = bl.getD 0 then o else o + bl.getD 0 * ee.size), none⟩) (bh.getD len - bl.getD 0) (bm.getD c - bl.getD 0), ?_, p, hp, by omega, rfl⟩
      simp only [Instr.sliceAt, Sem.run_bind, hru, Result.andThen_ok, Instr.slice, Sem.run_pure, hb, (hC.tab _ _ h2).run_size w]
      split
      · rfl
      · simp only [Option.map_some]
        rw [add_eq, Nat.add_assoc]
    · cases he
  · rename_i el i o len k hu
    rw [hu] at hru
    replace he := Option.bind_eq_some_iff.1 he
    obtain ⟨ee, h2, he⟩ := he
    obtain ⟨p, hp, hlc, rfl⟩ := hx
    split at he
    · rename_i m
      split at he
      · rename_i hn
        obtain ⟨n1, n2, n3⟩ := hn
        obtain rfl := Option.some.inj he
        have hb := run_sliceBounds (P := C.P) (w := w) (isS := true) (len := len) (cap := p.cap - k) hbl hbh hbm rl rh rm (by show m ≤ _; omega) n2 n3 h4
        refine ⟨.slice (some ⟨p.blk, p.dl + (if m = bl.getD 0 then o else o + bl.getD 0 * ee.size), none⟩) (bh.getD len - bl.getD 0) (m - bl.getD 0), ?_, p, hp, by omega, rfl⟩
        simp only [Instr.sliceAt, Sem.run_bind, hru, Result.andThen_ok, Instr.slice, Sem.run_pure, hb, (hC.tab _ _ h2).run_size w, Option.getD_some]
        split
        · rfl
        · simp only [Option.map_some]
          rw [add_eq, Nat.add_assoc]
      · cases he
    · split at he
      · rename_i hn
        obtain ⟨n1, n2⟩ := hn
        have hb := run_sliceBounds (P := C.P) (w := w) (isS := true) (len := len) (cap := p.cap - k) hbl hbh hbm rl rh rm (Nat.le_refl _) (by show _ ≤ p.cap - k; omega) n2 h4
        split at he
        · rename_i hq
          obtain rfl := Option.some.inj he
          refine ⟨.slice (some ⟨p.blk, p.dl + (o + bl.getD 0 * ee.size), none⟩) (bh.getD len - bl.getD 0) (p.cap - (k + bl.getD 0)), ?_, p, hp, by omega, rfl⟩
          simp only [Instr.sliceAt, Sem.run_bind, hru, Result.andThen_ok, Instr.slice, Sem.run_pure, hb, (hC.tab _ _ h2).run_size w, Option.getD_none]
          rw [show p.cap - k - bl.getD 0 = p.cap - (k + bl.getD 0) by omega]
          split
          · rename_i hcap
            have hz : bl.getD 0 = 0 := by omega
            rw [hz, Nat.zero_mul, Nat.add_zero]
            rfl
          · simp only [Option.map_some]
            rw [add_eq, Nat.add_assoc]
        · rename_i hq
          obtain rfl := Option.some.inj he
          have hz : bh.getD len - bl.getD 0 = 0 := by omega
          refine ⟨_, ?_, if p.cap - k = bl.getD 0 then ⟨p.blk, p.dl + o, none⟩ else (⟨p.blk, p.dl + o, none⟩ : Addr).add (bl.getD 0 * ee.size), p.cap - k - bl.getD 0, rfl⟩
          simp only [Instr.sliceAt, Sem.run_bind, hru, Result.andThen_ok, Instr.slice, Sem.run_pure, hb, (hC.tab _ _ h2).run_size w, Option.getD_none, hz]
          split <;> rfl
      · cases he
  · rename_i el hu
    rw [hu] at hru
    replace he := Option.bind_eq_some_iff.1 he
    obtain ⟨ee, h2, he⟩ := he
    split at he
    · rename_i hn
      obtain ⟨n1, n2, n3⟩ := hn
      obtain rfl := Option.some.inj he
      obtain rfl := hx
      have hb := run_sliceBounds (P := C.P) (w := w) (isS := true) (len := 0) (cap := 0) hbl hbh hbm rl rh rm (by omega) (by omega) (by omega) h4
      refine ⟨_, ?_, rfl⟩
      simp only [Instr.sliceAt, Sem.run_bind, hru, Result.andThen_ok, Instr.slice, Sem.run_pure, hb, (hC.tab _ _ h2).run_size w, n1, n2, n3, if_true, Nat.sub_self]
    · cases he
  · rename_i el c hu
    rw [hu] at hru
    replace he := Option.bind_eq_some_iff.1 he
    obtain ⟨ee, h2, he⟩ := he
    obtain ⟨a, cp, rfl⟩ := SV.slz_form hx
    split at he
    · rename_i m
      split at he
      · rename_i hn
        obtain ⟨rfl, n2, n3⟩ := hn
        obtain rfl := Option.some.inj he
        have hb := run_sliceBounds (P := C.P) (w := w) (isS := true) (len := 0) (cap := cp) hbl hbh hbm rl rh rm (by show 0 ≤ _; omega) (by show _ ≤ 0; omega) (by omega) h4
        refine ⟨_, ?_, a, rfl⟩
        simp only [Instr.sliceAt, Sem.run_bind, hru, Result.andThen_ok, Instr.slice, Sem.run_pure, hb, (hC.tab _ _ h2).run_size w, n2, n3, Option.getD_some, if_true, Nat.sub_self]
      · cases he
    · split at he
      · rename_i hn
        obtain ⟨n2, n3⟩ := hn
        obtain rfl := Option.some.inj he
        have hb := run_sliceBounds (P := C.P) (w := w) (isS := true) (len := 0) (cap := cp) hbl hbh hbm rl rh rm (Nat.le_refl _) (by show _ ≤ cp; omega) (by omega) h4
        refine ⟨.slice (some a) 0 cp, ?_, hx⟩
        simp only [Instr.sliceAt, Sem.run_bind, hru, Result.andThen_ok, Instr.slice, Sem.run_pure, hb, (hC.tab _ _ h2).run_size w, n2, n3, Option.getD_none, Nat.sub_self, Nat.zero_mul, Nat.sub_zero]
        split
        · rfl
        · rfl
      · cases he
  · cases he

/-- A bound of a text's slice, as an expression. -/
def boundX (d : X) : Option EV → Option X
  | none => some d
  | some (.a (.s y)) => (asI y).map (·.2)
  | _ => none
def leX (C : Ctx) (a b : X) : Bool := decide (a = b) || decide (C.tru (.lt b a) = some false)
theorem leX_ok {C : Ctx} (hC : C.Ok) {a b : X} (h : leX C a b = true) : a.int C.ρ ≤ b.int C.ρ := by
  unfold leX at h
  rw [Bool.or_eq_true, decide_eq_true_eq, decide_eq_true_eq] at h
  rcases h with rfl | h
  · exact Int.le_refl _
  · have h1 : decide (b.int C.ρ < a.int C.ρ) = false := hC.tru_ok h
    have := of_decide_eq_false h1
    omega
def evSlice (C : Ctx) (t : TypeId) (x : EV) (lo hi mx : Option EV) : Option EV :=
  match evSliceC C t x lo hi mx with
  | some r => some r
  | none => (C.tab t).bind fun e =>
    match e.und, x, mx with
    | .string, .a (.s x), none => (asS x).bind fun s => (boundX (.li 0) lo).bind fun a => (boundX (.len s) hi).bind fun b =>
      if leX C (.li 0) a = true ∧ leX C a b = true ∧ leX C b (.len s) = true then some (.a (.s (.xs (.sub s a b)))) else none
    | _, _, _ => none
theorem boundX_lo {E : Env} {lo : Option EV} {lv : Option Value} {a d : X} (h : boundX d lo = some a) (hr : relO E lo lv) : (lo = none ∧ lv = none ∧ a = d) ∨ ∃ k, lv = some (.int k (a.int E.ρ)) := by
  unfold boundX at h
  split at h
  · obtain rfl := Option.some.inj h
    cases lv with
    | none => exact .inl ⟨rfl, rfl, rfl⟩
    | some v => exact hr.elim
  · obtain ⟨⟨k, b⟩, hq, rfl⟩ := Option.map_eq_some_iff.1 h
    cases lv with
    | none => exact hr.elim
    | some v => exact .inr ⟨k, by rw [asI_rel hq hr]⟩
  · cases h
theorem evSlice_run {C : Ctx} (hC : C.Ok) {E : Env} (hρ : E.ρ = C.ρ) {w : World} {t : TypeId} {x r : EV} {lo hi mx : Option EV} {v : Value} {lv hv mv : Option Value} (he : evSlice C t x lo hi mx = some r) (hx : x.rel E v) (rl : relO E lo lv) (rh : relO E hi hv) (rm : relO E mx mv) :
    Reads C E w (Instr.sliceAt t v lv hv mv) r := by
  unfold evSlice at he
  split at he
  · rename_i r' hs
    obtain rfl := Option.some.inj he
    exact evSliceC_run hC hs hx rl rh rm
  · obtain ⟨e, h1, he⟩ := Option.bind_eq_some_iff.1 he
    split at he
    · have hu : e.und = TypeDesc.string := by assumption
      obtain ⟨s, hs, he⟩ := Option.bind_eq_some_iff.1 he
      obtain ⟨a, ha, he⟩ := Option.bind_eq_some_iff.1 he
      obtain ⟨b, hb, he⟩ := Option.bind_eq_some_iff.1 he
      split at he
      · rename_i hc
        obtain rfl := Option.some.inj he
        have c1 := leX_ok hC hc.1
        have c2 := leX_ok hC hc.2.1
        have c3 := leX_ok hC hc.2.2
        rw [← hρ] at c1 c2 c3
        have c1 : 0 ≤ a.int E.ρ := c1
        have c3 : b.int E.ρ ≤ ((s.str E.ρ).size : Int) := c3
        obtain rfl := asS_rel hs hx
        have key : ∀ lo' hi' : Option EV, relO E lo' lv → relO E hi' hv → (bound lo').isSome = true → (bound hi').isSome = true → ((bound lo').getD none).getD 0 = (a.int E.ρ).toNat → ((bound hi').getD none).getD (s.str E.ρ).size = (b.int E.ρ).toNat →
            Reads C E w (Instr.sliceAt t (.string (s.str E.ρ)) lv hv mv) (.a (.s (.xs (.sub s a b)))) := fun lo' hi' rl' rh' i1 i2 e1 e2 => by
          obtain ⟨bl, hbl⟩ := Option.isSome_iff_exists.1 i1
          obtain ⟨bh, hbh⟩ := Option.isSome_iff_exists.1 i2
          rw [hbl] at e1
          rw [hbh] at e2
          simp only [Option.getD_some] at e1 e2
          have hq : evSliceC C t (.a (.s (.str (s.str E.ρ)))) lo' hi' none = some (.a (.s (.str ((s.str E.ρ).extract (a.int E.ρ).toNat (b.int E.ρ).toNat)))) := by
            unfold evSliceC
            rw [h1, hbl, hbh]
            simp only [Option.bind_some, bound, Option.isSome_none, Bool.false_eq_true, false_and, if_false, hu]
            rw [e1, e2, if_pos ⟨trivial, by omega, by omega⟩]
          obtain ⟨z, hz, hz2⟩ := evSliceC_run hC (x := .a (.s (.str (s.str E.ρ)))) (v := .string (s.str E.ρ)) (w := w) (mv := mv) hq rfl rl' rh' rm
          exact ⟨z, hz, hz2⟩
        rcases boundX_lo ha rl with ⟨rfl, rfl, rfl⟩ | ⟨k, rfl⟩ <;> rcases boundX_lo hb rh with ⟨rfl, rfl, rfl⟩ | ⟨k2, rfl⟩
        · exact key none none trivial trivial rfl rfl rfl rfl
        · refine key none (some (.a (.s (.int k2 (b.int E.ρ))))) trivial rfl rfl ?_ rfl ?_ <;> simp only [bound] <;> rw [if_pos (by omega)] <;> rfl
        · refine key (some (.a (.s (.int k (a.int E.ρ))))) none rfl trivial ?_ rfl ?_ rfl <;> simp only [bound] <;> rw [if_pos (by omega)] <;> rfl
        · refine key (some (.a (.s (.int k (a.int E.ρ))))) (some (.a (.s (.int k2 (b.int E.ρ))))) rfl rfl ?_ ?_ ?_ ?_ <;> simp only [bound] <;> rw [if_pos (by omega)] <;> rfl
      · cases he
    · cases he

end Go.Proofs.YtcnimekhpnejlaaGreat.Ev

/- The evaluator: append, copy, len, min, max. -/
namespace Go.Proofs.YtcnimekhpnejlaaGreat.Ev
open Go Go.RowKit
set_option linter.unusedVariables false
set_option linter.unusedSimpArgs false

/-- The elements that a slice or a text holds: their number, and their cells. -/
def evSrc (h : T Blk) (size : Nat) : EV → Option (Nat × List SV)
  | .a (.s .nils) => some (0, [])
  | .a (.s (.slz _)) => some (0, [])
  | .a (.s (.sl i o len _ _)) =>
    match h.get i with
    | some (.cells _ _ c _) => if o + len * size ≤ c.n then some (len, c.list o (len * size)) else none
    | _ => none
  | .a (.s (.str s)) => if size = 1 then some (s.size, s.data.toList.map fun b => .int .u8 b.toNat) else none
  | _ => none
/-- The first m of them. -/
theorem evSrc_run {C : Ctx} {E : Env} {h : T Blk} {w : World} {size : Nat} {x : EV} {v : Value} {n : Nat} {cs : List SV} (he : evSrc h size x = some (n, cs)) (hr : HRel E h w) (hx : x.rel E v) :
    (Builtin.lenOf v).run C.P w = .ok n w ∧ cs.length = n * size ∧ ∀ m, m ≤ n → ∃ vs : List Value, Rels (SV.rel E) (cs.take (m * size)) vs ∧ ∀ w2 : World, w2.heap = w.heap → (Builtin.firstCells size m v).run C.P w2 = .ok vs.toArray w2 := by
  unfold evSrc at he
  split at he
  · obtain rfl := hx
    cases he
    refine ⟨rfl, by simp, fun m hm => ⟨[], by simp [Rels], fun w2 _ => rfl⟩⟩
  · obtain ⟨a, c, rfl⟩ := SV.slz_form hx
    cases he
    refine ⟨rfl, by simp, fun m hm => ⟨[], by simp [Rels], fun w2 _ => ?_⟩⟩
    obtain rfl : m = 0 := by omega
    simp only [Builtin.firstCells, Nat.zero_mul]
    rfl
  · rename_i i o len q k
    split at he
    · rename_i t opn c fz hb
      split at he
      · rename_i hn
        obtain ⟨p, cp, hp, _, rfl⟩ := SV.sl_form hx
        cases he
        refine ⟨rfl, by rw [Cells.list_length], fun m hm => ?_⟩
        have hle : m * size ≤ n * size := Nat.mul_le_mul_right _ hm
        obtain ⟨vs, h1, h2, h3⟩ := hr.read hb hp o (m * size) (by omega)
        refine ⟨vs, ?_, fun w2 hw => ?_⟩
        rotate_left
        · have h4 := run_loadCells_list (P := C.P) w2 ⟨p.blk, p.dl + o, none⟩ vs (fun j v hv => by
            rw [add_eq]
            have := h3 j v hv
            unfold World.cell? at this ⊢
            rw [hw]
            exact this)
          rw [h1] at h4
          exact h4
        have e : (c.list o (n * size)).take (m * size) = c.list o (m * size) := by
          apply List.ext_getElem?
          intro j
          by_cases hj : j < m * size
          · rw [List.getElem?_take_of_lt hj, Cells.list_get c _ _ _ (by omega), Cells.list_get c _ _ _ hj]
          · rw [List.getElem?_eq_none (by rw [List.length_take, Cells.list_length]; omega), List.getElem?_eq_none (by rw [Cells.list_length]; omega)]
        rw [e]
        exact h2
      · cases he
    · cases he
  · rename_i s
    split at he
    · rename_i hs
      subst hs
      obtain rfl := hx
      cases he
      refine ⟨rfl, by simp, fun m hm => ⟨((s.extract 0 m).data.toList.map fun b => .int .u8 b.toNat), ?_, fun w2 _ => ?_⟩⟩
      rotate_left
      · simp only [Builtin.firstCells, Sem.run_pure]
        congr 1
        apply Array.toList_inj.1
        simp
      · refine Rels.of_get ?_ (fun j a b ha hb => ?_)
        · rw [List.length_map, List.length_take, List.length_map, Lib.extract_data]
          simp
        · rw [Nat.mul_one, List.getElem?_take] at ha
          split at ha
          · rename_i hj
            rw [List.getElem?_map] at ha hb
            rw [Lib.extract_data, List.drop_zero, Nat.sub_zero, List.getElem?_take_of_lt hj] at hb
            cases hq : s.data.toList[j]? with
            | none => rw [hq] at ha; cases ha
            | some z =>
              rw [hq] at ha hb
              obtain rfl := Option.some.inj ha
              obtain rfl := Option.some.inj hb
              rfl
          · cases ha
    · cases he
  · cases he

/-- A bound on what a slice grows to. -/
theorem growBy_le (n : Nat) : ∀ (r c : Nat), c ≤ 2 * n + 1000 → Builtin.growBy n r c ≤ 2 * n + 1000
  | 0, c, h => h
  | r + 1, c, h => by
    unfold Builtin.growBy
    split
    · exact h
    · exact growBy_le n r _ (by omega)
theorem nextcap_le {need old : Nat} (h : old < need) : Builtin.nextslicecap need old ≤ 2 * need + 1000 := by
  unfold Builtin.nextslicecap
  split
  · omega
  · split
    · omega
    · exact growBy_le need 4 old (by omega)

structure AppT where
  el : TypeId
  ee : TE
  z : AV
def evAppT (C : Ctx) (ts : Array TypeId) : Option AppT :=
  (ts[0]?).bind fun t0 => (ts[1]?).bind fun t1 => (C.tab t0).bind fun e0 => (C.tab t1).bind fun e1 =>
    match e0.und, e1.und with
    | .slice _, .int _ => none
    | .slice el, _ => (C.tab el).bind fun ee => (litAV ee.zero).bind fun z => if 0 < ee.size ∧ 0 < ee.bytes ∧ z.cells.length = ee.size then some ⟨el, ee, z⟩ else none
    | _, _ => none

/-- A new row for a slice that has no room. -/
def evGrow (h : T Blk) (nx : Nat) (A : AppT) (need : Nat) (cs : List SV) : Res := (.a (.s (.sl nx 0 need none 0)), h.set nx (.cells A.el (some A.ee.size) (Cells.ofCells A.ee.size cs) false), nx + 1)
def evAppend (C : Ctx) (h : T Blk) (nx : Nat) (ts : Array TypeId) (s x : EV) : Option Res :=
  (evAppT C ts).bind fun A => (evSrc h A.ee.size x).bind fun q =>
    match s with
    | .a (.s .nils) => if q.1 = 0 then some (s, h, nx) else if Builtin.nextslicecap q.1 0 * A.ee.bytes ≤ 2 ^ 48 then some (evGrow h nx A q.1 q.2) else none
    | .a (.s (.slz (some 0))) => if q.1 = 0 then some (s, h, nx) else if Builtin.nextslicecap q.1 0 * A.ee.bytes ≤ 2 ^ 48 then some (evGrow h nx A q.1 q.2) else none
    | .a (.s (.slz _)) => if q.1 = 0 then some (s, h, nx) else none
    | .a (.s (.sl i o len (some c) k)) =>
      match h.get i with
      | some (.cells t opn cl fz) =>
        if len + q.1 ≤ c then (if o + len * A.ee.size + q.1 * A.ee.size ≤ cl.n then some (.a (.s (.sl i o (len + q.1) (some c) 0)), h.set i (.cells t opn (cl.puts (o + len * A.ee.size) q.2) fz), nx) else none)
        else if o + len * A.ee.size ≤ cl.n ∧ Builtin.nextslicecap (len + q.1) c * A.ee.bytes ≤ 2 ^ 48 then some (evGrow h nx A (len + q.1) (cl.list o (len * A.ee.size) ++ q.2)) else none
      | _ => none
    | .a (.s (.sl i o len none k)) =>
      if q.1 = 0 then some (s, h, nx) else
      match h.get i with
      | some (.cells t (some sz) cl fz) =>
        if t = A.el ∧ sz = A.ee.size ∧ o = k * sz ∧ o + len * sz ≤ cl.n ∧ (2 * (len + q.1) + 1000) * A.ee.bytes ≤ 2 ^ 48 ∧ i ≠ nx then
          some (.a (.s (.sl nx 0 (len + q.1) none 0)), (h.del i).set nx (.cells A.el (some sz) (cl.app o (len * sz) q.2) fz), nx + 1)
        else none
      | _ => none
    | _ => none

theorem draw_heap (w : World) (n : Nat) : ({ w with drawn := n } : World).heap = w.heap := rfl

/-- The row that append makes: what was there, what is new, and zeros. -/
theorem grow_row {C : Ctx} {E : Env} {h : T Blk} {nx : Nat} {w : World} (hr : HRel E h w) (hn : E.m nx = none) (A : AppT) {need : Nat} {cs : List SV} {vs : List Value} (hcs : Rels (SV.rel E) cs vs) (hl : cs.length = need * A.ee.size) {newCap : Nat} (hc : need ≤ newCap) {rest : Array Value} (hrest : rest.size = (newCap - need) * A.ee.size) {arr : Array Value} (ha : arr = vs.toArray ++ rest) {w' : World} (hw : w' = { w with heap := w.heap.push (.cells arr A.el) }) :
    ∃ E', Goes E h nx w E' (evGrow h nx A need cs).2.1 (nx + 1) w' ∧ (evGrow h nx A need cs).1.rel E' (.slice (some ⟨w.heap.size, 0, none⟩) need newCap) := by
  subst hw
  subst ha
  have hvl := hcs.length
  have hmul : need * A.ee.size + (newCap - need) * A.ee.size = newCap * A.ee.size := by rw [← Nat.add_mul]; congr 1; omega
  refine ⟨_, Goes.new hr hn ⟨w.heap.size, 0, newCap⟩ rfl ⟨vs.toArray ++ rest, 0, 0, rfl, {
    fz := fun _ => ⟨rfl, rfl⟩
    free := fun _ _ => by omega
    room := fun sz hsz => by
      obtain rfl := Option.some.inj hsz
      rw [Array.size_append, hrest]
      simp only [List.size_toArray]
      omega
    fits := by
      rw [Array.size_append, Cells.ofCells_n]
      simp only [List.size_toArray]
      omega
    dl := fun h => by cases h
    get := fun j hj => by
      obtain ⟨_, h2⟩ := Cells.ofCells_rel A.ee.size hcs
      obtain ⟨v, hv, hrel⟩ := h2 j hj
      rw [Cells.ofCells_n] at hj
      refine ⟨v, ?_, SV.ext (Env.ext_put hn) hrel⟩
      rw [Nat.zero_add, Array.getElem?_append_left (by simp; omega)]
      exact hv }⟩, ⟨w.heap.size, 0, newCap⟩, Env.put_at _ _ _, by show need + 0 ≤ newCap; omega, rfl⟩


theorem run_appT {C : Ctx} (hC : C.Ok) {ts : Array TypeId} {A : AppT} (h : evAppT C ts = some A) : ∃ t0 t1 e0 e1, ts[0]? = some t0 ∧ ts[1]? = some t1 ∧ C.tab t0 = some e0 ∧ C.tab t1 = some e1 ∧ e0.und = .slice A.el ∧ (∀ k, e1.und ≠ .int k) ∧ C.tab A.el = some A.ee ∧ litAV A.ee.zero = some A.z ∧ 0 < A.ee.size ∧ 0 < A.ee.bytes ∧ A.z.cells.length = A.ee.size := by
  unfold evAppT at h
  obtain ⟨t0, h0, h⟩ := Option.bind_eq_some_iff.1 h
  obtain ⟨t1, h1, h⟩ := Option.bind_eq_some_iff.1 h
  obtain ⟨e0, g0, h⟩ := Option.bind_eq_some_iff.1 h
  obtain ⟨e1, g1, h⟩ := Option.bind_eq_some_iff.1 h
  cases hu : e0.und <;> rw [hu] at h <;> try (cases h; done)
  rename_i el
  have hint : ∀ k, e1.und ≠ .int k := fun k hk => by rw [hk] at h; cases h
  have h' : ((C.tab el).bind fun ee => (litAV ee.zero).bind fun z => if 0 < ee.size ∧ 0 < ee.bytes ∧ z.cells.length = ee.size then some (⟨el, ee, z⟩ : AppT) else none) = some A := by
    cases hv : e1.und <;> rw [hv] at h <;> first | exact h | exact absurd hv (hint _)
  obtain ⟨ee, h2, h'⟩ := Option.bind_eq_some_iff.1 h'
  obtain ⟨z, h3, h'⟩ := Option.bind_eq_some_iff.1 h'
  split at h'
  · rename_i hn
    obtain rfl := Option.some.inj h'
    exact ⟨t0, t1, e0, e1, h0, h1, g0, g1, hu, hint, h2, h3, hn⟩
  · cases h'

section
variable {C : Ctx} (hC : C.Ok) {ts : Array TypeId} {A : AppT} (hA : evAppT C ts = some A) {w : World} {ty : TypeId} {base : Option Addr} {len cap n : Nat} {vx : Value}
include hC hA

theorem append_room {w' : World} {news : List Value} (hn : (Builtin.lenOf vx).run C.P w = .ok n w) (hr : len + n ≤ cap) (hf : (Builtin.firstCells A.ee.size n vx).run C.P w = .ok news.toArray w)
    (hs : match base with | some a => (storeCells (a.add (len * A.ee.size)) news).run C.P w = .ok () w' | none => w' = w) :
    (Builtin.append_ ts ty #[.slice base len cap, vx]).run C.P w = .ok (.slice base (len + n) cap) w' := by
  obtain ⟨t0, t1, e0, e1, h0, h1, g0, g1, hu, hint, g2, hz, hsz0, hb, hl⟩ := run_appT hC hA
  have r0 := (hC.tab _ _ g0).run_und w
  rw [hu] at r0
  have r1 := (hC.tab _ _ g1).run_und w
  have hsz := (hC.tab _ _ g2).run_size w
  have hnz : (match e1.und with | .int _ => true | _ => false) = false := by
    cases hv : e1.und <;> first | rfl | exact absurd hv (hint _)
  unfold Builtin.append_
  simp only [h0, h1, List.getElem?_toArray, List.getElem?_cons_zero, List.getElem?_cons_succ, Sem.run_bind, r0, r1, hsz, Result.andThen_ok, Sem.run_pure, hnz, Bool.false_eq_true, if_false, hn, Bool.not_false, if_true, hr, hf]
  cases base with
  | none =>
    simp only at hs
    subst hs
    rfl
  | some a =>
    simp only at hs
    simp only [hs, Sem.run_bind, Result.andThen_ok, Sem.run_pure]

theorem append_grow {olds news : List Value} (hn : (Builtin.lenOf vx).run C.P w = .ok n w) (hr : cap < len + n) (hcap : Builtin.nextslicecap (len + n) cap * A.ee.bytes ≤ 2 ^ 48)
    (ho : ∀ w2 : World, w2.heap = w.heap → (Builtin.firstCells A.ee.size len (.slice base len cap)).run C.P w2 = .ok olds.toArray w2) (hf : ∀ w2 : World, w2.heap = w.heap → (Builtin.firstCells A.ee.size n vx).run C.P w2 = .ok news.toArray w2) :
    ∃ newCap, len + n ≤ newCap ∧ (Builtin.append_ ts ty #[.slice base len cap, vx]).run C.P w = .ok (.slice (some ⟨w.heap.size, 0, none⟩) (len + n) newCap)
      { ({ w with drawn := w.drawn + 1 } : World) with heap := w.heap.push (.cells (olds.toArray ++ news.toArray ++ Builtin.zeroCells A.ee.zero.cells (newCap - (len + n))) A.el) } := by
  obtain ⟨t0, t1, e0, e1, h0, h1, g0, g1, hu, hint, g2, hz, hsz0, hb, hl⟩ := run_appT hC hA
  have r0 := (hC.tab _ _ g0).run_und w
  rw [hu] at r0
  have r1 := (hC.tab _ _ g1).run_und w
  have hsz := (hC.tab _ _ g2).run_size w
  obtain ⟨i, hi, _, hby, hzr⟩ := (hC.tab _ _ g2).info
  have hnz : (match e1.und with | .int _ => true | _ => false) = false := by
    cases hv : e1.und <;> first | rfl | exact absurd hv (hint _)
  have hle : ¬ len + n ≤ cap := by omega
  have hcap' : ¬ (Builtin.nextslicecap (len + n) cap * i.bytes > 2 ^ 48) := by rw [hby]; omega
  have hfo : (Question.appendCap (len + n) cap A.el).forced = false := rfl
  have hbz : (i.bytes = 0) = False := by rw [hby]; simp; omega
  have ho' := ho { w with drawn := w.drawn + 1 } rfl
  have hf' := hf { w with drawn := w.drawn + 1 } rfl
  refine ⟨(Question.appendCap (len + n) cap A.el).cut (w.tape w.drawn (.appendCap (len + n) cap A.el)), by simp only [Question.cut]; omega, ?_⟩
  unfold Builtin.append_
  simp only [h0, h1, List.getElem?_toArray, List.getElem?_cons_zero, List.getElem?_cons_succ, Sem.run_bind, r0, r1, hsz, Result.andThen_ok, Sem.run_pure, hnz, Bool.false_eq_true, if_false, hn, Bool.not_false, if_true, hle, typeInfo, run_program, hi, hbz, or_self, and_false, hcap', run_choose, hfo, run_askRoom, ho', hf', zeroValue, hzr, newRow, run_newObj]
end

end Go.Proofs.YtcnimekhpnejlaaGreat.Ev

/- The evaluator: append, copy, len, min, max. -/
namespace Go.Proofs.YtcnimekhpnejlaaGreat.Ev
open Go Go.RowKit
set_option linter.unusedVariables false
set_option linter.unusedSimpArgs false

theorem goes_drawn {E E' : Env} {h h' : T Blk} {nx nx' : Nat} {w w' : World} {k : Nat} (hr : HRel E h w) (g : Goes E h nx { w with drawn := k } E' h' nx' w') : Goes E h nx w E' h' nx' w' :=
  (Goes.draw (w' := { w with drawn := k }) hr rfl rfl rfl rfl).trans g
theorem hrel_heap {E : Env} {h : T Blk} {w w2 : World} (hr : HRel E h w) (hw : w2.heap = w.heap) : HRel E h w2 := ⟨fun i b hb => by rw [hw]; exact hr.at_ i b hb, hr.inj, (hr.abs.heap hw).1⟩
theorem HAbs.swap {E : Env} {h h' : T Blk} {w : World} (ha : HAbs E h w) (hab : ∀ i e, h'.get i = some (.abs e) → h.get i = some (.abs e)) (hl : ∀ i c, h'.get i = some c → ∃ c', h.get i = some c') : HAbs E h' w :=
  ⟨fun i e p hi => ha.ab i e p (hab _ _ hi), fun i e p j c q hi hp hj hq hne => by
    obtain ⟨c', hc'⟩ := hl j c hj
    exact ha.far i e p j c' q (hab _ _ hi) hp hc' hq hne, fun i e p j e' q hi hp hj => ha.apart i e p j e' q (hab _ _ hi) hp (hab _ _ hj)⟩

/-- The way of an append that grows, from what was there and what is new. -/
theorem grow_run {C : Ctx} (hC : C.Ok) {ts : Array TypeId} {A : AppT} (hA : evAppT C ts = some A) {E : Env} {h : T Blk} {nx : Nat} {w : World} (hr : HRel E h w) (hn : E.m nx = none) {ty : TypeId} {base : Option Addr} {len cap n : Nat} {vx : Value}
    (hl : (Builtin.lenOf vx).run C.P w = .ok n w) (hg : cap < len + n) (hcap : Builtin.nextslicecap (len + n) cap * A.ee.bytes ≤ 2 ^ 48) {old new : List SV} {ov nv : List Value} (hov : Rels (SV.rel E) old ov) (hnv : Rels (SV.rel E) new nv) (hol : old.length = len * A.ee.size) (hnl : new.length = n * A.ee.size)
    (ho : ∀ w2 : World, w2.heap = w.heap → (Builtin.firstCells A.ee.size len (.slice base len cap)).run C.P w2 = .ok ov.toArray w2) (hf : ∀ w2 : World, w2.heap = w.heap → (Builtin.firstCells A.ee.size n vx).run C.P w2 = .ok nv.toArray w2) :
    RunsV C.P E h nx w (Builtin.append_ ts ty #[.slice base len cap, vx]) (evGrow h nx A (len + n) (old ++ new)).1 (evGrow h nx A (len + n) (old ++ new)).2.1 (evGrow h nx A (len + n) (old ++ new)).2.2 := by
  obtain ⟨newCap, hc, hrun⟩ := append_grow hC hA (ty := ty) hl hg hcap ho hf
  obtain ⟨t0, t1, e0, e1, h0, h1, g0, g1, hu, hint, g2, hz, hsz0, hb, hzl⟩ := run_appT hC hA
  have hzv : A.ee.zero.cells.size = A.ee.size := by
    have := (AV.cells_rel (litAV_rel (E := E) hz)).length
    rw [Array.length_toList] at this
    omega
  obtain ⟨E', hgo, hrel⟩ := grow_row (C := C) (w := { w with drawn := w.drawn + 1 }) (hrel_heap hr rfl) hn A (hov.app hnv) (by rw [List.length_append, hol, hnl, Nat.add_mul]) hc (rest := Builtin.zeroCells A.ee.zero.cells (newCap - (len + n))) (by simp [Builtin.zeroCells, hzv]) (arr := ov.toArray ++ nv.toArray ++ Builtin.zeroCells A.ee.zero.cells (newCap - (len + n))) (by simp) rfl
  exact ⟨_, _, E', hrun, goes_drawn hr hgo, hrel⟩

theorem take_all {α : Type} {l : List α} {n : Nat} (h : l.length = n) : l.take n = l := List.take_of_length_le (by omega)

/-- A block of which no cell bears a mark, told as one of which some may. -/
theorem Goes.flag {E E' : Env} {h h1 : T Blk} {nx nx' : Nat} {w w' : World} {j : Nat} {t : TypeId} {o : Option Nat} {c : Cells} (fz : Bool) (g : Goes E h nx w E' (h1.set j (.cells t o c false)) nx' w') : Goes E h nx w E' (h1.set j (.cells t o c fz)) nx' w' := by
  have abs_of : ∀ i e, (h1.set j (.cells t o c fz)).get i = some (.abs e) → (h1.set j (.cells t o c false)).get i = some (.abs e) := fun i e hb => by
    rw [T.get_set] at hb ⊢
    by_cases e2 : i = j
    · rw [if_pos e2] at hb; cases hb
    · rw [if_neg e2] at hb ⊢; exact hb
  have some_of : ∀ i b, (h1.set j (.cells t o c fz)).get i = some b → ∃ b', (h1.set j (.cells t o c false)).get i = some b' := fun i b hb => by
    rw [T.get_set] at hb ⊢
    by_cases e : i = j
    · rw [if_pos e]; exact ⟨_, rfl⟩
    · rw [if_neg e] at hb ⊢; exact ⟨b, hb⟩
  exact {
    ext := g.ext
    out := g.out
    le := g.le
    frame := g.frame
    rel := ⟨fun i b hb => by
        rw [T.get_set] at hb
        by_cases e : i = j
        · subst e
          rw [if_pos rfl] at hb
          obtain rfl := Option.some.inj hb
          obtain ⟨p, ob, h2, h3, cs, lo, hi, rfl, hc⟩ := g.rel.at_ i (.cells t o c false) (by rw [T.get_set, if_pos rfl])
          exact ⟨p, _, h2, h3, cs, lo, hi, rfl, { hc with fz := fun _ => hc.fz rfl }⟩
        · rw [if_neg e] at hb
          exact g.rel.at_ i b (by rw [T.get_set, if_neg e]; exact hb),
      fun i k b d p q hb hd hp hq e => by
        obtain ⟨b', hb'⟩ := some_of i b hb
        obtain ⟨d', hd'⟩ := some_of k d hd
        exact g.rel.inj i k b' d' p q hb' hd' hp hq e, g.rel.abs.swap abs_of some_of⟩
    uown := fun i e p hi hp => g.uown i e p (abs_of i e hi) hp
    ids := fun i b hb => by
      obtain ⟨b', hb'⟩ := some_of i b hb
      exact g.ids i b' hb'
    own := fun i b p hb hp => by
      obtain ⟨b', hb'⟩ := some_of i b hb
      exact g.own i b' p hb' hp }
/-- A block of cells, told by other cells that read alike. -/
theorem Goes.alike {E E' : Env} {h h1 : T Blk} {nx nx' : Nat} {w w' : World} {j : Nat} {t : TypeId} {o : Option Nat} {c c' : Cells} {fz : Bool} (hn : c'.n = c.n) (hg : ∀ i, i < c.n → c'.get i = c.get i) (g : Goes E h nx w E' (h1.set j (.cells t o c fz)) nx' w') : Goes E h nx w E' (h1.set j (.cells t o c' fz)) nx' w' := by
  have abs_of : ∀ i e, (h1.set j (.cells t o c' fz)).get i = some (.abs e) → (h1.set j (.cells t o c fz)).get i = some (.abs e) := fun i e hb => by
    rw [T.get_set] at hb ⊢
    by_cases e2 : i = j
    · rw [if_pos e2] at hb; cases hb
    · rw [if_neg e2] at hb ⊢; exact hb
  have some_of : ∀ i b, (h1.set j (.cells t o c' fz)).get i = some b → ∃ b', (h1.set j (.cells t o c fz)).get i = some b' := fun i b hb => by
    rw [T.get_set] at hb ⊢
    by_cases e : i = j
    · rw [if_pos e]; exact ⟨_, rfl⟩
    · rw [if_neg e] at hb ⊢; exact ⟨b, hb⟩
  exact {
    ext := g.ext
    out := g.out
    le := g.le
    frame := g.frame
    rel := ⟨fun i b hb => by
        rw [T.get_set] at hb
        by_cases e : i = j
        · subst e
          rw [if_pos rfl] at hb
          obtain rfl := Option.some.inj hb
          obtain ⟨p, ob, h2, h3, cs, lo, hi, rfl, hc⟩ := g.rel.at_ i (.cells t o c fz) (by rw [T.get_set, if_pos rfl])
          exact ⟨p, _, h2, h3, cs, lo, hi, rfl, ⟨hc.fz, hc.free, hc.room, by rw [hn]; exact hc.fits, hc.dl, fun k hk => by
            rw [hn] at hk
            rw [hg k hk]
            exact hc.get k hk⟩⟩
        · rw [if_neg e] at hb
          exact g.rel.at_ i b (by rw [T.get_set, if_neg e]; exact hb),
      fun i k b d p q hb hd hp hq e => by
        obtain ⟨b', hb'⟩ := some_of i b hb
        obtain ⟨d', hd'⟩ := some_of k d hd
        exact g.rel.inj i k b' d' p q hb' hd' hp hq e, g.rel.abs.swap abs_of some_of⟩
    uown := fun i e p hi hp => g.uown i e p (abs_of i e hi) hp
    ids := fun i b hb => by
      obtain ⟨b', hb'⟩ := some_of i b hb
      exact g.ids i b' hb'
    own := fun i b p hb hp => by
      obtain ⟨b', hb'⟩ := some_of i b hb
      exact g.own i b' p hb' hp }
theorem evAppend_run {C : Ctx} (hC : C.Ok) {E : Env} {h : T Blk} {nx : Nat} {w : World} {ts : Array TypeId} {ty : TypeId} {s x : EV} {vs vx : Value} {r : Res} (he : evAppend C h nx ts s x = some r) (hs : s.rel E vs) (hx : x.rel E vx) :
    Runs C E h nx w (Builtin.append_ ts ty #[vs, vx]) r := by
  intro hr _ hf
  unfold evAppend at he
  replace he := Option.bind_eq_some_iff.1 he
  obtain ⟨A, hA, he⟩ := he
  replace he := Option.bind_eq_some_iff.1 he
  obtain ⟨⟨n, cs⟩, hq, he⟩ := he
  simp only at he
  obtain ⟨hl, hcl, hfc⟩ := evSrc_run (C := C) hq hr hx
  have hnew : ∃ nv : List Value, Rels (SV.rel E) cs nv ∧ ∀ w2 : World, w2.heap = w.heap → (Builtin.firstCells A.ee.size n vx).run C.P w2 = .ok nv.toArray w2 := by
    obtain ⟨nv, h1, h2⟩ := hfc n (Nat.le_refl _)
    rw [take_all hcl] at h1
    exact ⟨nv, h1, h2⟩
  clear hfc
  obtain ⟨nv, hnv, hnr⟩ := hnew
  split at he
  · obtain rfl := hs
    split at he
    · rename_i h0
      subst h0
      obtain rfl := Option.some.inj he
      have hcs0 : cs = [] := List.eq_nil_of_length_eq_zero (by rw [hcl, Nat.zero_mul])
      subst hcs0
      cases nv with
      | cons _ _ => exact hnv.elim
      | nil => exact ⟨_, w, E, append_room hC hA hl (Nat.le_refl _) (hnr w rfl) rfl, Goes.refl hr, rfl⟩
    · split at he
      · rename_i h0 hc
        obtain rfl := Option.some.inj he
        have := grow_run hC hA hr (fresh1 hf) (ty := ty) (base := none) (len := 0) (cap := 0) hl (by omega) (by simpa using hc) (old := []) (ov := []) trivial hnv (by simp) hcl (fun w2 _ => by simp [Builtin.firstCells]) hnr
        simpa using this
      · cases he
  · obtain ⟨a, rfl⟩ := hs
    split at he
    · rename_i h0
      subst h0
      obtain rfl := Option.some.inj he
      have hcs0 : cs = [] := List.eq_nil_of_length_eq_zero (by rw [hcl, Nat.zero_mul])
      subst hcs0
      cases nv with
      | cons _ _ => exact hnv.elim
      | nil => exact ⟨_, w, E, append_room hC hA (base := some a) (news := []) hl (Nat.le_refl _) (hnr w rfl) rfl, Goes.refl hr, a, rfl⟩
    · split at he
      · rename_i h0 hc
        obtain rfl := Option.some.inj he
        have := grow_run hC hA hr (fresh1 hf) (ty := ty) (base := some a) (len := 0) (cap := 0) hl (by omega) (by simpa using hc) (old := []) (ov := []) trivial hnv (by simp) hcl (fun w2 _ => by simp [Builtin.firstCells]; rfl) hnr
        simpa using this
      · cases he
  · split at he
    · rename_i h0
      subst h0
      obtain rfl := Option.some.inj he
      obtain ⟨a, c, rfl⟩ := SV.slz_form hs
      have hcs0 : cs = [] := List.eq_nil_of_length_eq_zero (by rw [hcl, Nat.zero_mul])
      subst hcs0
      cases nv with
      | cons _ _ => exact hnv.elim
      | nil => exact ⟨_, w, E, append_room hC hA (base := some a) (news := []) hl (by omega) (hnr w rfl) rfl, Goes.refl hr, by simpa using hs⟩
    · cases he
  · rename_i i o len c k
    obtain ⟨p, hp, hlc, rfl⟩ := hs
    split at he
    · rename_i t opn cl fz hb
      split at he
      · rename_i hroom
        split at he
        · rename_i hfit
          obtain rfl := Option.some.inj he
          obtain ⟨w', h1, h2⟩ := HRel.run_store (P := C.P) (nx := nx) hr hb hp (o + len * A.ee.size) hnv (by omega)
          refine ⟨_, w', E, append_room hC hA (base := some ⟨p.blk, p.dl + o, none⟩) hl hroom (hnr w rfl) ?_, h2, p, hp, hroom, rfl⟩
          simp only [add_eq]
          rw [Nat.add_assoc]
          exact h1
        · cases he
      · rename_i hroom
        split at he
        · rename_i hfit
          obtain rfl := Option.some.inj he
          obtain ⟨ov, h1, h2, h3⟩ := hr.read hb hp o (len * A.ee.size) hfit.1
          refine grow_run hC hA hr (fresh1 hf) (ty := ty) hl (by omega) hfit.2 h2 hnv (by rw [Cells.list_length]) hcl (fun w2 hw => ?_) hnr
          have h4 := run_loadCells_list (P := C.P) w2 ⟨p.blk, p.dl + o, none⟩ ov (fun j v hv => by
            rw [add_eq]
            have := h3 j v hv
            unfold World.cell? at this ⊢
            rw [hw]
            exact this)
          rw [h1] at h4
          exact h4
        · cases he
    · cases he
  · rename_i i o len k
    obtain ⟨p, hp, hlc, rfl⟩ := hs
    split at he
    · rename_i h0
      subst h0
      obtain rfl := Option.some.inj he
      have hcs0 : cs = [] := List.eq_nil_of_length_eq_zero (by rw [hcl, Nat.zero_mul])
      subst hcs0
      cases nv with
      | cons _ _ => exact hnv.elim
      | nil => exact ⟨_, w, E, append_room hC hA (base := some ⟨p.blk, p.dl + o, none⟩) (news := []) hl (by omega) (hnr w rfl) rfl, Goes.refl hr, p, hp, hlc, rfl⟩
    · rename_i h0
      split at he
      · rename_i t sz cl fz hb
        split at he
        · rename_i hc
          obtain ⟨rfl, rfl, ho, hfit, hcap, hine⟩ := hc
          obtain rfl := Option.some.inj he
          obtain ⟨ov, h1, h2, h3⟩ := hr.read hb hp o (len * A.ee.size) hfit
          have hold : ∀ w2 : World, w2.heap = w.heap → (Builtin.firstCells A.ee.size len (.slice (some ⟨p.blk, p.dl + o, none⟩) len (p.cap - k))).run C.P w2 = .ok ov.toArray w2 := fun w2 hw => by
            have h4 := run_loadCells_list (P := C.P) w2 ⟨p.blk, p.dl + o, none⟩ ov (fun j v hv => by
              rw [add_eq]
              have := h3 j v hv
              unfold World.cell? at this ⊢
              rw [hw]
              exact this)
            rw [h1] at h4
            exact h4
          have happn : (cl.app o (len * A.ee.size) cs).n = (Cells.ofList (cl.list o (len * A.ee.size) ++ cs)).n := by
            rw [Cells.app_n, Cells.ofList_n, List.length_append, Cells.list_length]
          have happg : ∀ i, i < (Cells.ofList (cl.list o (len * A.ee.size) ++ cs)).n → (cl.app o (len * A.ee.size) cs).get i = (Cells.ofList (cl.list o (len * A.ee.size) ++ cs)).get i := fun i hi => by
            rw [Cells.ofList_n, List.length_append, Cells.list_length] at hi
            exact Cells.app_get _ _ _ _ _ hi
          have happn2 : (cl.app o (len * A.ee.size) cs).n = (Cells.ofCells A.ee.size (cl.list o (len * A.ee.size) ++ cs)).n := by
            rw [happn, Cells.ofList_n, Cells.ofCells_n]
          have happg2 : ∀ i, i < (Cells.ofCells A.ee.size (cl.list o (len * A.ee.size) ++ cs)).n → (cl.app o (len * A.ee.size) cs).get i = (Cells.ofCells A.ee.size (cl.list o (len * A.ee.size) ++ cs)).get i := fun i hi => by
            rw [Cells.ofCells_n] at hi
            rw [happg i (by rw [Cells.ofList_n]; exact hi), Cells.get_ofList _ i _ (List.getElem?_eq_getElem hi), Cells.get_ofCells _ _ i _ (List.getElem?_eq_getElem hi)]
          by_cases hroom : len + n ≤ p.cap - k
          · obtain ⟨ob, hob, cs0, lo, hi, rfl, hcr⟩ := hr.blk hb hp
            have hsize := hcr.room _ rfl
            have hmul : (len + n) * A.ee.size ≤ (p.cap - k) * A.ee.size := Nat.mul_le_mul_right _ hroom
            have hmul2 : (p.cap - k) * A.ee.size + k * A.ee.size = p.cap * A.ee.size := by rw [← Nat.add_mul]; congr 1; omega
            have hmul3 : (len + n) * A.ee.size = len * A.ee.size + n * A.ee.size := Nat.add_mul _ _ _
            have hnl := hnv.length
            have hone : ∀ v ∈ nv, v.oneCell' = true := fun v hv => by
              obtain ⟨j, hj⟩ := List.getElem?_of_mem hv
              have hjl : j < cs.length := by
                have := (List.getElem?_eq_some_iff.1 hj).1
                omega
              obtain ⟨b, hb2, hrel⟩ := hnv.get j cs[j] (List.getElem?_eq_getElem hjl)
              rw [hj] at hb2
              obtain rfl := Option.some.inj hb2
              exact SV.oneCell hrel
            obtain ⟨w', cs', hrun, ht, hg, hs', hget⟩ := run_puts C.P p.blk (p.dl + o + len * A.ee.size) A.el lo hi nv 0 cs0 w hob (by omega) hcr.free hone
            have hrelL := h2.app hnv
            refine ⟨_, w', _, append_room hC hA (base := some ⟨p.blk, p.dl + o, none⟩) hl hroom (hnr w rfl) ?_, Goes.alike (c := Cells.ofList (cl.list o (len * A.ee.size) ++ cs)) happn happg (Goes.take hr (fresh1 hf) hb hp hine (p' := ⟨p.blk, p.dl + o, p.cap - k⟩) rfl ht hg ⟨cs', lo, hi, rfl, {
              fz := hcr.fz
              free := fun j hj => hcr.free j (by omega)
              room := fun sz hsz => by
                obtain rfl := Option.some.inj hsz
                rw [hs']
                show p.dl + o + (p.cap - k) * A.ee.size ≤ _
                omega
              fits := by
                rw [Cells.ofList_n, List.length_append, Cells.list_length, hcl, hs']
                show p.dl + o + _ ≤ _
                omega
              dl := fun h => by cases h
              get := fun j hj => by
                obtain ⟨_, h5⟩ := Cells.ofList_rel hrelL
                obtain ⟨v, hv, hrel⟩ := h5 j hj
                rw [Cells.ofList_n, List.length_append, Cells.list_length, hcl] at hj
                refine ⟨v, ?_, SV.ext (Env.ext_put (fresh1 hf)) hrel⟩
                show cs'[p.dl + o + j]? = some v
                rw [List.getElem?_toArray] at hv
                rw [hget]
                by_cases hjo : j < len * A.ee.size
                · rw [if_neg (by omega)]
                  rw [List.getElem?_append_left (by omega)] at hv
                  have h6 := h3 j v hv
                  simp only [World.cell?, hob] at h6
                  exact h6
                · rw [if_pos (by omega)]
                  rw [List.getElem?_append_right (by omega), h1] at hv
                  rw [show p.dl + o + j - (p.dl + o + len * A.ee.size + 0) = j - len * A.ee.size by omega]
                  exact hv }⟩), ⟨p.blk, p.dl + o, p.cap - k⟩, Env.put_at _ _ _, by show len + n + 0 ≤ p.cap - k; omega, rfl⟩
            simp only [add_eq]
            exact hrun
          · have hnc := nextcap_le (need := len + n) (old := p.cap - k) (by omega)
            have hcap2 : Builtin.nextslicecap (len + n) (p.cap - k) * A.ee.bytes ≤ 2 ^ 48 := Nat.le_trans (Nat.mul_le_mul_right _ hnc) hcap
            obtain ⟨v', w', E', e1, e2, e3⟩ := grow_run hC hA hr (fresh1 hf) (ty := ty) (base := some ⟨p.blk, p.dl + o, none⟩) hl (by omega) hcap2 h2 hnv (by rw [Cells.list_length]) hcl hold hnr
            refine ⟨v', w', E', e1, Goes.alike happn2 happg2 (Goes.flag fz ?_), e3⟩
            have e4 := e2.drop i
            have hcomm : ∀ j, (((h.del i).set nx (Blk.cells A.el (some A.ee.size) (Cells.ofCells A.ee.size (cl.list o (len * A.ee.size) ++ cs)) false))).get j = ((evGrow h nx A (len + n) (cl.list o (len * A.ee.size) ++ cs)).2.1.del i).get j := fun j => by
              simp only [evGrow, T.get_set, T.get_del]
              by_cases e : j = nx
              · rw [if_pos e, if_neg (by omega), if_pos e]
              · rw [if_neg e, if_neg e]
            exact { ext := e4.ext, out := e4.out, le := e4.le, frame := e4.frame, rel := ⟨fun j b hb => e4.rel.at_ j b (by rw [← hcomm]; exact hb), fun j k b c p q hb hc => e4.rel.inj j k b c p q (by rw [← hcomm]; exact hb) (by rw [← hcomm]; exact hc), e4.rel.abs.swap (fun j e hb => by rw [← hcomm]; exact hb) (fun j c hb => ⟨c, by rw [← hcomm]; exact hb⟩)⟩, uown := fun j e p hj => e4.uown j e p (by rw [← hcomm]; exact hj), ids := fun j b hb => e4.ids j b (by rw [← hcomm]; exact hb), own := fun j b p hb => e4.own j b p (by rw [← hcomm]; exact hb) }
        · cases he
      · cases he
  · cases he

end Go.Proofs.YtcnimekhpnejlaaGreat.Ev
