/- The evaluator: operations on numbers, texts, structs, slices. -/
import Derived.Test.YtoehfadjpficiaaGreatEv3
namespace Go.Proofs.YtoehfadjpficiaaGreat.Ev
open Go Go.RowKit
set_option linter.unusedVariables false
set_option linter.unusedSimpArgs false

/-! ### Two operands -/
/-- The model's own value of a small one. -/
def back : SV → Option Value
  | .bool b => some (.bool b)
  | .int k n => some (.int k n)
  | .str s => some (.string s)
  | _ => none
theorem back_eq {E : Env} {x : SV} {v u : Value} (h : back x = some v) (hx : x.rel E u) : u = v := by
  unfold back at h
  split at h <;> first | (obtain rfl := Option.some.inj h; exact hx) | cases h

def isEql : BinOp → Option Bool
  | .eql => some true
  | .neq => some false
  | _ => none
/-- Small operands: the model's own operator. -/
def evBinS (op : BinOp) (t : TypeId) (x y : SV) : Option EV :=
  (back x).bind fun a => (back y).bind fun b => (pureOf (binOp op t a b)).bind fun v => (litSV v).map fun z => .a (.s z)
def plain : SV → Bool
  | .int _ _ | .str _ | .var _ | .nili => false
  | _ => true
/-- A comparison, read from the other side. -/
def flipOp : BinOp → Option BinOp
  | .eql => some .eql
  | .neq => some .neq
  | .lss => some .gtr
  | .leq => some .geq
  | .gtr => some .lss
  | .geq => some .leq
  | _ => none
theorem flip_run {P : Program} {op op' : BinOp} (ho : flipOp op = some op') (t : TypeId) {k : IntKind} {x c : Int} {b : Bool} {w : World} (h : (binOp op' t (.int k x) (.int k c)).run P w = .ok (.bool b) w) : (binOp op t (.int k c) (.int k x)).run P w = .ok (.bool b) w := by
  cases op <;> simp only [flipOp, Option.some.injEq, reduceCtorEq] at ho <;> subst ho <;> simp [binOp, go_sem] at h ⊢ <;> rw [← h]
  · exact Bool.beq_comm
  · show (!(c == x)) = !(x == c)
    rw [Bool.beq_comm]
def evBin (C : Ctx) (h : T Blk) (op : BinOp) (t : TypeId) : EV → EV → Option EV
  | .a (.s (.var i)), .a (.s (.int k c)) =>
    match C.fact op i k c with
    | some b => some (.a (.s (.bool b)))
    | none => (C.der op i k c).map fun y => .a (.s y)
  | .a (.s (.var i)), .a (.s (.var j)) => if i = j then (C.num i).bind fun k => (isEql op).map fun q => .a (.s (.bool q)) else none
  | .a (.s (.int k c)), .a (.s (.var i)) => if C.num i = some k then (flipOp op).bind fun op' => (C.fact op' i k c).map fun b => .a (.s (.bool b)) else none
  | .a (.s x), .a (.s y) =>
    match evBinS op t x y with
    | some r => some r
    | none => if plain x = true then (isEql op).bind fun q => (evEq C h 2 t (.s x) (.s y)).map fun b => .a (.s (.bool (b == q))) else none
  | .a (.agg xs), .a (.agg ys) => (C.tab t).bind fun e => if e.eqg = true then none else (isEql op).bind fun q => (evEq C h 9 t (.agg xs) (.agg ys)).map fun b => .a (.s (.bool (b == q)))
  | _, _ => none

theorem eqGuard_scalar {P : Program} (op : BinOp) (t : TypeId) (x y : Operand) {a b : Value} (ha : a.oneCell' = true) (hn : ¬ (a = .nilIface ∧ b = .nilIface)) (w : World) : (eqGuard op t x y a b).run P w = .ok () w := by
  unfold eqGuard
  cases op <;> (try rfl)
  all_goals
    simp only [Bool.not_true, Bool.false_eq_true, if_false]
    cases a <;> cases b <;> first | rfl | (exact absurd ⟨rfl, rfl⟩ hn) | (simp [Value.oneCell'] at ha)

/-- How == and != are asked where no operand is a number, a text or a float. -/
def eqForm (a b : Value) : Bool :=
  match a, b with
  | .int _ _, .int _ _ | .float _ _, .float _ _ | .complex _ _ _, .complex _ _ _ | .string _, .string _ => false
  | _, _ => true
theorem binOp_eql (t : TypeId) {a b : Value} (h : eqForm a b = true) : binOp .eql t a b = (do pure (.bool (← Op.equal t a b)) : Sem Value) := by
  cases a <;> cases b <;> first | rfl | (simp [eqForm] at h)
theorem binOp_neq (t : TypeId) {a b : Value} (h : eqForm a b = true) : binOp .neq t a b = (do pure (.bool (!(← Op.equal t a b))) : Sem Value) := by
  cases a <;> cases b <;> first | rfl | (simp [eqForm] at h)
theorem run_eq {P : Program} {op : BinOp} {q : Bool} (hq : isEql op = some q) {t : TypeId} {a b : Value} (hf : eqForm a b = true) {r : Bool} {w : World} (h : (Op.equalIn 10000 t a b).run P w = .ok r w) :
    (binOp op t a b).run P w = .ok (.bool (r == q)) w := by
  cases op <;> first
    | (cases hq; done)
    | (obtain rfl := Option.some.inj hq
       rw [binOp_eql t hf]
       simp [Op.equal, Op.maxDepth, h])
    | (obtain rfl := Option.some.inj hq
       rw [binOp_neq t hf]
       simp [Op.equal, Op.maxDepth, h])
theorem plain_form {E : Env} {x : SV} {v : Value} (h : plain x = true) (hx : x.rel E v) : (∀ u, eqForm v u = true) ∧ v ≠ .nilIface := by
  cases x with
  | bool b => obtain rfl := hx; exact ⟨fun u => by cases u <;> rfl, by intro e; cases e⟩
  | int k n => cases h
  | str s => cases h
  | var i => cases h
  | nili => cases h
  | nilp => obtain rfl := hx; exact ⟨fun u => by cases u <;> rfl, by intro e; cases e⟩
  | ptr i o => obtain ⟨p, _, rfl⟩ := hx; exact ⟨fun u => by cases u <;> rfl, by intro e; cases e⟩
  | nils => obtain rfl := hx; exact ⟨fun u => by cases u <;> rfl, by intro e; cases e⟩
  | sl i o l c k => obtain ⟨p, c, _, _, rfl⟩ := SV.sl_form hx; exact ⟨fun u => by cases u <;> rfl, by intro e; cases e⟩
  | slz c => obtain ⟨p, c, rfl⟩ := SV.slz_form hx; exact ⟨fun u => by cases u <;> rfl, by intro e; cases e⟩
  | nilm => obtain rfl := hx; exact ⟨fun u => by cases u <;> rfl, by intro e; cases e⟩
  | map i => obtain ⟨p, _, rfl⟩ := hx; exact ⟨fun u => by cases u <;> rfl, by intro e; cases e⟩
  | func f cs => obtain ⟨p, rfl, _⟩ := hx; exact ⟨fun u => by cases u <;> rfl, by intro e; cases e⟩
  | nilf => obtain rfl := hx; exact ⟨fun u => by cases u <;> rfl, by intro e; cases e⟩

/-- The computation s reads only, and ends in what r stands for. -/
def Reads (C : Ctx) (E : Env) (w : World) (s : Sem Value) (r : EV) : Prop := ∃ v, s.run C.P w = .ok v w ∧ r.rel E v

theorem evBin_run {C : Ctx} (hC : C.Ok) {E : Env} (hρ : E.ρ = C.ρ) {h : T Blk} {w : World} {op : BinOp} {t : TypeId} {x y r : EV} {v u : Value} (X Y : Operand) (he : evBin C h op t x y = some r) (hx : x.rel E v) (hy : y.rel E u) :
    Reads C E w (do eqGuard op t X Y v u; binOp op t v u) r := by
  unfold evBin at he
  split at he
  · rename_i i k c
    obtain ⟨rfl, h1⟩ := hx
    obtain rfl := hy
    rw [hρ] at h1 ⊢
    split at he
    · rename_i b hb
      obtain rfl := Option.some.inj he
      refine ⟨.bool b, ?_, rfl⟩
      rw [Sem.run_bind, eqGuard_scalar op t X Y h1 (by rintro ⟨_, e⟩; cases e) w, Result.andThen_ok]
      exact hC.fact op i k c b hb t w
    · obtain ⟨y, hy, rfl⟩ := Option.map_eq_some_iff.1 he
      obtain ⟨u, hu, hr⟩ := hC.der op i k c y hy t w
      refine ⟨u, ?_, hr E hρ⟩
      rw [Sem.run_bind, eqGuard_scalar op t X Y h1 (by rintro ⟨_, e⟩; cases e) w, Result.andThen_ok]
      exact hu
  · rename_i i j
    split at he
    · rename_i hij
      subst hij
      obtain ⟨k, hk, he⟩ := Option.bind_eq_some_iff.1 he
      obtain ⟨q, hq, rfl⟩ := Option.map_eq_some_iff.1 he
      obtain ⟨n, hn⟩ := hC.num _ _ hk
      obtain ⟨rfl, h1⟩ := hx
      obtain ⟨rfl, _⟩ := hy
      rw [hρ, hn] at h1 ⊢
      refine ⟨.bool q, ?_, rfl⟩
      rw [Sem.run_bind, eqGuard_scalar op t X Y h1 (by rintro ⟨_, e⟩; cases e) w, Result.andThen_ok]
      cases op <;> simp only [isEql, Option.some.injEq, reduceCtorEq] at hq <;> subst hq <;> simp [binOp, go_sem]
    · cases he
  · rename_i k c i
    split at he
    · rename_i hn
      obtain ⟨op', ho, he⟩ := Option.bind_eq_some_iff.1 he
      obtain ⟨b, hb, rfl⟩ := Option.map_eq_some_iff.1 he
      obtain ⟨n, hn⟩ := hC.num _ _ hn
      obtain ⟨rfl, _⟩ := hy
      obtain rfl := hx
      have hf := hC.fact op' i k c b hb t w
      rw [hρ]
      rw [hn] at hf ⊢
      refine ⟨.bool b, ?_, rfl⟩
      rw [Sem.run_bind, eqGuard_scalar op t X Y rfl (by rintro ⟨e, _⟩; cases e) w, Result.andThen_ok]
      exact flip_run ho t hf
    · cases he
  · rename_i x y _ _ _
    have h1 := SV.oneCell hx
    split at he
    · rename_i r' hs
      obtain rfl := Option.some.inj he
      obtain ⟨a, ha, hs⟩ := Option.bind_eq_some_iff.1 hs
      obtain ⟨b, hb, hs⟩ := Option.bind_eq_some_iff.1 hs
      obtain ⟨z, hz, hs⟩ := Option.bind_eq_some_iff.1 hs
      obtain ⟨q, hq, rfl⟩ := Option.map_eq_some_iff.1 hs
      obtain rfl := back_eq ha hx
      obtain rfl := back_eq hb hy
      refine ⟨z, ?_, litSV_rel hq⟩
      rw [Sem.run_bind, eqGuard_scalar op t X Y h1 (by rintro ⟨rfl, _⟩; cases x <;> first | (cases ha; done) | (simp [back] at ha)) w, Result.andThen_ok]
      exact pureOf_run hz C.P w
    · split at he
      · rename_i hp
        obtain ⟨q, hq, he⟩ := Option.bind_eq_some_iff.1 he
        obtain ⟨b, hb, rfl⟩ := Option.map_eq_some_iff.1 he
        obtain ⟨hf, hn⟩ := plain_form hp hx
        refine ⟨.bool (b == q), ?_, rfl⟩
        rw [Sem.run_bind, eqGuard_scalar op t X Y h1 (fun e => hn e.1) w, Result.andThen_ok]
        exact run_eq hq (hf u) (evEq_run hC hρ 2 10000 (by omega) t _ _ b v u hb hx hy w)
      · cases he
  · rename_i xs ys
    obtain ⟨e, h1, he⟩ := Option.bind_eq_some_iff.1 he
    split at he
    · cases he
    · rename_i hg
      obtain ⟨q, hq, he⟩ := Option.bind_eq_some_iff.1 he
      obtain ⟨b, hb, rfl⟩ := Option.map_eq_some_iff.1 he
      have h2 := evEq_run hC hρ 9 10000 (by omega) t _ _ b v u hb hx hy w
      obtain ⟨vs, rfl, _⟩ := hx
      obtain ⟨us, rfl, _⟩ := hy
      refine ⟨.bool (b == q), ?_, rfl⟩
      have hgd : C.P.eqGuardType C.P.depth t = false := by rw [(hC.tab t e h1).eqg]; simpa using hg
      rw [Sem.run_bind, run_eqGuard_agg w op t X Y _ _ hgd, Result.andThen_ok]
      exact run_eq hq rfl h2
  · cases he

def evUn (op : UnOp) : EV → Option EV
  | .a (.s x) => (back x).bind fun a => (pureOf (Op.unary op a)).bind fun v => (litSV v).map fun z => .a (.s z)
  | _ => none
theorem evUn_run {C : Ctx} {E : Env} {w : World} {op : UnOp} {x r : EV} {v : Value} (he : evUn op x = some r) (hx : x.rel E v) : Reads C E w (Op.unary op v) r := by
  unfold evUn at he
  split at he
  · obtain ⟨a, ha, hs⟩ := Option.bind_eq_some_iff.1 he
    obtain ⟨z, hz, hs⟩ := Option.bind_eq_some_iff.1 hs
    obtain ⟨q, hq, rfl⟩ := Option.map_eq_some_iff.1 hs
    obtain rfl := back_eq ha hx
    exact ⟨z, pureOf_run hz C.P w, litSV_rel hq⟩
  · cases he

def evConvInt (C : Ctx) (src dst : TypeId) : EV → Option EV
  | .a (.s (.int k n)) => (C.tab src).bind fun _ => (C.tab dst).bind fun e =>
    match e.und with
    | .int q => some (.a (.s (.int q (q.wrap n))))
    | _ => none
  | _ => none
theorem evConvInt_run {C : Ctx} (hC : C.Ok) {E : Env} {w : World} {src dst : TypeId} {x r : EV} {v : Value} (he : evConvInt C src dst x = some r) (hx : x.rel E v) : Reads C E w (convert src dst v) r := by
  unfold evConvInt at he
  split at he
  · rename_i k n
    obtain ⟨e1, h1, he⟩ := Option.bind_eq_some_iff.1 he
    obtain ⟨e, h2, he⟩ := Option.bind_eq_some_iff.1 he
    split at he
    · rename_i q hu
      obtain rfl := Option.some.inj he
      obtain rfl := hx
      have hr1 := (hC.tab _ _ h1).run_und w
      have hr2 := (hC.tab _ _ h2).run_und w
      rw [hu] at hr2
      exact ⟨_, by simp only [convert, Sem.run_bind, hr1, hr2, Result.andThen_ok]; rfl, rfl⟩
    · cases he
  · cases he

/-! ### Parts of values -/
def evIndex (C : Ctx) (t : TypeId) : EV → EV → Option EV
  | .a (.agg cs), .a (.s (.int k j)) => (C.tab t).bind fun e =>
    match e.und with
    | .array n el => (C.tab el).bind fun ee => if 0 ≤ j ∧ j < n then (evPart ee cs (j.toNat * ee.size)).map .a else none
    | _ => none
  | .a (.s (.str s)), .a (.s (.int k j)) => (C.tab t).bind fun e =>
    match e.und with
    | .string => if 0 ≤ j then (s[j.toNat]?).map fun b => .a (.s (.int .u8 b.toNat)) else none
    | _ => none
  | _, _ => none
theorem evIndex_run {C : Ctx} (hC : C.Ok) {E : Env} {w : World} {t : TypeId} {x y r : EV} {v u : Value} (he : evIndex C t x y = some r) (hx : x.rel E v) (hy : y.rel E u) : Reads C E w (Instr.index t v u) r := by
  unfold evIndex at he
  split at he
  · rename_i cs k j
    obtain ⟨e, h1, he⟩ := Option.bind_eq_some_iff.1 he
    split at he
    · rename_i n el hu
      obtain ⟨ee, h2, he⟩ := Option.bind_eq_some_iff.1 he
      split at he
      · rename_i hj
        obtain ⟨a, ha, rfl⟩ := Option.map_eq_some_iff.1 he
        obtain ⟨vs, rfl, hvs⟩ := hx
        obtain rfl := hy
        have hru := (hC.tab t e h1).run_und w
        rw [hu] at hru
        obtain ⟨z, hz, hrel⟩ := run_part (hC.tab _ _ h2) hvs ha w
        exact ⟨z, by simp [Instr.index, asIntOf, hru, hj, (hC.tab _ _ h2).run_size w, hz], hrel⟩
      · cases he
    · cases he
  · rename_i s k j
    obtain ⟨e, h1, he⟩ := Option.bind_eq_some_iff.1 he
    split at he
    · rename_i hu
      split at he
      · rename_i hj
        obtain ⟨b, hb, rfl⟩ := Option.map_eq_some_iff.1 he
        obtain rfl := hx
        obtain rfl := hy
        have hru := (hC.tab t e h1).run_und w
        rw [hu] at hru
        exact ⟨.int .u8 b.toNat, by simp [Instr.index, asIntOf, hru, hj, hb], rfl⟩
      · cases he
    · cases he
  · cases he

def evField (C : Ctx) (t : TypeId) (f : Nat) : EV → Option EV
  | .a (.agg cs) => (C.tab t).bind fun e =>
    match e.und with
    | .struct fs => (fs[f]?).bind fun fd => (C.tab fd.type).bind fun ef => (evPart ef cs fd.offset).map .a
    | _ => none
  | _ => none
theorem evField_run {C : Ctx} (hC : C.Ok) {E : Env} {w : World} {t : TypeId} {f : Nat} {x r : EV} {v : Value} (he : evField C t f x = some r) (hx : x.rel E v) : Reads C E w (Instr.field t v f) r := by
  unfold evField at he
  split at he
  · obtain ⟨e, h1, he⟩ := Option.bind_eq_some_iff.1 he
    split at he
    · rename_i fs hu
      obtain ⟨fd, h2, he⟩ := Option.bind_eq_some_iff.1 he
      obtain ⟨ef, h3, he⟩ := Option.bind_eq_some_iff.1 he
      obtain ⟨a, ha, rfl⟩ := Option.map_eq_some_iff.1 he
      obtain ⟨vs, rfl, hvs⟩ := hx
      have hru := (hC.tab t e h1).run_und w
      rw [hu] at hru
      obtain ⟨z, hz, hrel⟩ := run_part (hC.tab _ _ h3) hvs ha w
      exact ⟨z, by simp [Instr.field, hru, h2, asAgg, hz], hrel⟩
    · cases he
  · cases he

def evExtract (i : Nat) : EV → Option EV
  | .tup l => (l[i]?).map .a
  | _ => none
theorem evExtract_run {C : Ctx} {E : Env} {w : World} {i : Nat} {x r : EV} {v : Value} (he : evExtract i x = some r) (hx : x.rel E v) : Reads C E w (Instr.extract v i) r := by
  unfold evExtract at he
  split at he
  · obtain ⟨a, ha, rfl⟩ := Option.map_eq_some_iff.1 he
    obtain ⟨vs, rfl, hvs⟩ := hx
    obtain ⟨z, hz, hrel⟩ := hvs.get i a ha
    exact ⟨z, by simp [Instr.extract, hz], hrel⟩
  · cases he

end Go.Proofs.YtoehfadjpficiaaGreat.Ev
