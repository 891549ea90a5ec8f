/- Texts of this seat joined into one: G2, G3T, Lp. -/
import Derived.Test.YtcnimekhpnejlaaGreatVFileBack7

/- Grown trees: contracts of Leaf and Set. -/
namespace Go.Proofs.YtcnimekhpnejlaaGreat.Ev
open Go Go.RowKit
set_option linter.unusedVariables false
set_option linter.unusedSimpArgs false
set_option maxRecDepth 10000

theorem li_int {ρ : Rho} {n : Int} : X.int ρ (.li n) = n := rfl
theorem tup2 {E : Env} {a b : AV} {v va vb : Value} (h : (EV.tup [a, b]).rel E v) (ha : ∀ x, a.rel E x → x = va) (hb : ∀ x, b.rel E x → x = vb) : v = .tuple #[va, vb] := by
  obtain ⟨vs, rfl, hr⟩ := h
  match vs, hr with
  | [x, y], hr => rw [ha x hr.1, hb y hr.2.1]
theorem blk0_v {E : Env} : ∀ x, (AV.agg blk0).rel E x → x = elBlk.val (zeros 256) := fun _ h => blk0_inv h
theorem int_v {E : Env} {k : IntKind} {n : Int} : ∀ x, (AV.s (.int k n)).rel E x → x = .int k n := fun _ h => h

theorem grow_one {gb sm : Nat} {ρ : Rho} {ht lim : SV} {w : World} (hr : HRel (envL [gb, sm] ρ) (growM ht lim) w) : (ρ.o 0).oneCell' = true := by
  obtain ⟨p, o, hp, ho, cs, lo, hi, rfl, hcr⟩ := hr.at_ 0 _ rfl
  obtain ⟨v, _, hv⟩ := hcr.get 0 (by rw [Cells.ofList_n]; show 0 < (3 + 32 + 3); omega)
  rw [Cells.get_ofList _ 0 (.op 0) rfl] at hv
  have h1 : v = ρ.o 0 := hv.1
  rw [← h1]
  exact hv.2
/-- A grown tree that is as it was. -/
theorem grow_same {w : World} {gb sm n : Nat} {lf : Nat → List UInt8} (h : IsGrow Tryz.prog w gb sm n lf) {c : Value} {lim : Int} {f : Int → Option (List UInt8)} (hlim : lim = 0 ∨ lim = 1) (hf : Leaves f n lf) {l : List D} {g nx : Nat} {vs : List Value} {r : EV} {Q : Value → D → Prop}
    (hr : HRel (envL [gb, sm] (rhoV (ofL (.st (.leaves f) :: .i (heightN n) :: .i lim :: l)) fun _ => c)) (growM (.xi .i64 (.va 1)) (.xi .i64 (.va 2))) w)
    (hc : Came Tryz.prog g (.pointer (some ⟨gb, 0, none⟩) :: vs).toArray (envL [gb, sm] (rhoV (ofL (.st (.leaves f) :: .i (heightN n) :: .i lim :: l)) fun _ => c)) (growM (.xi .i64 (.va 1)) (.xi .i64 (.va 2))) nx w [0, 1] (r, [some (.cells 159 (growL (.xi .i64 (.va 1)) (.xi .i64 (.va 2)) 1)), some (.opq (.va 0) [])]))
    (hQ : ∀ (E : Env) v, E.ρ = rhoV (ofL (.st (.leaves f) :: .i (heightN n) :: .i lim :: l)) (fun _ => c) → r.rel E v → Q v (.st (.grow n lf))) : Acts Tryz.prog g gb vs w Q := by
  refine Calls.mono hc fun en w' ⟨v, E', h', nx', he, hg, hv, hview⟩ => ?_
  have v0 := (List.cons.inj hview).1.symm
  have v1 := (List.cons.inj (List.cons.inj hview).2).1.symm
  have hone : c.oneCell' = true := grow_one hr
  have hρ : E'.ρ = _ := hg.ext.ρ
  obtain ⟨h1, h2, h3⟩ := grow_close h rfl hg v0 v1 rfl rfl (n' := n) (lim2 := lim) (by rw [SV.den, hρ]; rfl) (by rw [SV.den, hρ]; rfl) hlim hone (f' := f) rfl hf
  exact ⟨v, _, he, hQ E' v hρ hv, h1, h2, h3⟩

theorem grow_leaf {w : World} {gb sm n : Nat} {lf : Nat → List UInt8} (h : IsGrow Tryz.prog w gb sm n lf) {p : Int} (hp : i64 p) : Acts Tryz.prog 59 gb [.int .i64 p] w fun u d => d = .st (.grow n lf) ∧
    (0 ≤ p ∧ p < (4 ^ heightN n : Nat) ∧ u = .tuple #[elBlk.val (lf p.toNat), .int .i64 0] ∨ ¬ (0 ≤ p ∧ p < (4 ^ heightN n : Nat)) ∧ u = .tuple #[elBlk.val (zeros 256), .int .i64 90]) := by
  obtain ⟨c, lim, f, hlim, hf, hne, hopen⟩ := grow_open h
  have hr := hopen [.i p]
  obtain ⟨x, hx, ht, hc⟩ := ways_calls (rules_ok (base_ok _ _)) (fun _ _ => noSum_ok) (leaf_ev _) hr rfl (envL_fresh _ _) (vs := [.pointer (some ⟨gb, 0, none⟩), .int .i64 p]) ⟨⟨⟨gb, 0, 0⟩, envL_at rfl, rfl⟩, rfl, trivial⟩
  have hroom := room_int (ρ := rhoV (ofL [.st (.leaves f), .i (heightN n), .i lim, .i p]) fun _ => c) (i := 1) rfl (heightN_le n)
  have hmul := mul_int (ρ := rhoV (ofL [.st (.leaves f), .i (heightN n), .i lim, .i p]) fun _ => c) (i := 1) rfl (heightN_le n)
  have h0 : X.int (rhoV (ofL [.st (.leaves f), .i (heightN n), .i lim, .i p]) fun _ => c) (.va 3) = p := rfl
  have hl : X.int (rhoV (ofL [.st (.leaves f), .i (heightN n), .i lim, .i p]) fun _ => c) (.va 2) = lim := rfl
  have h902 : X.bool (rhoV (ofL [.st (.leaves f), .i (heightN n), .i lim, .i p]) fun _ => c) (.app 902 (.va 3)) = true := decide_eq_true hp
  have hf' : ∀ a, f p = some a → 0 ≤ p → a = lf p.toNat := fun a ha h1 => by
    have h2 := hf.key p a ha
    have h3 := hf.at_ p.toNat (by omega)
    rw [Int.toNat_of_nonneg h1, ha] at h3
    exact h3
  have hnone : f p = none → 0 ≤ p → lf p.toNat = zeros 256 := fun ha h1 => by
    rcases Nat.lt_or_ge p.toNat n with h2 | h2
    · have h3 := hf.at_ p.toNat h2
      rw [Int.toNat_of_nonneg h1, ha] at h3
      exact h3.symm
    · exact hf.past _ h2
  have h900 : X.bool (rhoV (ofL [.st (.leaves f), .i (heightN n), .i lim, .i p]) fun _ => c) (.app 900 (.cons (.va 0) (.va 3))) = (f p).isSome := rfl
  simp only [leafL, List.mem_cons, List.not_mem_nil, or_false] at hx
  rcases hx with rfl | rfl | rfl | rfl | rfl | rfl | rfl | rfl | rfl <;> simp only [told_cons, told_nil, lt_true, lt_false, hroom, hmul, h0, hl, h902, h900, li_int, and_true] at ht
  · refine grow_same h hlim hf hr (hc _ rfl) fun E v _ hv => ⟨rfl, .inr ⟨by omega, tup2 hv blk0_v int_v⟩⟩
  · omega
  · obtain ⟨a, ha⟩ := Option.isSome_iff_exists.1 ht.1
    refine grow_same h hlim hf hr (hc _ rfl) fun E v hE hv => ⟨rfl, .inl ⟨by omega, by omega, tup2 hv (fun x hx => ?_) int_v⟩⟩
    rw [blkX_inv hx, ← hf' a ha (by omega)]
    have h5 : X.str E.ρ (.app 20 (.cons (.va 0) (.va 3))) = ⟨((f p).getD (zeros 256)).toArray⟩ := by
      rw [hE]
      rfl
    rw [h5, ha]
    have hlen : a.length = 256 := by
      rw [hf' a ha (by omega)]
      exact hf.len _
    exact congrArg elBlk.val (pad_of hlen)
  · have : (4 ^ heightN n : Nat) ≤ 4 ^ 6 := Nat.pow_le_pow_right (by omega) (heightN_le n)
    omega
  · have hs : p = 0 → X.int (rhoV (ofL [.st (.leaves f), .i (heightN n), .i lim, .i p]) fun _ => c) (.bin .sub .i64 (.li 1) (.va 3)) = 1 := fun e => by
      subst e
      show IntKind.i64.wrap (1 - 0) = 1
      decide
    have := hs (by omega)
    omega
  · refine grow_same h hlim hf hr (hc _ rfl) fun E v hE hv => ⟨rfl, .inl ⟨by omega, by omega, ?_⟩⟩
    rw [hnone (by simpa using ht.2.2.2.1) (by omega)]
    exact tup2 hv blk0_v int_v
  · refine grow_same h hlim hf hr (hc _ rfl) fun E v hE hv => ⟨rfl, .inl ⟨by omega, by omega, ?_⟩⟩
    rw [hnone (by simpa using ht.2.1) (by omega)]
    exact tup2 hv blk0_v int_v
  · cases ht.1
  · refine grow_same h hlim hf hr (hc _ rfl) fun E v _ hv => ⟨rfl, .inr ⟨by omega, tup2 hv blk0_v int_v⟩⟩

theorem Leaves.set {f : Int → Option (List UInt8)} {n : Nat} {lf : Nat → List UInt8} (h : Leaves f n lf) {p : Nat} (hp : p < n) {b : List UInt8} (hb : b.length = 256) : Leaves (upd f p b) n (fun q => if q = p then b else lf q) where
  at_ := fun q hq => by
    by_cases e : q = p
    · rw [if_pos e, e, upd_at]
      rfl
    · rw [if_neg e, upd_ne f b (by omega)]
      exact h.at_ q hq
  past := fun q hq => by
    rw [if_neg (by omega)]
    exact h.past q hq
  key := fun i a ha => by
    by_cases e : i = (p : Int)
    · omega
    · rw [upd_ne f b e] at ha
      exact h.key i a ha
  n := h.n
  len := fun q => by
    split
    · exact hb
    · exact h.len q
/-- A leaf is laid, of a place less than the leaves' number. -/
theorem grow_set {w : World} {gb sm n : Nat} {lf : Nat → List UInt8} (h : IsGrow Tryz.prog w gb sm n lf) {p : Nat} (hp : p < n) {b : List UInt8} (hb : b.length = 256) : Acts Tryz.prog 60 gb [.int .i64 p, elBlk.val b] w fun u d => d = .st (.grow n (fun q => if q = p then b else lf q)) ∧ u = .int .i64 0 := by
  obtain ⟨c, lim, f, hlim, hf, hne, hopen⟩ := grow_open h
  have hn := hf.n
  have hr := hopen [.i p, .s ⟨b.toArray⟩]
  have hblk : (AV.agg (blkX (.va 4))).rel (envL [gb, sm] (rhoV (ofL [.st (.leaves f), .i (heightN n), .i lim, .i p, .s ⟨b.toArray⟩]) fun _ => c)) (elBlk.val b) := by
    have h1 := blkX_rel (E := envL [gb, sm] (rhoV (ofL [.st (.leaves f), .i (heightN n), .i lim, .i p, .s ⟨b.toArray⟩]) fun _ => c)) (.va 4)
    have h2 : pad (X.str (envL [gb, sm] (rhoV (ofL [.st (.leaves f), .i (heightN n), .i lim, .i p, .s ⟨b.toArray⟩]) fun _ => c)).ρ (.va 4)) = b := pad_of hb
    rw [h2] at h1
    exact h1
  obtain ⟨x, hx, ht, hc⟩ := ways_calls (rules_ok (base_ok _ _)) (fun _ _ => noSum_ok) (set_ev _) hr rfl (envL_fresh _ _) (vs := [.pointer (some ⟨gb, 0, none⟩), .int .i64 p, elBlk.val b]) ⟨⟨⟨gb, 0, 0⟩, envL_at rfl, rfl⟩, rfl, hblk, trivial⟩
  have hroom := room_int (ρ := rhoV (ofL [.st (.leaves f), .i (heightN n), .i lim, .i p, .s ⟨b.toArray⟩]) fun _ => c) (i := 1) rfl (heightN_le n)
  have hmul := mul_int (ρ := rhoV (ofL [.st (.leaves f), .i (heightN n), .i lim, .i p, .s ⟨b.toArray⟩]) fun _ => c) (i := 1) rfl (heightN_le n)
  have h0 : X.int (rhoV (ofL [.st (.leaves f), .i (heightN n), .i lim, .i p, .s ⟨b.toArray⟩]) fun _ => c) (.va 3) = p := rfl
  have hle := heightN_room hn
  simp only [setL, List.mem_cons, List.not_mem_nil, or_false] at hx
  rcases hx with rfl | rfl | rfl | rfl | rfl <;> simp only [told_cons, told_nil, lt_true, lt_false, hroom, hmul, h0, li_int, and_true] at ht
  · omega
  · omega
  · refine Calls.mono (hc _ rfl) fun en w' ⟨v, E', h', nx', he, hg, hv, hview⟩ => ?_
    have v0 := (List.cons.inj hview).1.symm
    have v1 := (List.cons.inj (List.cons.inj hview).2).1.symm
    have hρ : E'.ρ = _ := hg.ext.ρ
    obtain ⟨h1, h2, h3⟩ := grow_close h rfl hg v0 v1 rfl rfl (n' := n) (lim2 := lim) (by rw [SV.den, hρ]; rfl) (by rw [SV.den, hρ]; rfl) hlim (grow_one hr) (f' := upd f p (pad ⟨b.toArray⟩)) rfl (lf' := fun q => if q = p then b else lf q) (by rw [pad_of hb]; exact Leaves.set hf hp hb)
    exact ⟨v, _, he, ⟨rfl, hv⟩, h1, h2, h3⟩
  · omega
  · omega
end Go.Proofs.YtcnimekhpnejlaaGreat.Ev

/- What calls come to, on all their ways (written by wip/tools/tabs.py). -/
namespace Go.Proofs.YtcnimekhpnejlaaGreat.Ev
open Go
def fitT : PT := (.node (.lt (.va 3) (.li 0)) .leaf (.node (.lt (.li 4096) (.va 3)) .leaf (.node (.lt (.li 1) (.va 3)) (.node (.lt (.li 4) (.va 3)) (.node (.lt (.li 16) (.va 3)) (.node (.lt (.li 64) (.va 3)) (.node (.lt (.li 256) (.va 3)) (.node (.lt (.li 1024) (.va 3)) .leaf .leaf) .leaf) .leaf) .leaf) .leaf) .leaf)))
def fitL : List (List (X × Bool) × Option (EV × List (Option BV))) := [
  ([((.lt (.va 3) (.li 0)), true)], some ((.a (.s (.int .i64 1))), [some (.cells 159 (growL (.xi .i64 (.va 1)) (.xi .i64 (.va 2)) 1)), some (.opq (.va 0) [])])),
  ([((.lt (.li 4096) (.va 3)), true), ((.lt (.va 3) (.li 0)), false)], some ((.a (.s (.int .i64 1))), [some (.cells 159 (growL (.xi .i64 (.va 1)) (.xi .i64 (.va 2)) 1)), some (.opq (.va 0) [])])),
  ([((.lt (.li 1024) (.va 3)), true), ((.lt (.li 256) (.va 3)), true), ((.lt (.li 64) (.va 3)), true), ((.lt (.li 16) (.va 3)), true), ((.lt (.li 4) (.va 3)), true), ((.lt (.li 1) (.va 3)), true), ((.lt (.li 4096) (.va 3)), false), ((.lt (.va 3) (.li 0)), false)], some ((.a (.s (.int .i64 0))), [some (.cells 159 (growL (.int .i64 6) (.xi .i64 (.mn (.va 2) (.va 3))) 1)), some (.opq (.app 22 (.cons (.va 0) (.va 3))) [])])),
  ([((.lt (.li 1024) (.va 3)), false), ((.lt (.li 256) (.va 3)), true), ((.lt (.li 64) (.va 3)), true), ((.lt (.li 16) (.va 3)), true), ((.lt (.li 4) (.va 3)), true), ((.lt (.li 1) (.va 3)), true), ((.lt (.li 4096) (.va 3)), false), ((.lt (.va 3) (.li 0)), false)], some ((.a (.s (.int .i64 0))), [some (.cells 159 (growL (.int .i64 5) (.xi .i64 (.mn (.va 2) (.va 3))) 1)), some (.opq (.app 22 (.cons (.va 0) (.va 3))) [])])),
  ([((.lt (.li 256) (.va 3)), false), ((.lt (.li 64) (.va 3)), true), ((.lt (.li 16) (.va 3)), true), ((.lt (.li 4) (.va 3)), true), ((.lt (.li 1) (.va 3)), true), ((.lt (.li 4096) (.va 3)), false), ((.lt (.va 3) (.li 0)), false)], some ((.a (.s (.int .i64 0))), [some (.cells 159 (growL (.int .i64 4) (.xi .i64 (.mn (.va 2) (.va 3))) 1)), some (.opq (.app 22 (.cons (.va 0) (.va 3))) [])])),
  ([((.lt (.li 64) (.va 3)), false), ((.lt (.li 16) (.va 3)), true), ((.lt (.li 4) (.va 3)), true), ((.lt (.li 1) (.va 3)), true), ((.lt (.li 4096) (.va 3)), false), ((.lt (.va 3) (.li 0)), false)], some ((.a (.s (.int .i64 0))), [some (.cells 159 (growL (.int .i64 3) (.xi .i64 (.mn (.va 2) (.va 3))) 1)), some (.opq (.app 22 (.cons (.va 0) (.va 3))) [])])),
  ([((.lt (.li 16) (.va 3)), false), ((.lt (.li 4) (.va 3)), true), ((.lt (.li 1) (.va 3)), true), ((.lt (.li 4096) (.va 3)), false), ((.lt (.va 3) (.li 0)), false)], some ((.a (.s (.int .i64 0))), [some (.cells 159 (growL (.int .i64 2) (.xi .i64 (.mn (.va 2) (.va 3))) 1)), some (.opq (.app 22 (.cons (.va 0) (.va 3))) [])])),
  ([((.lt (.li 4) (.va 3)), false), ((.lt (.li 1) (.va 3)), true), ((.lt (.li 4096) (.va 3)), false), ((.lt (.va 3) (.li 0)), false)], some ((.a (.s (.int .i64 0))), [some (.cells 159 (growL (.int .i64 1) (.xi .i64 (.mn (.va 2) (.va 3))) 1)), some (.opq (.app 22 (.cons (.va 0) (.va 3))) [])])),
  ([((.lt (.li 1) (.va 3)), false), ((.lt (.li 4096) (.va 3)), false), ((.lt (.va 3) (.li 0)), false)], some ((.a (.s (.int .i64 0))), [some (.cells 159 (growL (.int .i64 0) (.xi .i64 (.mn (.va 2) (.va 3))) 1)), some (.opq (.app 22 (.cons (.va 0) (.va 3))) [])]))]
def cloneT : PT := .leaf
def cloneL : List (List (X × Bool) × Option (EV × List (Option BV))) := [
  ([], some ((.a (.s (.ptr 2 0))), [some (.cells 159 (growL (.xi .i64 (.va 1)) (.xi .i64 (.va 2)) 1)), some (.opq (.va 0) []), some (.cells 159 (growL (.xi .i64 (.va 1)) (.xi .i64 (.va 2)) 3)), some (.opq (.va 0) [])]))]
def newT : PT := .leaf
def newL : List (List (X × Bool) × Option (EV × List (Option BV))) := [
  ([], some ((.tup [(.s (.ptr 1 0)), (.s (.int .i64 0))]), [some (.cells 82 ([(.int .i64 0), (.int .u32 0)] ++ List.replicate 32 (.int .u8 0))), some (.cells 159 (growL (.int .i64 0) (.int .i64 1) 5)), some (.cells 82 ([(.int .i64 0), (.int .u32 0)] ++ List.replicate 32 (.int .u8 0))), some (.cells 82 ([(.int .i64 0), (.int .u32 0)] ++ List.replicate 32 (.int .u8 0))), some (.cells 80 ([(.int .u32 0)] ++ List.replicate 32 (.int .u8 0))), some .empty, none]))]
end Go.Proofs.YtcnimekhpnejlaaGreat.Ev

/- A piece of code, evaluated on all its ways. -/
namespace Go.Proofs.YtcnimekhpnejlaaGreat.Ev
open Go Go.RowKit
set_option linter.unusedVariables false

/-- A piece of code: 0 and 1 are the parts. -/
def codeAt : Code → List Nat → Code
  | c, [] => c
  | .seq a b, i :: p => if i = 0 then codeAt a p else codeAt b p
  | .cond _ a b, i :: p => if i = 0 then codeAt a p else codeAt b p
  | .block _ a, _ :: p => codeAt a p
  | .loop a, _ :: p => codeAt a p
  | c, _ :: _ => c
abbrev CodeV := Out × List (Option EV) × List (Option BV)
/-- What is seen behind a piece of code: how it ended, some slots, some blocks. -/
def viewC (ts ids : List Nat) (rs : List (Out × S)) : List CodeV := rs.map fun r => (r.1, ts.map fun t => r.2.tm.get t, ids.map fun i => (r.2.h.get i).map Blk.view)
/-- A piece of code, evaluated on all ways. -/
theorem ways_code {R : Rules} {ρ : Rho} (hR : R.Ok ρ) {sum : List (X × Bool) → Call} (hsum : ∀ pc, Told ρ pc → CallOk (ctx R ρ pc) (sum pc)) {F K N : Nat} {c : Code} {s : S} {t : PT} {ts ids : List Nat} {l : List (List (X × Bool) × Option (List CodeV))}
    (hev : ways (fun pc => (evCode (ctx R ρ pc) funT.get (evCall (ctx R ρ pc) funT.get (sum pc) F K) N F c s).map (viewC ts ids)) t [] = some l) {E : Env} {a : Act} {w : World} (hr : HRel E s.h w) (hρ : E.ρ = ρ) (hf : FreshU E s.nx) (htm : RelT E s.tm a.tmps) (hN : N ≤ a.tmps.size) :
    ∃ x ∈ l, Told ρ x.1 ∧ ∀ rs, x.2 = some rs → ∀ Q : Exit → Act → World → Prop,
      (∀ q ∈ rs, ∀ E' a' w' (s' : S), Goes E s.h s.nx w E' s'.h s'.nx w' → RelT E' s'.tm a'.tmps → a'.tmps.size = a.tmps.size → a'.defers = a.defers → q.2.1 = (ts.map fun t => s'.tm.get t) → q.2.2 = (ids.map fun i => (s'.h.get i).map Blk.view) → Q q.1.e a' w') → c.wp Tryz.prog Q a w := by
  obtain ⟨x, hx, hrun, ht⟩ := ways_ok hev (ρ := ρ) Told.nil
  refine ⟨x, hx, ht, fun rs hrs Q hQ => ?_⟩
  obtain ⟨r, hr1, hr2⟩ := Option.map_eq_some_iff.1 (hrun rs hrs)
  have hC := hR x.1 ht
  have hfun := funs_ok (C := ctx R ρ x.1) rfl
  have hcall := evCall_ok hC (show (ctx R ρ x.1).P.follows .mixedOrders = true from mixed) hfun (hsum x.1 ht) (F := F) K
  refine evCode_run hC (show (ctx R ρ x.1).P.follows .mixedOrders = true from mixed) hfun hcall c hr1 ⟨hr, hρ, hf, htm, hN⟩ fun o ho E' a' w' k => ?_
  refine hQ _ (by rw [← hr2]; exact List.mem_map.2 ⟨o, ho, rfl⟩) E' a' w' o.2 k.go k.tm k.size k.dfr rfl rfl
/-- Pieces of code, one behind the other. -/
def seqs : List Code → Code → Code
  | [], z => z
  | c :: cs, z => .seq c (seqs cs z)
theorem evCode_prefix {C : Ctx} (hC : C.Ok) (hm : C.P.follows .mixedOrders = true) {funs : Nat → Option Func} (hfun : FunOk C funs) {call : Call} (hcall : CallOk C call) {N F : Nat} {z : Code} : ∀ (cs : List Code) {s : S} {rs : List (Out × S)} {E : Env} {a : Act} {w : World} {Q : Exit → Act → World → Prop}, evCode C funs call N F (seqs cs .skip) s = some rs → At C E N s a w →
    (∀ r ∈ rs, ∀ E' a' w', After C E N s a w E' r.2 a' w' → Exit.then (z.wp C.P Q) Q r.1.e a' w') → (seqs cs z).wp C.P Q a w
  | [], s, rs, E, a, w, Q, he, hA, hQ => by
    obtain rfl := Option.some.inj he
    exact hQ _ (List.mem_singleton.2 rfl) E a w (After.refl hA)
  | c :: cs, s, rs, E, a, w, Q, he, hA, hQ => by
    replace he := Option.bind_eq_some_iff.1 he
    obtain ⟨r1, h1, he⟩ := he
    refine wp_seq (evCode_run hC hm hfun hcall c h1 hA fun r2 hr2 E1 a1 w1 k1 => ?_)
    obtain ⟨l, hl, hmem⟩ := flatO_mem he r2 hr2
    obtain ⟨o1, s1⟩ := r2
    cases o1 with
    | normal => exact evCode_prefix hC hm hfun hcall cs hl (k1.at hA) fun r3 hr3 E2 a2 w2 k2 => hQ r3 (hmem r3 hr3) E2 a2 w2 (k1.trans k2)
    | exit id =>
      obtain rfl := Option.some.inj hl
      exact hQ _ (hmem _ (List.mem_singleton.2 rfl)) E1 a1 w1 k1
    | ret =>
      obtain rfl := Option.some.inj hl
      exact hQ _ (hmem _ (List.mem_singleton.2 rfl)) E1 a1 w1 k1
/-- The beginning of a piece of code, evaluated on all ways. -/
theorem ways_prefix {R : Rules} {ρ : Rho} (hR : R.Ok ρ) {sum : List (X × Bool) → Call} (hsum : ∀ pc, Told ρ pc → CallOk (ctx R ρ pc) (sum pc)) {F K N : Nat} {cs : List Code} {s : S} {t : PT} {ts ids : List Nat} {l : List (List (X × Bool) × Option (List CodeV))}
    (hev : ways (fun pc => (evCode (ctx R ρ pc) funT.get (evCall (ctx R ρ pc) funT.get (sum pc) F K) N F (seqs cs .skip) s).map (viewC ts ids)) t [] = some l) {E : Env} {a : Act} {w : World} (hr : HRel E s.h w) (hρ : E.ρ = ρ) (hf : FreshU E s.nx) (htm : RelT E s.tm a.tmps) (hN : N ≤ a.tmps.size) :
    ∃ x ∈ l, Told ρ x.1 ∧ ∀ rs, x.2 = some rs → ∀ (z : Code) (Q : Exit → Act → World → Prop),
      (∀ q ∈ rs, ∀ E' a' w' (s' : S), Goes E s.h s.nx w E' s'.h s'.nx w' → RelT E' s'.tm a'.tmps → a'.tmps.size = a.tmps.size → a'.defers = a.defers → q.2.1 = (ts.map fun t => s'.tm.get t) → q.2.2 = (ids.map fun i => (s'.h.get i).map Blk.view) → Exit.then (z.wp Tryz.prog Q) Q q.1.e a' w') → (seqs cs z).wp Tryz.prog Q a w := by
  obtain ⟨x, hx, hrun, ht⟩ := ways_ok hev (ρ := ρ) Told.nil
  refine ⟨x, hx, ht, fun rs hrs z Q hQ => ?_⟩
  obtain ⟨r, hr1, hr2⟩ := Option.map_eq_some_iff.1 (hrun rs hrs)
  have hC := hR x.1 ht
  have hfun := funs_ok (C := ctx R ρ x.1) rfl
  have hcall := evCall_ok hC (show (ctx R ρ x.1).P.follows .mixedOrders = true from mixed) hfun (hsum x.1 ht) (F := F) K
  refine evCode_prefix hC (show (ctx R ρ x.1).P.follows .mixedOrders = true from mixed) hfun hcall cs hr1 ⟨hr, hρ, hf, htm, hN⟩ fun o ho E' a' w' k => ?_
  refine hQ _ (by rw [← hr2]; exact List.mem_map.2 ⟨o, ho, rfl⟩) E' a' w' o.2 k.go k.tm k.size k.dfr rfl rfl
/-- A slot, seen. -/
theorem slot_of_view {E : Env} {tm : T EV} {tmps : Array Value} (h : RelT E tm tmps) {t : Nat} {v : EV} (hv : tm.get t = some v) : v.rel E (tmps.getD t undef) := h t v hv
theorem tmps_eq {t : Array Value} {n : Nat} (h : t.size = n) : t = ((List.range n).map fun i => t.getD i undef).toArray := by
  apply Array.toList_inj.1
  apply List.ext_getElem?
  intro i
  rw [List.getElem?_map]
  by_cases hi : i < n
  · rw [List.getElem?_range hi, List.getElem?_eq_getElem (by rw [Array.length_toList]; omega)]
    simp [Array.getD, h, hi]
  · rw [List.getElem?_eq_none (by rw [Array.length_toList]; omega), List.getElem?_eq_none (by simp; omega)]
    rfl
theorem RelT.nil {E : Env} {tmps : Array Value} : RelT E .nil tmps := fun t v hv => by simp [T.get] at hv
theorem RelT.also {E : Env} {tm : T EV} {tmps : Array Value} (h : RelT E tm tmps) {d : Nat} {x : EV} (hx : x.rel E (tmps.getD d undef)) : RelT E (tm.set d x) tmps := fun t v hv => by
  rw [T.get_set] at hv
  split at hv
  · rename_i e
    subst e
    obtain rfl := Option.some.inj hv
    exact hx
  · exact h t v hv
end Go.Proofs.YtcnimekhpnejlaaGreat.Ev
