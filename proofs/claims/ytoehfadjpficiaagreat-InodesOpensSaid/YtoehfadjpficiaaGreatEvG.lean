/- The evaluator: a region that draws, whole. -/
import Derived.Test.YtoehfadjpficiaaGreatEvF
namespace Go.Proofs.YtoehfadjpficiaaGreat.Ev
open Go Go.RowKit
set_option linter.unusedVariables false
set_option linter.unusedSimpArgs false

def finT (R : Rg) (g : Sg) : List Nat → T EV
  | [] => R.tm0
  | i :: l =>
    match R.ops[i]?, g.it.get i with
    | some o, some x =>
      match o.dst with
      | some d => (finT R g l).set d x.v
      | none => finT R g l
    | _, _ => finT R g l
theorem finT_get {R : Rg} {g : Sg} : ∀ {l : List Nat} {t : Nat} {y : EV}, (finT R g l).get t = some y →
    (∃ j ∈ l, ∃ o x, R.ops[j]? = some o ∧ o.dst = some t ∧ g.it.get j = some x ∧ x.v = y) ∨ (R.tm0.get t = some y ∧ ∀ j ∈ l, ∀ o x, R.ops[j]? = some o → g.it.get j = some x → o.dst ≠ some t)
  | [], t, y, h => .inr ⟨h, fun j hj => by simp at hj⟩
  | i :: l, t, y, h => by
    have up : ((∃ j ∈ l, ∃ o x, R.ops[j]? = some o ∧ o.dst = some t ∧ g.it.get j = some x ∧ x.v = y) ∨ (R.tm0.get t = some y ∧ ∀ j ∈ l, ∀ o x, R.ops[j]? = some o → g.it.get j = some x → o.dst ≠ some t)) →
        (∀ o x, R.ops[i]? = some o → g.it.get i = some x → o.dst ≠ some t) →
        (∃ j ∈ i :: l, ∃ o x, R.ops[j]? = some o ∧ o.dst = some t ∧ g.it.get j = some x ∧ x.v = y) ∨ (R.tm0.get t = some y ∧ ∀ j ∈ i :: l, ∀ o x, R.ops[j]? = some o → g.it.get j = some x → o.dst ≠ some t) := fun h hi => by
      rcases h with ⟨j, hj, r⟩ | ⟨h1, h2⟩
      · exact .inl ⟨j, by simp [hj], r⟩
      · refine .inr ⟨h1, fun j hj => ?_⟩
        rcases List.mem_cons.1 hj with rfl | hj
        · exact hi
        · exact h2 j hj
    unfold finT at h
    split at h
    · rename_i o x ho hx
      split at h
      · rename_i d hd
        rw [T.get_set] at h
        by_cases ht : t = d
        · subst ht
          rw [if_pos rfl] at h
          exact .inl ⟨i, by simp, o, x, ho, hd, hx, Option.some.inj h⟩
        · rw [if_neg ht] at h
          refine up (finT_get h) fun o2 x2 ho2 _ e => ?_
          rw [ho] at ho2
          obtain rfl := Option.some.inj ho2
          rw [hd] at e
          exact ht (Option.some.inj e).symm
      · rename_i hd
        refine up (finT_get h) fun o2 x2 ho2 _ e => ?_
        rw [ho] at ho2
        obtain rfl := Option.some.inj ho2
        rw [hd] at e
        cases e
    · rename_i hne
      exact up (finT_get h) fun o2 x2 ho2 hx2 _ => hne o2 x2 ho2 hx2

section
variable {C : Ctx} {R : Rg} {g : Sg} {N n : Nat} {E0 : Env} {h0 : T Blk} {nx0 : Nat} {a0 : Act} {w0 : World}
variable {listed : Array Bool} {E : Env} {a : Act} {w : World} {k : Nat} {D : T Blk}

theorem J.init (hE : HRel E0 h0 w0) (hρ : E0.ρ = C.ρ) (hf0 : FreshU E0 nx0) (hR : RelT E0 R.tm0 a0.tmps) (hb : g.bs[0]? = some h0) (hnx : nx0 ≤ g.nx) : J C R g n E0 h0 nx0 a0 w0 (Array.replicate n false) E0 a0 w0 0 h0 := by
  have hno : ∀ j, (Array.replicate n false).getD j false = true → False := fun j h => by
    have hl : j < (Array.replicate n false).size := getD_lt h
    simp only [Array.getD, hl, dif_pos] at h
    simp at h
  have go : Goes E0 h0 nx0 w0 E0 h0 g.nx w0 := { Goes.refl (nx := nx0) hE with le := hnx, out := fun _ _ => rfl, ids := fun i b hb => .inl ⟨b, hb⟩ }
  exact {
    size := by simp
    down := fun j _ h => (hno j h).elim
    act := fun m e _ => ⟨fun h => (hno e h).elim, fun h => by omega⟩
    kle := Nat.zero_le _
    go := go
    s1 := fun B hB => by
      rw [hb] at hB
      obtain rfl := Option.some.inj hB
      exact fun _ _ h => h
    s2 := fun j x b h => (hno j h).elim
    s3 := fun B hB => by
      rw [hb] at hB
      obtain rfl := Option.some.inj hB
      exact fun _ _ h => .inl h
    own := fun t p ht hp => by
      rw [hf0 t ht] at hp
      cases hp
    t1 := fun j o d x h => (hno j h).elim
    t2 := fun t x hx _ => hR t x hx
    sz := rfl
    df := rfl
    ρ := hρ }

theorem J.all (hc : chkAll C R g N n nx0 = true) (hJ : J C R g n E0 h0 nx0 a0 w0 listed E a w k D) (hr : Region.ready .any R.ops listed = []) : ∀ (f i : Nat), i < f → i < n → listed.getD i false = true
  | 0, i, h, _ => by omega
  | f + 1, i, h, hi => by
    cases hl : listed.getD i false with
    | true => rfl
    | false =>
      exfalso
      obtain ⟨o, x, ho, hx, cp, _⟩ := chk_one hc hi
      unfold chkPre at cp
      simp only [Bool.and_eq_true, decide_eq_true_eq] at cp
      have hm : i ∈ Region.ready .any R.ops listed := by
        rw [mem_ready]
        refine ⟨?_, o, ho, fun e he hb => ?_⟩
        · have hsz : i < listed.size := by rw [hJ.size]; exact hi
          simp only [Array.getD, hsz, dif_pos] at hl ⊢
          exact hl
        · have h2 := List.all_eq_true.1 cp.2 e (by simpa using he)
          simp only [hb, Bool.not_true, Bool.false_or, decide_eq_true_eq] at h2
          exact hJ.all hc hr f e.on (by omega) (by omega)
      rw [hr] at hm
      cases hm

theorem J.any (hC : C.Ok) {funs : Nat → Option Func} (hfun : FunOk C funs) {call : Call} (hcall : CallOk C call) (hf0 : FreshU E0 nx0) (hF : Facts C funs call R g) (hc : chkAll C R g N n nx0 = true) (hN : N ≤ a0.tmps.size) {Q : Exit → Act → World → Prop}
    (hQ : ∀ listed E a w k D, J C R g n E0 h0 nx0 a0 w0 listed E a w k D → (∀ i, i < n → listed.getD i false = true) → Q .normal a w) :
    ∀ (fuel : Nat) {listed : Array Bool} {E : Env} {a : Act} {w : World} {k : Nat} {D : T Blk} (U : List Nat), J C R g n E0 h0 nx0 a0 w0 listed E a w k D → U.length ≤ fuel → (∀ i, i < n → listed.getD i false = false → i ∈ U) → wpAny C.P .any R.ops Q fuel listed a w
  | 0, listed, E, a, w, k, D, U, hJ, hU, hall => by
    have hl : ∀ i, i < n → listed.getD i false = true := fun i hi => by
      cases h : listed.getD i false with
      | true => rfl
      | false =>
        have := hall i hi h
        rw [List.length_eq_zero_iff.1 (Nat.le_zero.1 hU)] at this
        simp at this
    refine ⟨List.eq_nil_iff_forall_not_mem.2 fun i hi => ?_, hQ _ _ _ _ _ _ hJ hl⟩
    rw [mem_ready] at hi
    obtain ⟨h1, o, ho, _⟩ := hi
    have hin : i < n := by
      rw [← (chk_rest hc).1]
      exact (Array.getElem?_eq_some_iff.1 ho).1
    have := hl i hin
    have hsz : i < listed.size := by rw [hJ.size]; exact hin
    simp only [Array.getD, hsz, dif_pos] at h1 this
    rw [this] at h1
    cases h1
  | fuel + 1, listed, E, a, w, k, D, U, hJ, hU, hall => by
    refine ⟨fun hr => hQ _ _ _ _ _ _ hJ fun i hi => hJ.all hc hr (i + 1) i (Nat.lt_succ_self i) hi, fun i hi => ?_⟩
    have hin : i < n ∧ listed.getD i false = false := by
      rw [mem_ready] at hi
      obtain ⟨h1, o, ho, _⟩ := hi
      have hin : i < n := by
        rw [← (chk_rest hc).1]
        exact (Array.getElem?_eq_some_iff.1 ho).1
      refine ⟨hin, ?_⟩
      have hsz : i < listed.size := by rw [hJ.size]; exact hin
      simp only [Array.getD, hsz, dif_pos] at h1 ⊢
      exact h1
    refine hJ.step hC hfun hcall hf0 hF hc hN hi fun E' a' w' k' D' hJ' => ?_
    have hm := hall i hin.1 hin.2
    refine J.any hC hfun hcall hf0 hF hc hN hQ fuel (U.erase i) hJ' (by rw [List.length_erase_of_mem hm]; omega) fun j hj hu => ?_
    have hsz : i < listed.size := by rw [hJ.size]; exact hin.1
    have hne : j ≠ i := fun e => by
      have := (listed_set (l := listed) (i := i) (j := j) hsz).2 (.inr e)
      rw [hu] at this
      cases this
    refine (List.mem_erase_of_ne hne).2 (hall j hj ?_)
    cases h : listed.getD j false with
    | false => rfl
    | true =>
      have := (listed_set (l := listed) (i := i) (j := j) hsz).2 (.inl h)
      rw [hu] at this
      cases this
end

def evDraw (C : Ctx) (funs : Nat → Option Func) (call : Call) (N : Nat) (ops : Array Oper) (s : S) : Option S :=
  (fun (R : Rg) =>
    (evIts C funs call R (order R ops.size ops.size 0) ⟨.nil, [s.h], s.nx, [], []⟩).bind fun g =>
      if chkAll C R g N ops.size s.nx = true then
        (g.bs[g.es.length]?).bind fun B => (mkH g B (g.als.filter fun j => !g.pmE R g.es.length j)).bind fun H => some ⟨finT R g (List.range ops.size), H, g.nx⟩
      else none) ⟨ops, pmT ops.toList 0 .nil, wrT ops.toList 0 .nil, s.tm⟩

theorem evDraw_run {C : Ctx} (hC : C.Ok) {funs : Nat → Option Func} (hfun : FunOk C funs) {call : Call} (hcall : CallOk C call) {N : Nat} {ops : Array Oper} {Q : Exit → Act → World → Prop} {E : Env} {s s' : S} {a : Act} {w : World} (he : evDraw C funs call N ops s = some s') (hA : At C E N s a w)
    (hQ : ∀ E' a' w', After C E N s a w E' s' a' w' → Q .normal a' w') : wpAny C.P .any ops Q ops.size (Array.replicate ops.size false) a w := by
  unfold evDraw at he
  generalize hR : (⟨ops, pmT ops.toList 0 .nil, wrT ops.toList 0 .nil, s.tm⟩ : Rg) = R at he
  replace he := Option.bind_eq_some_iff.1 he
  obtain ⟨g, hg, he⟩ := he
  split at he
  · rename_i hc
    replace he := Option.bind_eq_some_iff.1 he
    obtain ⟨B, hB, he⟩ := he
    replace he := Option.bind_eq_some_iff.1 he
    obtain ⟨H, hH, he⟩ := he
    obtain rfl := Option.some.inj he
    have hops : R.ops = ops := by rw [← hR]
    have htm : R.tm0 = s.tm := by rw [← hR]
    have hF : Facts C funs call R g := evIts_facts hg fun i x hx => by cases hx
    have hb0 : g.bs[0]? = some s.h := (evIts_le hg).bs 0 s.h rfl
    have hJ0 := J.init (C := C) (R := R) (g := g) (n := ops.size) hA.h hA.ρ hA.fr (by rw [htm]; exact hA.tm) hb0 (chk_rest hc).2.1
    have hmain := J.any (Q := Q) hC hfun hcall hA.fr hF hc hA.N (fun listed E' a' w' k D hJ hall => ?_) ops.size (List.range ops.size) hJ0 (by simp) (fun i hi _ => List.mem_range.2 hi)
    · rw [hops] at hmain
      exact hmain
    · have hk : k = g.es.length := by
        rcases Nat.lt_or_ge k g.es.length with h | h
        · have he := List.getElem?_eq_getElem h
          have := (hJ.act k _ he).1 (hall _ ((chk_rest hc).2.2.2.1 k _ he).1)
          omega
        · exact Nat.le_antisymm hJ.kle h
      subst hk
      have hsub : ∀ id b, H.get id = some b → D.get id = some b := fun id b hb => by
        rcases (mkH_get hH).1 id b hb with h | ⟨j, hj, x, hx, rfl, hal⟩
        · exact hJ.s1 B hB id b h
        · have hj2 := List.mem_filter.1 hj
          have hp : g.pmE R g.es.length j = false := by simpa using hj2.2
          exact hJ.s2 j x b (hall j ((chk_rest hc).2.2.2.2 j hj2.1).1) hx hal hp
      refine hQ E' a' w' ⟨hJ.go.sub hsub, fun t y hy => ?_, hJ.sz, hJ.df⟩
      rcases finT_get hy with ⟨j, hj, o, x, ho, hd, hx, rfl⟩ | ⟨h1, h2⟩
      · exact hJ.t1 j o t x (hall j (List.mem_range.1 hj)) ho hd hx
      · refine hJ.t2 t y h1 fun j o hj ho => ?_
        have hjn := listed_lt hJ hj
        obtain ⟨_, x, _, hx, _⟩ := chk_one hc hjn
        exact h2 j (List.mem_range.2 hjn) o x ho hx
  · cases he

end Go.Proofs.YtoehfadjpficiaaGreat.Ev
