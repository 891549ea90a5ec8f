/- The evaluator: outcomes that differ in the numbers alone are one. -/
import Derived.Test.YtoehfadjpficiaaGreatEvG
namespace Go.Proofs.YtoehfadjpficiaaGreat.Ev
open Go Go.RowKit
set_option linter.unusedVariables false
set_option linter.unusedSimpArgs false

def T.map {α β : Type} (f : α → β) : T α → T β
  | .nil => .nil
  | .node v l r => .node (v.map f) (l.map f) (r.map f)
theorem T.get_map {α β : Type} (f : α → β) : ∀ (t : T α) (i : Nat), (t.map f).get i = (t.get i).map f
  | .nil, i => rfl
  | .node v l r, i => by
    unfold T.map T.get
    split
    · rfl
    · split
      · exact T.get_map f l _
      · exact T.get_map f r _

def SV.ren (f : Nat → Nat) : SV → SV
  | .ptr i o => .ptr (f i) o
  | .sl i o l c k => .sl (f i) o l c k
  | .map i => .map (f i)
  | .func g cs => .func g (cs.map fun c => (f c.1, c.2))
  | x => x
def AV.ren (f : Nat → Nat) : AV → AV
  | .s x => .s (x.ren f)
  | .agg l => .agg (l.map (SV.ren f))
def EV.ren (f : Nat → Nat) : EV → EV
  | .a x => .a (x.ren f)
  | .tup l => .tup (l.map (AV.ren f))
def Blk.ren (f : Nat → Nat) : Blk → Blk
  | .cells t o c fz => .cells t o ⟨c.n, c.d.ren f, c.t.map (SV.ren f)⟩ fz
  | .mp es clock => .mp (es.map fun e => (e.1.ren f, e.2.1.ren f, f e.2.2)) clock
  | .it m since seen last => .it (m.map f) since (seen.map f) last

theorem Rels.map_left {α β : Type} {R S : α → β → Prop} {f : α → α} (h : ∀ a b, S (f a) b → R a b) : ∀ {as : List α} {bs : List β}, Rels S (as.map f) bs → Rels R as bs
  | [], [], _ => trivial
  | a :: as, b :: bs, hr => ⟨h a b hr.1, Rels.map_left h hr.2⟩
  | [], _ :: _, hr => hr.elim
  | _ :: _, [], hr => hr.elim

section ren
variable {E E' : Env} {f : Nat → Nat} (hf : ∀ i p, E.m (f i) = some p → E'.m i = some p) (hρ : E'.ρ = E.ρ)
include hf hρ
omit hρ in
theorem relP_ren {x : Nat × Nat} {v : Value} (h : relP E (f x.1, x.2) v) : relP E' x v := by
  obtain ⟨p, hp, e⟩ := h
  exact ⟨p, hf _ _ hp, e⟩
theorem SV.ren_rel : ∀ {x : SV} {v : Value}, (x.ren f).rel E v → x.rel E' v
  | .bool _, _, h | .int _ _, _, h | .str _, _, h | .nilp, _, h | .nils, _, h | .slz (some _), _, h | .slz none, _, h | .nilm, _, h | .nilf, _, h | .nili, _, h => h
  | .ptr _ _, _, ⟨p, hp, e⟩ => ⟨p, hf _ _ hp, e⟩
  | .sl _ _ _ (some _) _, _, ⟨p, hp, e⟩ => ⟨p, hf _ _ hp, e⟩
  | .sl _ _ _ none _, _, ⟨p, hp, e⟩ => ⟨p, hf _ _ hp, e⟩
  | .map _, _, ⟨p, hp, e⟩ => ⟨p, hf _ _ hp, e⟩
  | .func _ _, _, ⟨vs, e, hr⟩ => ⟨vs, e, Rels.map_left (R := relP E') (S := relP E) (f := fun c => (f c.1, c.2)) (fun _ _ h => relP_ren hf h) hr⟩
  | .var i, _, h => by
    have h' : _ = E.ρ i ∧ _ := h
    unfold SV.rel
    rw [hρ]
    exact h'
theorem AV.ren_rel : ∀ {x : AV} {v : Value}, (x.ren f).rel E v → x.rel E' v
  | .s _, _, h => SV.ren_rel hf hρ h
  | .agg _, _, ⟨vs, e, hr⟩ => ⟨vs, e, Rels.map_left (R := SV.rel E') (S := SV.rel E) (f := SV.ren f) (fun _ _ h => SV.ren_rel hf hρ h) hr⟩
theorem EV.ren_rel : ∀ {x : EV} {v : Value}, (x.ren f).rel E v → x.rel E' v
  | .a _, _, h => AV.ren_rel hf hρ h
  | .tup _, _, ⟨vs, e, hr⟩ => ⟨vs, e, Rels.map_left (R := AV.rel E') (S := AV.rel E) (f := AV.ren f) (fun _ _ h => AV.ren_rel hf hρ h) hr⟩
omit hρ in
theorem stamp_ren {i s : Nat} (h : stampRel E (f i) s) : stampRel E' i s := by
  obtain ⟨p, hp, e⟩ := h
  exact ⟨p, hf _ _ hp, e⟩
theorem Blk.ren_rel {p : Pl} : ∀ {b : Blk} {o : Obj}, (b.ren f).rel E p o → b.rel E' p o
  | .cells _ _ c _, _, ⟨cs, lo, hi, e, hr⟩ => ⟨cs, lo, hi, e, ⟨hr.fz, hr.free, hr.room, hr.fits, hr.dl, fun j hj => by
      obtain ⟨v, h1, h2⟩ := hr.get j hj
      refine ⟨v, h1, SV.ren_rel hf hρ ?_⟩
      have e2 : (⟨c.n, c.d.ren f, c.t.map (SV.ren f)⟩ : Cells).get j = (c.get j).ren f := by
        unfold Cells.get
        show ((c.t.map (SV.ren f)).get j).getD (c.d.ren f) = _
        rw [T.get_map]
        cases c.t.get j <;> rfl
      rw [e2] at h2
      exact h2⟩⟩
  | .mp _ _, _, ⟨ents, e, l, h1, h2, h3⟩ => ⟨ents, e, l, h1, Rels.map_left (fun a b h => ⟨AV.ren_rel hf hρ h.1, AV.ren_rel hf hρ h.2.1, stamp_ren hf h.2.2⟩) h2, h3⟩
  | .it none _ _ _, _, ⟨hd, mb, st, e, hm, hs⟩ => ⟨hd, mb, st, e, hm, Rels.map_left (R := stampRel E') (S := stampRel E) (f := f) (fun a b h => stamp_ren hf h) hs⟩
  | .it (some _) _ _ _, _, ⟨hd, mb, st, e, ⟨q, hq, hm⟩, hs⟩ => ⟨hd, mb, st, e, ⟨q, hf _ _ hq, hm⟩, Rels.map_left (R := stampRel E') (S := stampRel E) (f := f) (fun a b h => stamp_ren hf h) hs⟩
end ren

deriving instance DecidableEq for Cells
deriving instance DecidableEq for Blk

/-! ### The guess -/
def T.keys {α : Type} : T α → List Nat
  | .nil => []
  | .node v l r => (match v with | some _ => [0] | none => []) ++ l.keys.map (2 * · + 1) ++ r.keys.map (2 * · + 2)
def T.zip {α β : Type} (g : α → α → List β) : T α → T α → List β
  | .node v l r, .node v2 l2 r2 => (match v, v2 with | some x, some y => g x y | _, _ => []) ++ l.zip g l2 ++ r.zip g r2
  | _, _ => []
def pairSV : SV → SV → List (Nat × Nat)
  | .ptr i _, .ptr j _ => [(i, j)]
  | .sl i _ _ _ _, .sl j _ _ _ _ => [(i, j)]
  | .map i, .map j => [(i, j)]
  | .func _ cs, .func _ ds => (cs.zip ds).map fun x => (x.1.1, x.2.1)
  | _, _ => []
def pairSVs : List SV → List SV → List (Nat × Nat)
  | a :: as, b :: bs => pairSV a b ++ pairSVs as bs
  | _, _ => []
def pairAV : AV → AV → List (Nat × Nat)
  | .s x, .s y => pairSV x y
  | .agg l, .agg m => pairSVs l m
  | _, _ => []
def pairAVs : List AV → List AV → List (Nat × Nat)
  | a :: as, b :: bs => pairAV a b ++ pairAVs as bs
  | _, _ => []
def pairEV : EV → EV → List (Nat × Nat)
  | .a x, .a y => pairAV x y
  | .tup l, .tup m => pairAVs l m
  | _, _ => []
def pairEs : List (AV × AV × Nat) → List (AV × AV × Nat) → List (Nat × Nat)
  | a :: as, b :: bs => pairAV a.1 b.1 ++ pairAV a.2.1 b.2.1 ++ (a.2.2, b.2.2) :: pairEs as bs
  | _, _ => []
def pairBlk : Option Blk → Option Blk → List (Nat × Nat)
  | some (.cells _ _ c _), some (.cells _ _ d _) => pairSV c.d d.d ++ c.t.zip pairSV d.t
  | some (.mp es _), some (.mp fs _) => pairEs es fs
  | some (.it (some m) _ s _), some (.it (some n) _ r _) => (m, n) :: s.zip r
  | _, _ => []
def guess (nx : Nat) (h1 h2 : T Blk) : Nat → List (Nat × Nat) → T Nat → T Nat
  | 0, _, t => t
  | _, [], t => t
  | f + 1, (i, j) :: l, t => if i < nx then guess nx h1 h2 f l t else
    match t.get i with
    | some _ => guess nx h1 h2 f l t
    | none => guess nx h1 h2 f (pairBlk (h1.get i) (h2.get j) ++ l) (t.set i j)
def cut (h : T Blk) : List Nat → T Blk
  | [] => .nil
  | i :: l => match h.get i with
    | some b => (cut h l).set i b
    | none => cut h l
theorem cut_get {h : T Blk} : ∀ {l : List Nat} {i : Nat} {b : Blk}, (cut h l).get i = some b → h.get i = some b ∧ i ∈ l
  | [], i, b, hb => by simp [cut, T.get] at hb
  | j :: l, i, b, hb => by
    unfold cut at hb
    split at hb
    · rename_i c hc
      rw [T.get_set] at hb
      by_cases e : i = j
      · rw [if_pos e] at hb
        obtain rfl := Option.some.inj hb
        exact ⟨by rw [e]; exact hc, by simp [e]⟩
      · rw [if_neg e] at hb
        obtain ⟨h1, h2⟩ := cut_get hb
        exact ⟨h1, by simp [h2]⟩
    · obtain ⟨h1, h2⟩ := cut_get hb
      exact ⟨h1, by simp [h2]⟩

/-! ### The check -/
def rid (nx nx' : Nat) (t : T Nat) (i : Nat) : Nat := if i < nx then i else if i < nx' then (t.get i).getD nx' else nx'
def nodupB : List Nat → Bool
  | [] => true
  | a :: l => !l.contains a && nodupB l
theorem nodupB_ok : ∀ {l : List Nat}, nodupB l = true → l.Nodup
  | [], _ => List.nodup_nil
  | a :: l, h => by
    unfold nodupB at h
    simp only [Bool.and_eq_true, Bool.not_eq_true'] at h
    refine List.nodup_cons.2 ⟨fun hm => ?_, nodupB_ok h.2⟩
    have := h.1
    rw [List.contains_iff_mem.2 hm] at this
    cases this
def chkSame (h : T Blk) (nx nx' : Nat) (t : T Nat) (ids : List Nat) (v : EV) (hg : T Blk) (r : Res) : Bool :=
  decide (nx ≤ nx') && decide (r.2.2 ≤ nx') && decide (v.ren (rid nx nx' t) = r.1) && nodupB (ids.map (rid nx nx' t))
    && ids.all fun i => match hg.get i with
      | some b => decide (r.2.1.get (rid nx nx' t i) = some (b.ren (rid nx nx' t))) && decide (i < nx') && ((h.get i).isSome || decide (nx ≤ i))
      | none => true
theorem chkSame_goes {E E2 : Env} {h : T Blk} {nx nx' : Nat} {t : T Nat} {ids : List Nat} {v : EV} {h0 : T Blk} {r : Res} {w w' : World} {u : Value} (hc : chkSame h nx nx' t ids v (cut h0 ids) r = true) (hf : FreshU E nx) (hg : Goes E h nx w E2 r.2.1 r.2.2 w') (hv : r.1.rel E2 u) :
    ∃ E', Goes E h nx w E' (cut h0 ids) nx' w' ∧ v.rel E' u := by
  unfold chkSame at hc
  simp only [Bool.and_eq_true, decide_eq_true_eq] at hc
  obtain ⟨⟨⟨⟨c1, c2⟩, c3⟩, c4⟩, c5⟩ := hc
  have hnd := nodupB_ok c4
  have hf2 := hf.goes hg
  have hnone : ∀ i, nx' ≤ i → E2.m i = none := fun i hi => hf2 i (by omega)
  let E' : Env := { m := fun i => if i < nx' then E2.m (rid nx nx' t i) else none, ρ := E2.ρ }
  have hm : ∀ i p, E2.m (rid nx nx' t i) = some p → E'.m i = some p := fun i p hp => by
    show (if i < nx' then E2.m (rid nx nx' t i) else none) = some p
    by_cases hi : i < nx'
    · rw [if_pos hi]; exact hp
    · exfalso
      unfold rid at hp
      rw [if_neg (by omega), if_neg hi, hnone nx' (Nat.le_refl _)] at hp
      cases hp
  have hold : ∀ i, i < nx → E'.m i = E2.m i := fun i hi => by
    show (if i < nx' then E2.m (rid nx nx' t i) else none) = _
    rw [if_pos (by omega)]
    unfold rid
    rw [if_pos hi]
  have hblk : ∀ i b, (cut h0 ids).get i = some b → i ∈ ids ∧ r.2.1.get (rid nx nx' t i) = some (b.ren (rid nx nx' t)) ∧ i < nx' ∧ ((∃ c, h.get i = some c) ∨ nx ≤ i) := fun i b hb => by
    have hi := (cut_get hb).2
    have h := List.all_eq_true.1 c5 i hi
    rw [hb] at h
    simp only [Bool.and_eq_true, Bool.or_eq_true, decide_eq_true_eq] at h
    refine ⟨hi, h.1.1, h.1.2, ?_⟩
    rcases h.2 with h2 | h2
    · exact .inl (Option.isSome_iff_exists.1 h2)
    · exact .inr h2
  have hmi : ∀ i, i < nx' → E'.m i = E2.m (rid nx nx' t i) := fun i hi => if_pos hi
  refine ⟨E', {
    ext := ⟨hg.ext.ρ, fun i p hp => ?_⟩
    out := fun i hi => ?_
    le := c1
    rel := ⟨fun i b hb => ?_, fun i j b c p q hb hc hp hq e => ?_⟩
    frame := hg.frame
    ids := fun i b hb => ?_
    own := fun i b p hb hp => ?_ }, EV.ren_rel hm rfl (by rw [c3]; exact hv)⟩
  · have hi : i < nx := by
      rcases Nat.lt_or_ge i nx with h | h
      · exact h
      · rw [hf i h] at hp; cases hp
    rw [hold i hi]
    exact hg.ext.m i p hp
  · by_cases hi2 : i < nx
    · rw [hold i hi2]
      exact hg.out i (by omega)
    · have : nx' ≤ i := by omega
      show (if i < nx' then E2.m (rid nx nx' t i) else none) = _
      rw [if_neg (by omega), hf i (by omega)]
  · obtain ⟨_, h1, h2, _⟩ := hblk i b hb
    obtain ⟨p, o, hp, ho, hr⟩ := hg.rel.at_ _ _ h1
    exact ⟨p, o, hm i p hp, ho, Blk.ren_rel hm rfl hr⟩
  · obtain ⟨i1, h1, h2, _⟩ := hblk i b hb
    obtain ⟨j1, k1, k2, _⟩ := hblk j c hc
    rw [hmi i h2] at hp
    rw [hmi j k2] at hq
    have hij := hg.rel.inj _ _ _ _ p q h1 k1 hp hq e
    obtain ⟨n1, hn1⟩ := List.mem_iff_getElem?.1 i1
    obtain ⟨n2, hn2⟩ := List.mem_iff_getElem?.1 j1
    have e1 : (ids.map (rid nx nx' t))[n1]? = some (rid nx nx' t i) := by rw [List.getElem?_map, hn1]; rfl
    have e2 : (ids.map (rid nx nx' t))[n2]? = some (rid nx nx' t j) := by rw [List.getElem?_map, hn2]; rfl
    have hnn : n1 = n2 := (List.getElem?_inj (List.getElem?_eq_some_iff.1 e1).1 hnd).1 (by rw [e1, e2, hij])
    subst hnn
    rw [hn1] at hn2
    exact Option.some.inj hn2
  · obtain ⟨_, h1, h2, h3⟩ := hblk i b hb
    rcases h3 with h3 | h3
    · exact .inl h3
    · exact .inr ⟨h3, h2⟩
  · obtain ⟨_, h1, h2, _⟩ := hblk i b hb
    rw [hmi i h2] at hp
    exact hg.own _ _ p h1 hp

/-- One outcome out of many. -/
def merge (h : T Blk) (nx : Nat) : List Res → Option Res
  | [] => none
  | [r] => some r
  | r :: rest =>
    (fun (old : List Nat) (nx' : Nat) =>
      (fun (ids : List Nat) => (fun (hg : T Blk) =>
        if (r :: rest).all (fun q => chkSame h nx nx' (guess nx r.2.1 q.2.1 100000 (pairEV r.1 q.1 ++ old.flatMap fun i => pairBlk (r.2.1.get i) (q.2.1.get i)) .nil) ids r.1 hg q) = true then some (r.1, hg, nx') else none) (cut r.2.1 ids))
        (old ++ (guess nx r.2.1 r.2.1 100000 (pairEV r.1 r.1 ++ old.flatMap fun i => pairBlk (r.2.1.get i) (r.2.1.get i)) .nil).keys))
      h.keys ((r :: rest).foldl (fun m q => max m q.2.2) nx)
theorem merge_goes {E : Env} {h : T Blk} {nx : Nat} {rs : List Res} {r0 : Res} {w : World} (hm : merge h nx rs = some r0) (hf : FreshU E nx) {r : Res} (hr : r ∈ rs) {E2 : Env} {w' : World} {u : Value} (hg : Goes E h nx w E2 r.2.1 r.2.2 w') (hv : r.1.rel E2 u) :
    ∃ E', Goes E h nx w E' r0.2.1 r0.2.2 w' ∧ r0.1.rel E' u := by
  unfold merge at hm
  split at hm
  · cases hm
  · obtain rfl := Option.some.inj hm
    obtain rfl := List.mem_singleton.1 hr
    exact ⟨E2, hg, hv⟩
  · simp only [] at hm
    split at hm
    · rename_i hall
      obtain rfl := Option.some.inj hm
      exact chkSame_goes (List.all_eq_true.1 hall r hr) hf hg hv
    · cases hm

end Go.Proofs.YtoehfadjpficiaaGreat.Ev
