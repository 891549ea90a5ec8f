/- Patterns of '?' and '*' (pure): what it is to match; parts that are joined; the last sign. -/
import Derived.Test.YtgciocgdppaaiaaDoorS0
import Derived.Test.YtgciocgdppaaiaaDoorPxNameMatch

namespace Go.Proofs.YtgciocgdppaaiaaDoor.Pure

/-- What one sign of a pattern may stand for. -/
def One (c : UInt8) (s : List UInt8) : Prop := c = 42 ∨ ∃ d, s = [d] ∧ (c = 63 ∨ c = d)
/-- A text is what a pattern says. -/
def Mat : List UInt8 → List UInt8 → Prop
  | [], s => s = []
  | c :: p, s => ∃ s1 s2, s = s1 ++ s2 ∧ One c s1 ∧ Mat p s2

theorem Mat_append : ∀ (p q s : List UInt8), Mat (p ++ q) s ↔ ∃ s1 s2, s = s1 ++ s2 ∧ Mat p s1 ∧ Mat q s2
  | [], q, s => by
    constructor
    · intro h; exact ⟨[], s, rfl, rfl, h⟩
    · rintro ⟨s1, s2, rfl, h1, h2⟩
      cases h1
      exact h2
  | c :: p, q, s => by
    constructor
    · rintro ⟨s1, s2, rfl, h1, h2⟩
      obtain ⟨t1, t2, rfl, h3, h4⟩ := (Mat_append p q s2).1 h2
      exact ⟨s1 ++ t1, t2, by simp, ⟨s1, t1, rfl, h1, h3⟩, h4⟩
    · rintro ⟨s1, s2, rfl, ⟨t1, t2, rfl, h1, h3⟩, h4⟩
      exact ⟨t1, t2 ++ s2, by simp, h1, (Mat_append p q (t2 ++ s2)).2 ⟨t2, s2, rfl, h3, h4⟩⟩

theorem Mat_one (c : UInt8) (s : List UInt8) : Mat [c] s ↔ One c s := by
  constructor
  · rintro ⟨s1, s2, rfl, h1, h2⟩
    cases h2
    simpa using h1
  · intro h
    exact ⟨s, [], by simp, h, rfl⟩

/-- The first sign. -/
theorem Mat_star (p s : List UInt8) : Mat (42 :: p) s ↔ ∃ s1 s2, s = s1 ++ s2 ∧ Mat p s2 := by
  constructor
  · rintro ⟨s1, s2, h, _, h2⟩; exact ⟨s1, s2, h, h2⟩
  · rintro ⟨s1, s2, h, h2⟩; exact ⟨s1, s2, h, .inl rfl, h2⟩
theorem Mat_sign {c : UInt8} (hc : c ≠ 42) (p s : List UInt8) : Mat (c :: p) s ↔ ∃ d t, s = d :: t ∧ (c = 63 ∨ c = d) ∧ Mat p t := by
  constructor
  · rintro ⟨s1, s2, rfl, h1, h2⟩
    rcases h1 with h1 | ⟨d, rfl, h1⟩
    · exact absurd h1 hc
    · exact ⟨d, s2, rfl, h1, h2⟩
  · rintro ⟨d, t, rfl, h1, h2⟩
    exact ⟨[d], t, rfl, .inr ⟨d, rfl, h1⟩, h2⟩

/-- A star takes more. -/
theorem Mat_star_more {p s : List UInt8} (t : List UInt8) (h : Mat (42 :: p) s) : Mat (42 :: p) (t ++ s) := by
  obtain ⟨s1, s2, rfl, h2⟩ := (Mat_star p s).1 h
  exact (Mat_star p _).2 ⟨t ++ s1, s2, by simp, h2⟩

/-- Signs that are no star take just as many. -/
theorem Mat_plain_len : ∀ {w s : List UInt8}, (∀ c ∈ w, c ≠ 42) → Mat w s → s.length = w.length
  | [], s, _, h => by cases h; rfl
  | c :: w, s, hw, h => by
    obtain ⟨d, t, rfl, _, h2⟩ := (Mat_sign (hw c List.mem_cons_self) w s).1 h
    have := Mat_plain_len (fun x hx => hw x (List.mem_cons_of_mem _ hx)) h2
    simp [this]

theorem Mat_empty : ∀ p : List UInt8, Mat p [] ↔ ∀ c ∈ p, c = 42
  | [] => by simp [Mat]
  | c :: p => by
    by_cases hc : c = 42
    · subst hc
      rw [Mat_star]
      constructor
      · rintro ⟨s1, s2, h, h2⟩
        obtain ⟨rfl, rfl⟩ : s1 = [] ∧ s2 = [] := by simpa using h.symm
        intro x hx
        rcases List.mem_cons.1 hx with rfl | hx
        · rfl
        · exact (Mat_empty p).1 h2 x hx
      · intro h
        exact ⟨[], [], rfl, (Mat_empty p).2 fun x hx => h x (List.mem_cons_of_mem _ hx)⟩
    · rw [Mat_sign hc]
      constructor
      · rintro ⟨d, t, h, _⟩; cases h
      · intro h; exact absurd (h c List.mem_cons_self) hc

/-- The last sign. -/
theorem Mat_snoc_star (p s : List UInt8) (d : UInt8) : Mat (p ++ [42]) (s ++ [d]) ↔ Mat p (s ++ [d]) ∨ Mat (p ++ [42]) s := by
  rw [Mat_append, Mat_append]
  constructor
  · rintro ⟨s1, s2, h, h1, _⟩
    rcases List.eq_nil_or_concat s2 with rfl | ⟨t, e, rfl⟩
    · rw [List.append_nil] at h
      exact .inl (h ▸ h1)
    · rw [List.concat_eq_append, ← List.append_assoc] at h
      have := List.append_inj' h rfl
      exact .inr ⟨s1, t, this.1, h1, (Mat_one 42 t).2 (.inl rfl)⟩
  · rintro (h | ⟨s1, s2, rfl, h1, _⟩)
    · exact ⟨s ++ [d], [], by simp, h, (Mat_one 42 []).2 (.inl rfl)⟩
    · exact ⟨s1, s2 ++ [d], by simp, h1, (Mat_one 42 _).2 (.inl rfl)⟩
theorem Mat_snoc_sign {c : UInt8} (hc : c ≠ 42) (p s : List UInt8) (d : UInt8) : Mat (p ++ [c]) (s ++ [d]) ↔ Mat p s ∧ (c = 63 ∨ c = d) := by
  rw [Mat_append]
  constructor
  · rintro ⟨s1, s2, h, h1, h2⟩
    rcases (Mat_one c s2).1 h2 with h3 | ⟨e, rfl, h3⟩
    · exact absurd h3 hc
    · have := List.append_inj' h rfl
      obtain ⟨rfl, h5⟩ := this
      cases h5
      exact ⟨h1, h3⟩
  · rintro ⟨h1, h2⟩
    exact ⟨s, [d], rfl, h1, (Mat_one c [d]).2 (.inr ⟨d, rfl, h2⟩)⟩
theorem Mat_nil_pat (s : List UInt8) : Mat [] s ↔ s = [] := Iff.rfl

end Go.Proofs.YtgciocgdppaaiaaDoor.Pure

namespace Go.Proofs.YtgciocgdppaaiaaDoor.Pure

section
variable (L T : List UInt8)

/-- What the walk knows: the star st (where there is one), where what it stands for ends, and the signs taken since. -/
structure Star (st back p i : Nat) : Prop where
  hst : L[st]? = some 42
  whole : Mat L T ↔ Mat (L.drop st) (T.drop back)
  cur : Mat (L.drop (st + 1)) (T.drop back) ↔ Mat (L.drop p) (T.drop i)
  hp : st + 1 ≤ p
  hpl : p ≤ L.length
  hil : i ≤ T.length
  hi : i = back + (p - (st + 1))
  plain : ∀ c ∈ (L.take p).drop (st + 1), c ≠ 42

variable {L T}

theorem star_step {p s : List UInt8} : Mat (42 :: p) s ↔ Mat p s ∨ ∃ d t, s = d :: t ∧ Mat (42 :: p) t := by
  rw [Mat_star]
  constructor
  · rintro ⟨s1, s2, rfl, h⟩
    cases s1 with
    | nil => exact .inl h
    | cons d s1 => exact .inr ⟨d, s1 ++ s2, rfl, (Mat_star p _).2 ⟨s1, s2, rfl, h⟩⟩
  · rintro (h | ⟨d, t, rfl, h⟩)
    · exact ⟨[], s, rfl, h⟩
    · obtain ⟨s1, s2, rfl, h2⟩ := (Mat_star p t).1 h
      exact ⟨d :: s1, s2, rfl, h2⟩

/-- The signs behind the star, and the rest. -/
theorem Star.split {st back p i : Nat} (h : Star L T st back p i) : L.drop (st + 1) = (L.take p).drop (st + 1) ++ L.drop p ∧ ((L.take p).drop (st + 1)).length = i - back := by
  have e : L.take p ++ L.drop p = L := List.take_append_drop p L
  have hl : (L.take p).length = p := by rw [List.length_take]; have := h.hpl; omega
  constructor
  · conv => lhs; rw [← e]
    rw [List.drop_append_of_le_length (by rw [hl]; exact h.hp)]
  · rw [List.length_drop, hl]
    have := h.hi
    omega

/-- Where the star goes back: any later place behaves as one where more is taken. -/
theorem Star.later {st back p i : Nat} (h : Star L T st back p i) {s2 : List UInt8} (h2 : Mat (L.drop (st + 1)) s2) : ∃ u v, s2 = u ++ v ∧ u.length = i - back ∧ Mat (L.drop p) v := by
  obtain ⟨e, hl⟩ := h.split
  rw [e, Mat_append] at h2
  obtain ⟨u, v, rfl, h3, h4⟩ := h2
  exact ⟨u, v, rfl, by rw [Mat_plain_len h.plain h3, hl], h4⟩

/-- Another star. -/
theorem Star.again {st back p i : Nat} (h : Star L T st back p i) (hc : L[p]? = some 42) : Star L T p i (p + 1) i := by
  have hpl := (List.getElem?_eq_some_iff.1 hc).1
  refine ⟨hc, ?_, Iff.rfl, Nat.le_refl _, hpl, h.hil, by omega, ?_⟩
  · rw [h.whole, drop_at h.hst]
    constructor
    · intro h1
      obtain ⟨s1, s2, hs, h2⟩ := (Mat_star _ _).1 h1
      obtain ⟨u, v, rfl, hu, hv⟩ := h.later h2
      rw [drop_at hc] at hv ⊢
      have hT : T.drop i = (T.drop back).drop (i - back) := by rw [List.drop_drop]; congr 1; have := h.hi; omega
      rw [hT, hs, ← List.append_assoc, List.drop_append_of_le_length (by rw [List.length_append]; omega)]
      exact Mat_star_more _ hv
    · intro h1
      exact star_step.2 (.inl (h.cur.2 h1))
  · intro c hcm
    rw [List.drop_of_length_le (by rw [List.length_take]; omega)] at hcm
    cases hcm

theorem star_first {p i : Nat} (whole : Mat L T ↔ Mat (L.drop p) (T.drop i)) (hil : i ≤ T.length) (hc : L[p]? = some 42) : Star L T p i (p + 1) i := by
  have hpl := (List.getElem?_eq_some_iff.1 hc).1
  refine ⟨hc, whole, Iff.rfl, Nat.le_refl _, hpl, hil, by omega, ?_⟩
  intro c hcm
  rw [List.drop_of_length_le (by rw [List.length_take]; omega)] at hcm
  cases hcm

/-- One sign more. -/
theorem Star.sign {st back p i : Nat} (h : Star L T st back p i) {c d : UInt8} (hc : L[p]? = some c) (hd : T[i]? = some d) (h42 : c ≠ 42) (hm : c = 63 ∨ c = d) : Star L T st back (p + 1) (i + 1) := by
  have hpl := (List.getElem?_eq_some_iff.1 hc).1
  have hil := (List.getElem?_eq_some_iff.1 hd).1
  have h1 := h.hp
  have h2 := h.hi
  refine ⟨h.hst, h.whole, ?_, by omega, hpl, hil, by omega, ?_⟩
  · rw [h.cur, drop_at hc, drop_at hd, Mat_sign h42]
    constructor
    · rintro ⟨d', t, he, _, h5⟩
      cases he
      exact h5
    · intro h5
      exact ⟨d, _, rfl, hm, h5⟩
  · intro x hx
    have e : L.take (p + 1) = L.take p ++ [c] := by
      obtain ⟨hl, rfl⟩ := List.getElem?_eq_some_iff.1 hc
      exact List.take_succ_eq_append_getElem hl
    rw [e, List.drop_append_of_le_length (by rw [List.length_take]; omega)] at hx
    rcases List.mem_append.1 hx with hx | hx
    · exact h.plain x hx
    · rw [List.mem_singleton.1 hx]; exact h42

/-- Back to the star. -/
theorem Star.back {st back p i : Nat} (h : Star L T st back p i) (hno : ¬ Mat (L.drop p) (T.drop i)) (hi : i < T.length) : Star L T st (back + 1) (st + 1) (back + 1) := by
  have h1 := h.hp
  have h2 := h.hi
  have h3 := h.hpl
  have hb : back < T.length := by omega
  refine ⟨h.hst, ?_, Iff.rfl, Nat.le_refl _, by omega, by omega, by omega, ?_⟩
  · rw [h.whole, drop_at h.hst, star_step, h.cur, List.drop_eq_getElem_cons hb]
    constructor
    · rintro (h4 | ⟨d, t, he, h5⟩)
      · exact absurd h4 hno
      · cases he; exact h5
    · intro h5
      exact .inr ⟨_, _, rfl, h5⟩
  · intro c hcm
    rw [List.drop_of_length_le (by rw [List.length_take]; omega)] at hcm
    cases hcm

/-- The end of the text. -/
theorem Star.last {st back p i : Nat} (h : Star L T st back p i) (hi : i = T.length) : Mat L T ↔ Mat (L.drop p) [] := by
  have hT : T.drop i = [] := List.drop_of_length_le (by omega)
  have hcur := h.cur
  rw [hT] at hcur
  rw [h.whole, drop_at h.hst]
  constructor
  · intro h1
    obtain ⟨s1, s2, hs, h2⟩ := (Mat_star _ _).1 h1
    obtain ⟨u, v, rfl, hu, hv⟩ := h.later h2
    have hlen := congrArg List.length hs
    rw [List.length_drop, List.length_append, List.length_append, hu] at hlen
    have hv0 : v = [] := List.length_eq_zero_iff.1 (by have := h.hi; omega)
    rw [← hv0]
    exact hv
  · intro h1
    exact star_step.2 (.inl (hcur.2 h1))

end

end Go.Proofs.YtgciocgdppaaiaaDoor.Pure

namespace Go.Proofs.YtgciocgdppaaiaaDoor.Pure
open Go.Proofs.YtgciocgdppaaiaaDoor Go.Proofs.YtgciocgdppaaiaaDoor.P Go.RowKit Go.Proofs.YtgciocgdppaaiaaDoorW.PrintWords

theorem dw_nil (f : UInt8 → Bool) : ∀ l : List UInt8, l.dropWhile f = [] ↔ ∀ x ∈ l, f x = true
  | [] => by simp
  | y :: l => by
    have ih := dw_nil f l
    rw [List.dropWhile_cons]
    by_cases h : f y = true
    · rw [if_pos h, ih]; simp [h]
    · rw [if_neg h]; simp [h]

theorem dw_head (f : UInt8 → Bool) : ∀ (l : List UInt8) (y : UInt8) (ys : List UInt8), l.dropWhile f = y :: ys → f y = false
  | [], _, _, h => by simp at h
  | x :: l, y, ys, h => by
    rw [List.dropWhile_cons] at h
    by_cases hx : f x = true
    · rw [if_pos hx] at h; exact dw_head f l y ys h
    · rw [if_neg hx] at h
      cases h
      simpa using hx

theorem trimB_nil (l : List UInt8) (c : UInt8) : Lib.trimB l c = [] ↔ ∀ x ∈ l, x = c := by
  unfold Lib.trimB Lib.trimLeftB Lib.trimRightB
  rw [dw_nil]
  constructor
  · intro h
    have h0 : l.reverse.dropWhile (· == c) = [] := by
      cases hd : l.reverse.dropWhile (· == c) with
      | nil => rfl
      | cons y ys =>
        have h1 := h y (by rw [List.mem_reverse, hd]; exact List.mem_cons_self)
        have h2 : ¬ (y == c) = true := by rw [dw_head _ _ _ _ hd]; simp
        exact absurd h1 h2
    intro x hx
    have := (dw_nil _ _).1 h0 x (List.mem_reverse.2 hx)
    simpa using this
  · intro h x hx
    have : x ∈ l := List.mem_reverse.1 ((List.dropWhile_sublist _).subset (List.mem_reverse.1 hx))
    simpa using h x this

theorem trim_stars (P : ByteArray) (p : Nat) (hP : P.size ≤ 9223372036854775807) : ∃ t, strings_Trim.f (P.extract p P.size) (⟨#[42]⟩ : ByteArray) = some t ∧ ((t.toList == ([] : List UInt8)) = true ↔ Mat (P.data.toList.drop p) []) := by
  have hs : (P.extract p P.size).size ≤ 9223372036854775807 := by
    rw [Lib.size_eq, Lib.extract_to_end, List.length_drop, ← Lib.size_eq]; omega
  refine ⟨_, by unfold strings_Trim.f; simp only; rw [if_pos ⟨by decide, hs⟩], ?_⟩
  rw [Lib.toList_data, Lib.extract_to_end, Mat_empty, beq_iff_eq]
  exact trimB_nil _ _

section
variable (P S : ByteArray) (hP : P.size ≤ 4611686018427387904) (hS : S.size ≤ 4611686018427387904) (b : Bool) (hb : b = true ↔ Mat P.data.toList S.data.toList)
include hP hS hb

theorem loop_end (st back : Int) (p i : Nat) (hp : p ≤ P.size) (hi : i = S.size) (h : Mat P.data.toList S.data.toList ↔ Mat (P.data.toList.drop p) []) :
    Ev (fun k => name_Match.l0 k P S st back (p : Int) (i : Int)) b := by
  have _u1 := hP
  have _u2 := hS
  have _u3 := hb
  obtain ⟨t, ht, htm⟩ := trim_stars P p (by omega)
  have e : (t.toList == ([] : List UInt8)) = b := by
    rw [Bool.eq_iff_iff, htm, hb, h]
  refine Ev.step (f := fun _ => some b) (fun k => ?_) (Ev.now _)
  simp only [name_Match.l0]
  rw [if_neg (by omega), if_pos (by omega), if_pos (by omega), Int.toNat_natCast, ht, Option.bind_some, e]

theorem step_star (st back : Int) (p i : Nat) (hi : i < S.size) (hc : P.data.toList[p]? = some 42) (r : Ev (fun k => name_Match.l0 k P S (p : Int) (i : Int) ((p + 1 : Nat) : Int) (i : Int)) b) :
    Ev (fun k => name_Match.l0 k P S st back (p : Int) (i : Int)) b := by
  have _u1 := hP
  have _u2 := hS
  have _u3 := hb
  have hpl := (List.getElem?_eq_some_iff.1 hc).1
  rw [← Lib.size_eq] at hpl
  refine Ev.step (f := fun k => name_Match.j1 k P S st back (p : Int) (i : Int) true) (fun k => ?_) (Ev.step (fun k => ?_) r)
  · simp only [name_Match.l0]
    rw [if_pos (by omega), if_pos (by omega), if_pos (by omega), bt_nat P p 42 hc]
    rfl
  · simp only [name_Match.j1, if_true]
    rw [wrap_succ (by omega) (by omega)]
    rfl

theorem step_sign (st back : Int) (p i : Nat) {c d : UInt8} (hc : P.data.toList[p]? = some c) (hd : S.data.toList[i]? = some d) (h42 : c ≠ 42) (hm : c = 63 ∨ c = d) (r : Ev (fun k => name_Match.l0 k P S st back ((p + 1 : Nat) : Int) ((i + 1 : Nat) : Int)) b) :
    Ev (fun k => name_Match.l0 k P S st back (p : Int) (i : Int)) b := by
  have _u1 := hP
  have _u2 := hS
  have _u3 := hb
  have hpl := (List.getElem?_eq_some_iff.1 hc).1
  have hil := (List.getElem?_eq_some_iff.1 hd).1
  rw [← Lib.size_eq] at hpl hil
  have hcf : ((c.toNat : Int) == 42) = false := by rw [beq_eq_false_iff_ne]; exact fun e => h42 ((u8_eq (n := 42) (by omega)).1 e)
  refine Ev.step (f := fun k => name_Match.j1 k P S st back (p : Int) (i : Int) false) (fun k => ?_) (Ev.step (f := fun k => name_Match.j2 k P S st back (p : Int) (i : Int) true) (fun k => ?_) (Ev.step (fun k => ?_) r))
  · simp only [name_Match.l0]
    rw [if_pos (by omega), if_pos (by omega), if_pos (by omega), bt_nat P p c hc, hcf]
  · simp only [name_Match.j1, Bool.false_eq_true, if_false]
    rw [if_pos (by omega), if_pos (by omega), bt_nat P p c hc]
    by_cases h63 : c = 63
    · subst h63
      rfl
    · rw [if_neg (show ¬ ((c.toNat : Int) = 63) from fun e => h63 ((u8_eq (n := 63) (by omega)).1 e)), if_pos (by omega), if_pos (by omega), bt_nat S i d hd]
      obtain rfl := hm.resolve_left h63
      simp
  · simp only [name_Match.j2, if_true]
    rw [wrap_succ (by omega) (by omega), wrap_succ (by omega) (by omega)]
    rfl

/-- No sign fits. -/
theorem step_miss (st back : Int) (p i : Nat) (hi : i < S.size) (hno : P.size ≤ p ∨ ∃ c d, P.data.toList[p]? = some c ∧ S.data.toList[i]? = some d ∧ c ≠ 42 ∧ c ≠ 63 ∧ c ≠ d) (r : Ev (fun k => name_Match.j2 k P S st back (p : Int) (i : Int) false) b) :
    Ev (fun k => name_Match.l0 k P S st back (p : Int) (i : Int)) b := by
  have _u1 := hP
  have _u2 := hS
  have _u3 := hb
  refine Ev.step (f := fun k => name_Match.j1 k P S st back (p : Int) (i : Int) false) (fun k => ?_) (Ev.step (fun k => ?_) r)
  · simp only [name_Match.l0]
    rw [if_pos (by omega)]
    rcases hno with h | ⟨c, d, hc, hd, h42, _⟩
    · rw [if_neg (by omega)]
    · have hpl := (List.getElem?_eq_some_iff.1 hc).1
      rw [← Lib.size_eq] at hpl
      have hcf : ((c.toNat : Int) == 42) = false := by rw [beq_eq_false_iff_ne]; exact fun e => h42 ((u8_eq (n := 42) (by omega)).1 e)
      rw [if_pos (by omega), if_pos (by omega), bt_nat P p c hc, hcf]
  · simp only [name_Match.j1, Bool.false_eq_true, if_false]
    rcases hno with h | ⟨c, d, hc, hd, h42, h63, hne⟩
    · rw [if_neg (by omega)]
    · have hpl := (List.getElem?_eq_some_iff.1 hc).1
      rw [← Lib.size_eq] at hpl
      have hcf : ((c.toNat : Int) == (d.toNat : Int)) = false := by
        rw [beq_eq_false_iff_ne]
        exact fun e => hne (UInt8.toNat_inj.1 (by omega))
      rw [if_pos (by omega), if_pos (by omega), bt_nat P p c hc, if_neg (show ¬ ((c.toNat : Int) = 63) from fun e => h63 ((u8_eq (n := 63) (by omega)).1 e)), if_pos (by omega), if_pos (by omega), bt_nat S i d hd, hcf]

theorem cases_at (p i : Nat) (hi : i < S.size) : P.data.toList[p]? = some 42 ∨ (∃ c d, P.data.toList[p]? = some c ∧ S.data.toList[i]? = some d ∧ c ≠ 42 ∧ (c = 63 ∨ c = d)) ∨ (P.size ≤ p ∨ ∃ c d, P.data.toList[p]? = some c ∧ S.data.toList[i]? = some d ∧ c ≠ 42 ∧ c ≠ 63 ∧ c ≠ d) := by
  have _u1 := hP
  have _u2 := hS
  have _u3 := hb
  obtain ⟨d, hd⟩ := get_some S i hi
  by_cases hp : p < P.size
  · obtain ⟨c, hc⟩ := get_some P p hp
    by_cases h42 : c = 42
    · exact .inl (h42 ▸ hc)
    · by_cases hm : c = 63 ∨ c = d
      · exact .inr (.inl ⟨c, d, hc, hd, h42, hm⟩)
      · exact .inr (.inr (.inr ⟨c, d, hc, hd, h42, fun e => hm (.inl e), fun e => hm (.inr e)⟩))
  · exact .inr (.inr (.inl (by omega)))

theorem miss_no (p i : Nat) (hi : i < S.size) (hno : P.size ≤ p ∨ ∃ c d, P.data.toList[p]? = some c ∧ S.data.toList[i]? = some d ∧ c ≠ 42 ∧ c ≠ 63 ∧ c ≠ d) : ¬ Mat (P.data.toList.drop p) (S.data.toList.drop i) := by
  have _u1 := hP
  have _u2 := hS
  have _u3 := hb
  obtain ⟨d', hd'⟩ := get_some S i hi
  intro h
  rcases hno with hp | ⟨c, d, hc, hd, h42, h63, hne⟩
  · rw [List.drop_of_length_le (by rw [← Lib.size_eq]; exact hp), drop_at hd'] at h
    cases h
  · rw [drop_at hc, drop_at hd, Mat_sign h42] at h
    obtain ⟨e, t, he, h1, _⟩ := h
    cases he
    rcases h1 with h1 | h1
    · exact h63 h1
    · exact hne h1

theorem loopS (st back p i : Nat) (h : Star P.data.toList S.data.toList st back p i) : Ev (fun k => name_Match.l0 k P S (st : Int) (back : Int) (p : Int) (i : Int)) b := by
  have hpl := h.hpl
  have hil := h.hil
  have h1 := h.hp
  have h2 := h.hi
  rw [← Lib.size_eq] at hpl hil
  by_cases hi : i < S.size
  · rcases cases_at P S hP hS b hb p i hi with hc | ⟨c, d, hc, hd, h42, hm⟩ | hno
    · have hpl := (List.getElem?_eq_some_iff.1 hc).1
      rw [← Lib.size_eq] at hpl
      exact step_star P S hP hS b hb _ _ p i hi hc (loopS p i (p + 1) i (h.again hc))
    · exact step_sign P S hP hS b hb _ _ p i hc hd h42 hm (loopS st back (p + 1) (i + 1) (h.sign hc hd h42 hm))
    · have H := loopS st (back + 1) (st + 1) (back + 1) (h.back (miss_no P S hP hS b hb p i hi hno) (by rw [← Lib.size_eq]; exact hi))
      refine step_miss P S hP hS b hb _ _ p i hi hno (Ev.step (fun k => ?_) H)
      simp only [name_Match.j2, Bool.false_eq_true, if_false]
      rw [if_pos (by omega), wrap_succ (by omega) (by omega), wrap_succ (by omega) (by omega)]
      rfl
  · exact loop_end P S hP hS b hb _ _ p i hpl (by omega) (h.last (by rw [← Lib.size_eq]; omega))
termination_by (P.size - st, S.size + 1 - back, S.size - i)
decreasing_by
  · have g := (List.getElem?_eq_some_iff.1 hc).1
    rw [← Lib.size_eq] at g
    exact Prod.Lex.left _ _ (by omega)
  · exact Prod.Lex.right _ (Prod.Lex.right _ (by omega))
  · exact Prod.Lex.right _ (Prod.Lex.left _ _ (by omega))

theorem loopN (p i : Nat) (hpl : p ≤ P.size) (hil : i ≤ S.size) (h : Mat P.data.toList S.data.toList ↔ Mat (P.data.toList.drop p) (S.data.toList.drop i)) : Ev (fun k => name_Match.l0 k P S (-1) 0 (p : Int) (i : Int)) b := by
  by_cases hi : i < S.size
  · rcases cases_at P S hP hS b hb p i hi with hc | ⟨c, d, hc, hd, h42, hm⟩ | hno
    · exact step_star P S hP hS b hb _ _ p i hi hc (loopS P S hP hS b hb p i (p + 1) i (star_first h (by rw [← Lib.size_eq]; exact hil) hc))
    · have hpl2 := (List.getElem?_eq_some_iff.1 hc).1
      rw [← Lib.size_eq] at hpl2
      refine step_sign P S hP hS b hb _ _ p i hc hd h42 hm (loopN (p + 1) (i + 1) hpl2 hi ?_)
      rw [h, drop_at hc, drop_at hd, Mat_sign h42]
      constructor
      · rintro ⟨d', t, he, _, h5⟩
        cases he
        exact h5
      · intro h5
        exact ⟨d, _, rfl, hm, h5⟩
    · have hf : b = false := by
        have := mt hb.1 (fun g => miss_no P S hP hS b hb p i hi hno (h.1 g))
        simpa using this
      refine step_miss P S hP hS b hb _ _ p i hi hno (Ev.step (f := fun _ => some b) (fun k => ?_) (Ev.now _))
      simp only [name_Match.j2, Bool.false_eq_true, if_false]
      rw [if_neg (by omega), hf]
  · refine loop_end P S hP hS b hb _ _ p i hpl (by omega) ?_
    rw [h, List.drop_of_length_le (by rw [← Lib.size_eq]; omega : S.data.toList.length ≤ i)]
termination_by S.size - i
end

end Go.Proofs.YtgciocgdppaaiaaDoor.Pure
