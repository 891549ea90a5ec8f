/- The pure law of NameDigits: both orders are one by the tokens of the names, then by their bytes. -/
import Derived.Test.YtgciocgdppaaiaaDoorS0
import Derived.Test.YtgciocgdppaaiaaDoorPxSignetlaw13NameDigits
namespace Go.Proofs.YtgciocgdppaaiaaDoor.Pure
open Go.Proofs.YtgciocgdppaaiaaDoor Go.Proofs.YtgciocgdppaaiaaDoor.P Go.RowKit Go.Proofs.YtgciocgdppaaiaaDoorW.PrintWords

/-- How many digits a text begins with. -/
def digN (l : List UInt8) : Nat := (l.takeWhile dig).length
theorem digN_take (l : List UInt8) : l.take (digN l) = l.takeWhile dig := by
  have h := List.takeWhile_append_dropWhile (p := dig) (l := l)
  have h2 := List.take_left' (l₁ := l.takeWhile dig) (l₂ := l.dropWhile dig) rfl
  rw [h] at h2
  exact h2
theorem digN_drop (l : List UInt8) : l.drop (digN l) = l.dropWhile dig := by
  have h := List.takeWhile_append_dropWhile (p := dig) (l := l)
  have h2 := List.drop_left' (l₁ := l.takeWhile dig) (l₂ := l.dropWhile dig) rfl
  rw [h] at h2
  exact h2
theorem digN_le (l : List UInt8) : digN l ≤ l.length := by
  have h := congrArg List.length (List.takeWhile_append_dropWhile (p := dig) (l := l))
  rw [List.length_append] at h
  unfold digN
  omega
theorem tw_all (f : UInt8 → Bool) : ∀ (l : List UInt8) (i : Nat) (c : UInt8), (l.takeWhile f)[i]? = some c → f c = true
  | [], i, c, h => by simp at h
  | x :: l, i, c, h => by
    rw [List.takeWhile_cons] at h
    split at h
    · next hx =>
      cases i with
      | zero => simp at h; subst h; exact hx
      | succ i => simp at h; exact tw_all f l i c h
    · simp at h
theorem dw_head (f : UInt8 → Bool) : ∀ (l : List UInt8) (y : UInt8) (ys : List UInt8), l.dropWhile f = y :: ys → f y = false
  | [], _, _, h => by simp at h
  | x :: l, y, ys, h => by
    rw [List.dropWhile_cons] at h
    split at h
    · exact dw_head f l y ys h
    · next hx =>
      obtain ⟨rfl, _⟩ := List.cons.inj h
      simpa using hx
theorem digN_lt {l : List UInt8} {i : Nat} (h : i < digN l) : ∃ c, l[i]? = some c ∧ dig c = true := by
  have hi : i < (l.takeWhile dig).length := h
  refine ⟨(l.takeWhile dig)[i], ?_, tw_all dig l i _ (List.getElem?_eq_getElem hi)⟩
  rw [← List.getElem?_eq_getElem hi, ← digN_take, List.getElem?_take, if_pos h]
theorem digN_at {l : List UInt8} {c : UInt8} (h : l[digN l]? = some c) : dig c = false := by
  have h2 := drop_at h
  rw [digN_drop] at h2
  exact dw_head dig l _ _ h2
theorem digN_zero {c : UInt8} (l : List UInt8) (h : dig c = false) : digN (c :: l) = 0 := by
  unfold digN
  rw [List.takeWhile_cons, h]
  rfl
theorem digN_pos {c : UInt8} (l : List UInt8) (h : dig c = true) : 0 < digN (c :: l) := by
  unfold digN
  rw [List.takeWhile_cons, h]
  simp

theorem dig_true {c : UInt8} (h : dig c = true) : (48 : Int) ≤ (c.toNat : Int) ∧ (c.toNat : Int) ≤ 57 := by
  unfold dig at h
  simp at h
  omega
theorem dig_false {c : UInt8} (h : dig c = false) : (c.toNat : Int) < 48 ∨ 57 < (c.toNat : Int) := by
  unfold dig at h
  simp at h
  omega

/-- The stretch of digits at the front. -/
theorem stretch_loop (x : ByteArray) (hx : x.size ≤ 9223372036854775807) (d : Nat) : ∀ i : Nat, i + d = digN x.data.toList →
    Ev (fun k => name_stretch.l0 k x (i : Int)) (x.extract 0 (digN x.data.toList)) := by
  have hle := digN_le x.data.toList
  rw [← Lib.size_eq] at hle
  induction d with
  | zero =>
    intro i hi
    obtain rfl : i = digN x.data.toList := by omega
    refine Ev.step (f := fun _ => some _) (fun k => ?_) (Ev.now _)
    simp only [name_stretch.l0]
    by_cases h : digN x.data.toList < x.size
    · obtain ⟨c, hc⟩ := get_some x _ h
      have hb := bt_nat x _ c hc
      rw [if_pos (by omega), if_pos (by omega), hb]
      rcases dig_false (digN_at hc) with g | g
      · rw [if_neg (by omega), if_pos (by omega)]; rfl
      · rw [if_pos (by omega), if_neg (by omega), if_pos (by omega)]; rfl
    · rw [if_neg (by omega), if_pos (by omega), if_pos (by omega)]; rfl
  | succ d ih =>
    intro i hi
    obtain ⟨c, hc, hd⟩ := digN_lt (l := x.data.toList) (i := i) (by omega)
    have hb := bt_nat x i c hc
    have hg := dig_true hd
    refine Ev.step (fun k => ?_) (ih (i + 1) (by omega))
    simp only [name_stretch.l0]
    rw [if_pos (by omega), if_pos (by omega), hb, if_pos (by omega), if_pos (by omega), wrap_succ (by omega) (by omega)]
    rfl
theorem stretch_ev (x : ByteArray) (hx : x.size ≤ 9223372036854775807) : Ev (fun k => name_stretch.f k x) (x.extract 0 (digN x.data.toList)) := stretch_loop x hx _ 0 (Nat.zero_add _)
theorem stretch_data (x : ByteArray) : (x.extract 0 (digN x.data.toList)).data.toList = x.data.toList.takeWhile dig := by
  rw [Lib.extract_data, Nat.sub_zero, List.drop_zero, digN_take]
theorem stretch_size (x : ByteArray) : (x.extract 0 (digN x.data.toList)).size = digN x.data.toList := by
  rw [Lib.size_eq, stretch_data]; rfl

theorem or_ev (a b : Int) : Ev (fun k => cmp_Or_int.f k [a, b]) (orC a b) := by
  refine ⟨3, fun k hk => ?_⟩
  obtain ⟨k, rfl⟩ : ∃ m, k = m + 3 := ⟨k - 3, by omega⟩
  have r0 : rd [a, b] 0 = a := rfl
  have r1 : rd [a, b] 1 = b := rfl
  have e0 : wrap64 (0 + 1) = 1 := by unfold wrap64; omega
  have e1 : wrap64 (1 + 1) = 2 := by unfold wrap64; omega
  unfold cmp_Or_int.f orC
  simp only [cmp_Or_int.l0, List.length_cons, List.length_nil, r0, r1, e0, e1]
  by_cases ha : a = 0
  · by_cases hb : b = 0
    · simp [ha, hb]
    · simp [ha, hb]
  · simp [ha]

theorem cmpInt_f (a b : Nat) : cmp_Compare_int.f (a : Int) (b : Int) = some (natC a b) := by
  unfold cmp_Compare_int.f cmp_isNaN_int.f natC
  simp only [bne_self_eq_false, Option.bind_some, Bool.false_eq_true, if_false]
  by_cases h : a < b
  · rw [if_pos (by omega), if_pos h]
  · rw [if_neg (by omega), if_neg h]
    by_cases h2 : b < a
    · rw [if_pos (by omega), if_pos h2]
    · rw [if_neg (by omega), if_neg h2]
theorem cmpByte_f (a b : UInt8) : cmp_Compare_byte.f (a.toNat : Int) (b.toNat : Int) = some (u8C a b) := by
  unfold cmp_Compare_byte.f cmp_isNaN_byte.f
  rw [u8C_nat]
  unfold natC
  simp only [bne_self_eq_false, Option.bind_some, Bool.false_eq_true, if_false]
  by_cases h : a.toNat < b.toNat
  · rw [if_pos (by omega), if_pos h]
  · rw [if_neg (by omega), if_neg h]
    by_cases h2 : b.toNat < a.toNat
    · rw [if_pos (by omega), if_pos h2]
    · rw [if_neg (by omega), if_neg h2]

theorem compareBytes_cB : ∀ a b : List UInt8, Lib.compareBytes a b = cB a b
  | [], [] => rfl
  | [], _ :: _ => rfl
  | _ :: _, [] => rfl
  | x :: a, y :: b => by
    have ih := compareBytes_cB a b
    rw [cB_lex] at ih ⊢
    rw [Lib.compareBytes, lexC, ← ih]
    unfold orC u8C
    split
    · rfl
    · split <;> rfl

theorem numbers_ev (x y : ByteArray) : Ev (fun k => name_numbers.f k x y) (numC (bareL x.data.toList) (bareL y.data.toList)) := by
  have h1 : strings_TrimLeft.f x (⟨#[48]⟩ : ByteArray) = some (ofL (bareL x.data.toList)) := by
    unfold strings_TrimLeft.f
    simp only
    rw [if_pos (by decide)]
    rfl
  have h2 : strings_TrimLeft.f y (⟨#[48]⟩ : ByteArray) = some (ofL (bareL y.data.toList)) := by
    unfold strings_TrimLeft.f
    simp only
    rw [if_pos (by decide)]
    rfl
  unfold name_numbers.f strings_Compare.f
  simp only [h1, h2, Option.bind_some, cmpInt_f, compareBytes_cB, data_ofL, size_ofL]
  exact Ev.bind (or_ev _ _) (Ev.now _)

/-- What the order says of what is left of two names. -/
def restC (l m : List UInt8) (t : Int) : Int := orC (lexC tokC (tokens l) (tokens m)) t
theorem digA_rest (a b : List UInt8) : digA a b = restC a b (cB a b) := rfl
theorem tokens_nil : tokens [] = [] := by rw [tokens]
theorem tokens_ne (c : UInt8) (l : List UInt8) : ∃ t ts, tokens (c :: l) = t :: ts := by
  cases h : dig c
  · exact ⟨_, _, tokens_ch l h⟩
  · exact ⟨_, _, tokens_num l h⟩
theorem rest_end (l m : List UInt8) (t : Int) (h : l = [] ∨ m = []) : restC l m t = orC (natC l.length m.length) t := by
  unfold restC
  rcases h with rfl | rfl
  · cases m with
    | nil => rw [tokens_nil]; rfl
    | cons d m =>
      obtain ⟨u, us, hu⟩ := tokens_ne d m
      rw [hu, tokens_nil]
      rfl
  · cases l with
    | nil => rw [tokens_nil]; rfl
    | cons c l =>
      obtain ⟨u, us, hu⟩ := tokens_ne c l
      rw [hu, tokens_nil]
      rfl
theorem rest_sign {c d : UInt8} (l m : List UInt8) (t : Int) (h : dig c = false ∨ dig d = false) : restC (c :: l) (d :: m) t = if c = d then restC l m t else u8C c d := by
  unfold restC
  by_cases he : c = d
  · subst he
    have hc : dig c = false := by rcases h with h | h <;> exact h
    rw [if_pos rfl, tokens_ch l hc, tokens_ch m hc, lexC]
    show orC (orC (u8C c c) _) t = _
    rw [u8C_ordered.self c]
    rfl
  · have hz : u8C c d ≠ 0 := fun g => he (u8C_zero.1 g)
    rw [if_neg he]
    have key : ∀ u us v vs, tokens (c :: l) = u :: us → tokens (d :: m) = v :: vs → tokC u v = u8C c d → orC (lexC tokC (tokens (c :: l)) (tokens (d :: m))) t = u8C c d := by
      intro u us v vs h1 h2 h3
      rw [h1, h2, lexC, h3]
      unfold orC
      rw [if_neg hz, if_neg hz]
    cases hc : dig c with
    | false =>
      cases hd : dig d with
      | false => exact key _ _ _ _ (tokens_ch l hc) (tokens_ch m hd) rfl
      | true =>
        refine key _ _ _ _ (tokens_ch l hc) (tokens_num m hd) ?_
        have g1 := dig_false hc
        have g2 := dig_true hd
        rw [u8C_nat]
        unfold natC
        show (if c.toNat < 48 then (-1 : Int) else 1) = _
        split
        · rw [if_pos (by omega)]
        · rw [if_neg (by omega), if_pos (by omega)]
    | true =>
      have hd : dig d = false := by rcases h with h | h; rw [hc] at h; cases h; exact h
      refine key _ _ _ _ (tokens_num l hc) (tokens_ch m hd) ?_
      have g1 := dig_true hc
      have g2 := dig_false hd
      rw [u8C_nat]
      unfold natC
      show (if d.toNat < 48 then (1 : Int) else -1) = _
      split
      · rw [if_neg (by omega), if_pos (by omega)]
      · rw [if_pos (by omega)]
theorem rest_num {c d : UInt8} (l m : List UInt8) (t : Int) (hc : dig c = true) (hd : dig d = true) : restC (c :: l) (d :: m) t =
    orC (numC (bareL ((c :: l).takeWhile dig)) (bareL ((d :: m).takeWhile dig))) (restC ((c :: l).dropWhile dig) ((d :: m).dropWhile dig) t) := by
  unfold restC
  rw [tokens_num l hc, tokens_num m hd, lexC]
  show orC (orC (numC _ _) _) t = _
  unfold orC
  by_cases h : numC (bareL ((c :: l).takeWhile dig)) (bareL ((d :: m).takeWhile dig)) = 0
  · rw [if_pos h, if_pos h]
  · rw [if_neg h, if_neg h, if_neg h]

theorem cons_of (s : ByteArray) (h : 0 < s.size) : ∃ c l, s.data.toList = c :: l := by
  cases hl : s.data.toList with
  | nil => rw [Lib.size_eq, hl] at h; exact absurd h (by simp)
  | cons c l => exact ⟨c, l, rfl⟩

/-- The program's order. -/
theorem digits_loop (a b : ByteArray) : ∀ (n : Nat) (x y : ByteArray), x.size + y.size ≤ n → x.size ≤ 9223372036854775807 → y.size ≤ 9223372036854775807 →
    Ev (fun k => name_Digits.l0 k a b x y) (restC x.data.toList y.data.toList (cB a.data.toList b.data.toList)) := by
  intro n
  induction n with
  | zero =>
    intro x y hn hx hy
    have hx0 : x.data.toList = [] := List.length_eq_zero_iff.1 (by rw [← Lib.size_eq]; omega)
    rw [rest_end _ _ _ (.inl hx0), ← Lib.size_eq, ← Lib.size_eq]
    refine Ev.step (f := fun k => name_Digits.j1 k a b x y false) (fun k => ?_) (Ev.step (f := fun k => (cmp_Or_int.f k [natC x.size y.size, cB a.data.toList b.data.toList]).bind fun t => some t) (fun k => ?_) (Ev.bind (or_ev _ _) (Ev.now _)))
    · simp only [name_Digits.l0]
      rw [if_pos ((nil_iff x).2 hx0)]
    · simp only [name_Digits.j1, name_Compare.f, strings_Compare.f, cmpInt_f, compareBytes_cB, Option.bind_some, Bool.false_eq_true, if_false]
  | succ n ih =>
    intro x y hn hx hy
    by_cases he : x.data.toList = [] ∨ y.data.toList = []
    · rw [rest_end _ _ _ he, ← Lib.size_eq, ← Lib.size_eq]
      refine Ev.step (f := fun k => name_Digits.j1 k a b x y false) (fun k => ?_) (Ev.step (f := fun k => (cmp_Or_int.f k [natC x.size y.size, cB a.data.toList b.data.toList]).bind fun t => some t) (fun k => ?_) (Ev.bind (or_ev _ _) (Ev.now _)))
      · simp only [name_Digits.l0]
        by_cases hx0 : x.data.toList = []
        · rw [if_pos ((nil_iff x).2 hx0)]
        · have hy0 := he.resolve_left hx0
          rw [if_neg (fun g => hx0 ((nil_iff x).1 g)), (nil_iff y).2 hy0]
          rfl
      · simp only [name_Digits.j1, name_Compare.f, strings_Compare.f, cmpInt_f, compareBytes_cB, Option.bind_some, Bool.false_eq_true, if_false]
    · have hxn : x.data.toList ≠ [] := fun g => he (.inl g)
      have hyn : y.data.toList ≠ [] := fun g => he (.inr g)
      have hx1 : 0 < x.size := by rw [Lib.size_eq]; exact List.length_pos_iff.2 hxn
      have hy1 : 0 < y.size := by rw [Lib.size_eq]; exact List.length_pos_iff.2 hyn
      obtain ⟨c, l, hcl⟩ := cons_of x hx1
      obtain ⟨d, m, hdm⟩ := cons_of y hy1
      have hbx : bt x 0 = (c.toNat : Int) := bt_nat x 0 c (by rw [hcl]; rfl)
      have hby : bt y 0 = (d.toNat : Int) := bt_nat y 0 d (by rw [hdm]; rfl)
      have hsx := stretch_size x
      have hsy := stretch_size y
      have hdx := stretch_data x
      have hdy := stretch_data y
      have hlx := digN_le x.data.toList
      have hly := digN_le y.data.toList
      rw [← Lib.size_eq] at hlx hly
      -- both stretches
      have start : ∀ r, Ev (fun k => if (x.extract 0 (digN x.data.toList)).toList = ([] : List UInt8) then (name_Digits.j2 k a b x y (x.extract 0 (digN x.data.toList)) (y.extract 0 (digN y.data.toList)) true) else (name_Digits.j2 k a b x y (x.extract 0 (digN x.data.toList)) (y.extract 0 (digN y.data.toList)) ((y.extract 0 (digN y.data.toList)).toList == ([] : List UInt8)))) r → Ev (fun k => name_Digits.l0 k a b x y) r := by
        intro r hr
        refine Ev.step (f := fun k => name_Digits.j1 k a b x y true) (fun k => ?_) (Ev.step (f := fun k => (name_stretch.f k x).bind fun t121 => ((name_stretch.f k y).bind fun t122 => (if t121.toList = ([] : List UInt8) then (name_Digits.j2 k a b x y t121 t122 true) else (name_Digits.j2 k a b x y t121 t122 (t122.toList == ([] : List UInt8)))))) (fun k => ?_) (Ev.bind (stretch_ev x hx) (Ev.bind (stretch_ev y hy) hr)))
        · simp only [name_Digits.l0]
          rw [if_neg (fun g => hxn ((nil_iff x).1 g))]
          have : (y.toList != ([] : List UInt8)) = true := bne_iff_ne.2 (fun g => hyn ((nil_iff y).1 g))
          rw [this]
        · simp only [name_Digits.j1, if_true]
      refine start _ ?_
      by_cases hdig : dig c = false ∨ dig d = false
      · -- one of them is no digit
        have H : Ev (fun k => name_Digits.j2 k a b x y (x.extract 0 (digN x.data.toList)) (y.extract 0 (digN y.data.toList)) true) (restC x.data.toList y.data.toList (cB a.data.toList b.data.toList)) := by
          rw [hcl, hdm, rest_sign l m _ hdig]
          by_cases hcd : c = d
          · rw [if_pos hcd]
            have hr := ih (x.extract 1 x.size) (y.extract 1 y.size) (by rw [size_drop, size_drop]; omega) (by rw [size_drop]; omega) (by rw [size_drop]; omega)
            rw [ext_drop, ext_drop, hcl, hdm] at hr
            refine Ev.step (fun k => ?_) hr
            simp only [name_Digits.j2, if_true, hbx, hby, cmpByte_f, Option.bind_some]
            rw [if_pos (by omega), if_pos (by omega), if_pos (u8C_zero.2 hcd), if_pos (by omega), if_pos (by omega)]
          · rw [if_neg hcd]
            refine Ev.step (f := fun _ => some _) (fun k => ?_) (Ev.now _)
            simp only [name_Digits.j2, if_true, hbx, hby, cmpByte_f, Option.bind_some]
            rw [if_pos (by omega), if_pos (by omega), if_neg (fun g => hcd (u8C_zero.1 g))]
        refine Ev.congr (fun k => ?_) H
        by_cases hc : dig c = true
        · have hd : dig d = false := by rcases hdig with g | g; rw [hc] at g; cases g; exact g
          have h2 : (y.extract 0 (digN y.data.toList)).toList = [] := by rw [nil_iff, hdy, hdm, List.takeWhile_cons, hd]; rfl
          have h1 : (x.extract 0 (digN x.data.toList)).toList ≠ [] := by rw [ne_eq, nil_iff, hdx, hcl, List.takeWhile_cons, hc]; simp
          rw [if_neg h1, h2]
          rfl
        · have h1 : (x.extract 0 (digN x.data.toList)).toList = [] := by rw [nil_iff, hdx, hcl, List.takeWhile_cons, if_neg hc]
          rw [if_pos h1]
      · -- two numbers
        have hc : dig c = true := by cases h : dig c; exact absurd (.inl h) hdig; rfl
        have hd : dig d = true := by cases h : dig d; exact absurd (.inr h) hdig; rfl
        have h1 : (x.extract 0 (digN x.data.toList)).toList ≠ [] := by rw [ne_eq, nil_iff, hdx, hcl, List.takeWhile_cons, hc]; simp
        have h2 : (y.extract 0 (digN y.data.toList)).toList ≠ [] := by rw [ne_eq, nil_iff, hdy, hdm, List.takeWhile_cons, hd]; simp
        have hp1 : 0 < digN x.data.toList := by rw [hcl]; exact digN_pos l hc
        have hp2 : 0 < digN y.data.toList := by rw [hdm]; exact digN_pos m hd
        have hn2 := numbers_ev (x.extract 0 (digN x.data.toList)) (y.extract 0 (digN y.data.toList))
        rw [hdx, hdy] at hn2
        have hr := ih (x.extract (digN x.data.toList) x.size) (y.extract (digN y.data.toList) y.size) (by rw [size_drop, size_drop]; omega) (by rw [size_drop]; omega) (by rw [size_drop]; omega)
        rw [ext_drop, ext_drop, digN_drop, digN_drop] at hr
        have H : Ev (fun k => name_Digits.j2 k a b x y (x.extract 0 (digN x.data.toList)) (y.extract 0 (digN y.data.toList)) false) (restC x.data.toList y.data.toList (cB a.data.toList b.data.toList)) := by
          have e := rest_num l m (cB a.data.toList b.data.toList) hc hd
          rw [← hcl, ← hdm] at e
          rw [e]
          refine Ev.step (f := fun k => (name_numbers.f k (x.extract 0 (digN x.data.toList)) (y.extract 0 (digN y.data.toList))).bind fun t124 => (if t124 = 0 then (name_Digits.l0 k a b (x.extract (digN x.data.toList) x.size) (y.extract (digN y.data.toList) y.size)) else (some t124))) (fun k => ?_) (Ev.bind hn2 ?_)
          · simp only [name_Digits.j2, Bool.false_eq_true, if_false, hsx, hsy]
            congr 1
            funext t
            by_cases ht : t = 0
            · rw [if_pos ht, if_pos ht, if_pos (by omega), if_pos (by omega), if_pos (by omega), if_pos (by omega)]
              rfl
            · rw [if_neg ht, if_neg ht]
          · unfold orC
            by_cases ht : numC (bareL (x.data.toList.takeWhile dig)) (bareL (y.data.toList.takeWhile dig)) = 0
            · simp only [if_pos ht]
              exact hr
            · simp only [if_neg ht]
              exact Ev.now _
        refine Ev.congr (fun k => ?_) H
        rw [if_neg h1, beq_eq_false_iff_ne.2 h2]

theorem digits_ev (a b : ByteArray) (ha : a.size ≤ 9223372036854775807) (hb : b.size ≤ 9223372036854775807) : Ev (fun k => name_Digits.f k a b) (digA a.data.toList b.data.toList) :=
  digits_loop a b _ a b (Nat.le_refl _) ha hb

theorem wrap_add (i j : Nat) (h : i + j ≤ 1000000000000000) : wrap64 ((i : Int) + (j : Int)) = ((i + j : Nat) : Int) := by unfold wrap64; omega
theorem natC_lt {a b : Nat} (h : a < b) : natC a b = -1 := by unfold natC; rw [if_pos h]
theorem natC_gt {a b : Nat} (h : b < a) : natC a b = 1 := by unfold natC; rw [if_neg (by omega), if_pos h]
theorem numC_or (X Y : List UInt8) : numC X Y = orC (natC X.length Y.length) (cB X Y) := rfl
theorem orC_zero (t : Int) : orC 0 t = t := rfl
theorem orC_neg (t : Int) : orC (-1) t = -1 := rfl
theorem orC_one (t : Int) : orC 1 t = 1 := rfl

/-- The document's Compare. -/
theorem refCompare_loop (a b : ByteArray) (ha : a.size ≤ 9223372036854775806) (d : Nat) : ∀ i : Nat, i + d = a.size → i ≤ b.size →
    Ev (fun k => signetref13_Compare.l0 k a b (i : Int)) (lexC u8C (a.data.toList.drop i) (b.data.toList.drop i)) := by
  have hza := Lib.size_eq a
  have hzb := Lib.size_eq b
  have fin : ∀ i : Nat, i ≤ a.size → i ≤ b.size → (i = a.size ∨ i = b.size) → Ev (fun k => signetref13_Compare.j1 k a b (i : Int) false) (lexC u8C (a.data.toList.drop i) (b.data.toList.drop i)) := by
    intro i h1 h2 h3
    refine Ev.step (f := fun _ => some (lexC u8C (a.data.toList.drop i) (b.data.toList.drop i))) (fun k => ?_) (Ev.now _)
    simp only [signetref13_Compare.j1, Bool.false_eq_true, if_false]
    by_cases hA : i = a.size
    · rw [List.drop_of_length_le (by omega : a.data.toList.length ≤ i)]
      by_cases hB : i = b.size
      · rw [List.drop_of_length_le (by omega : b.data.toList.length ≤ i), if_neg (by omega), if_neg (by omega)]
        rfl
      · obtain ⟨x, hx⟩ := get_some b i (by omega)
        rw [drop_at hx, if_pos (by omega)]
        rfl
    · have hB : i = b.size := h3.resolve_left hA
      obtain ⟨x, hx⟩ := get_some a i (by omega)
      rw [drop_at hx, List.drop_of_length_le (by omega : b.data.toList.length ≤ i), if_neg (by omega), if_pos (by omega)]
      rfl
  induction d with
  | zero =>
    intro i hi hb
    refine Ev.step (fun k => ?_) (fin i (by omega) hb (.inl (by omega)))
    simp only [signetref13_Compare.l0]
    rw [if_neg (by omega)]
  | succ d ih =>
    intro i hi hb
    by_cases hB : i = b.size
    · refine Ev.step (fun k => ?_) (fin i (by omega) hb (.inr hB))
      simp only [signetref13_Compare.l0]
      rw [if_pos (by omega), decide_eq_false (by omega)]
    · obtain ⟨x, hx⟩ := get_some a i (by omega)
      obtain ⟨y, hy⟩ := get_some b i (by omega)
      have e1 := bt_nat a i x hx
      have e2 := bt_nat b i y hy
      have hr := ih (i + 1) (by omega) (by omega)
      rw [drop_at hx, drop_at hy, lexC]
      refine Ev.step (f := fun k => signetref13_Compare.j1 k a b (i : Int) true) (fun k => ?_) ?_
      · simp only [signetref13_Compare.l0]
        rw [if_pos (by omega), decide_eq_true (by omega)]
      · unfold orC
        rw [u8C_nat]
        unfold natC
        by_cases g1 : x.toNat < y.toNat
        · rw [if_pos g1, if_neg (by decide)]
          refine Ev.step (f := fun _ => some _) (fun k => ?_) (Ev.now _)
          simp only [signetref13_Compare.j1, if_true, e1, e2]
          rw [if_pos (by omega), if_pos (by omega), if_pos (by omega), if_pos (by omega)]
        · rw [if_neg g1]
          by_cases g2 : y.toNat < x.toNat
          · rw [if_pos g2, if_neg (by decide)]
            refine Ev.step (f := fun _ => some _) (fun k => ?_) (Ev.now _)
            simp only [signetref13_Compare.j1, if_true, e1, e2]
            rw [if_pos (by omega), if_pos (by omega), if_pos (by omega), if_neg (by omega), if_pos (by omega)]
          · rw [if_neg g2, if_pos rfl]
            refine Ev.step (fun k => ?_) hr
            simp only [signetref13_Compare.j1, if_true, e1, e2]
            rw [if_pos (by omega), if_pos (by omega), if_pos (by omega), if_neg (by omega), if_neg (by omega), wrap_succ (by omega) (by omega)]
            rfl
theorem refCompare_ev (a b : ByteArray) (ha : a.size ≤ 9223372036854775806) : Ev (fun k => signetref13_Compare.f k a b) (cB a.data.toList b.data.toList) := by
  rw [cB_lex]
  exact refCompare_loop a b ha a.size 0 (Nat.zero_add _) (Nat.zero_le _)

theorem bare_loop : ∀ (n : Nat) (x : ByteArray), x.size ≤ n → Ev (fun k => signetref13_bare.l0 k x) (ofL (bareL x.data.toList)) := by
  intro n
  induction n with
  | zero =>
    intro x hx
    have h0 : x.data.toList = [] := List.length_eq_zero_iff.1 (by rw [← Lib.size_eq]; omega)
    refine Ev.step (f := fun _ => some _) (fun k => ?_) (Ev.now _)
    simp only [signetref13_bare.l0]
    rw [if_neg (by omega)]
    congr 1
    exact ba_ext (by rw [data_ofL, h0]; rfl)
  | succ n ih =>
    intro x hx
    by_cases hp : 0 < x.size
    · obtain ⟨c, l, hcl⟩ := cons_of x hp
      have hb : bt x 0 = (c.toNat : Int) := bt_nat x 0 c (by rw [hcl]; rfl)
      have h48 : (c.toNat : Int) = 48 ↔ c = 48 := ⟨fun h => UInt8.toNat_inj.1 (by show c.toNat = 48; omega), fun h => by rw [h]; rfl⟩
      by_cases hc : c = 48
      · have hr := ih (x.extract 1 x.size) (by rw [size_drop]; omega)
        rw [ext_drop, hcl] at hr
        have e : bareL x.data.toList = bareL (List.drop 1 (c :: l)) := by
          rw [hcl]
          unfold bareL
          rw [List.dropWhile_cons, if_pos (by rw [hc]; rfl)]
          rfl
        rw [e]
        refine Ev.step (fun k => ?_) hr
        simp only [signetref13_bare.l0, hb]
        rw [if_pos (by omega), if_pos (by omega), if_pos (h48.2 hc), if_pos (by omega)]
      · refine Ev.step (f := fun _ => some _) (fun k => ?_) (Ev.now _)
        simp only [signetref13_bare.l0, hb]
        rw [if_pos (by omega), if_pos (by omega), if_neg (fun g => hc (h48.1 g))]
        congr 1
        refine ba_ext ?_
        rw [data_ofL, hcl]
        unfold bareL
        rw [List.dropWhile_cons, if_neg (by simpa using hc)]
    · have h0 : x.data.toList = [] := List.length_eq_zero_iff.1 (by rw [← Lib.size_eq]; omega)
      refine Ev.step (f := fun _ => some _) (fun k => ?_) (Ev.now _)
      simp only [signetref13_bare.l0]
      rw [if_neg (by omega)]
      congr 1
      exact ba_ext (by rw [data_ofL, h0]; rfl)
theorem bare_ev (x : ByteArray) : Ev (fun k => signetref13_bare.f k x) (ofL (bareL x.data.toList)) := bare_loop _ x (Nat.le_refl _)

theorem rstretch_loop (x : ByteArray) (hx : x.size ≤ 1000000000000000) (at_ : Nat) (hat : at_ ≤ x.size) (d : Nat) : ∀ i : Nat, i + d = digN (x.data.toList.drop at_) →
    Ev (fun k => signetref13_stretch.l0 k x (at_ : Int) (i : Int)) ((digN (x.data.toList.drop at_) : Nat) : Int) := by
  have hle := digN_le (x.data.toList.drop at_)
  rw [List.length_drop, ← Lib.size_eq] at hle
  have hw : ∀ i : Nat, i ≤ x.size → wrap64 ((at_ : Int) + (i : Int)) = ((at_ + i : Nat) : Int) := fun i hi => by unfold wrap64; omega
  induction d with
  | zero =>
    intro i hi
    obtain rfl : i = digN (x.data.toList.drop at_) := by omega
    refine Ev.step (f := fun _ => some _) (fun k => ?_) (Ev.now _)
    simp only [signetref13_stretch.l0]
    rw [hw _ (by omega)]
    by_cases h : at_ + digN (x.data.toList.drop at_) < x.size
    · obtain ⟨c, hc⟩ := get_some x _ h
      have hb := bt_nat x _ c hc
      rw [← List.getElem?_drop] at hc
      rw [if_pos (by omega), if_pos (by omega), hb]
      rcases dig_false (digN_at hc) with g | g
      · rw [if_neg (by omega)]
      · rw [if_pos (by omega), if_neg (by omega)]
    · rw [if_neg (by omega)]
  | succ d ih =>
    intro i hi
    obtain ⟨c, hc, hd⟩ := digN_lt (l := x.data.toList.drop at_) (i := i) (by omega)
    rw [List.getElem?_drop] at hc
    have hb := bt_nat x (at_ + i) c hc
    have hg := dig_true hd
    refine Ev.step (fun k => ?_) (ih (i + 1) (by omega))
    simp only [signetref13_stretch.l0]
    rw [hw i (by omega), if_pos (by omega), if_pos (by omega), hb, if_pos (by omega), if_pos (by omega), wrap_succ (by omega) (by omega)]
    rfl
theorem rstretch_ev (x : ByteArray) (hx : x.size ≤ 1000000000000000) (at_ : Nat) (hat : at_ ≤ x.size) : Ev (fun k => signetref13_stretch.f k x (at_ : Int)) ((digN (x.data.toList.drop at_) : Nat) : Int) :=
  rstretch_loop x hx at_ hat _ 0 (Nat.zero_add _)

theorem ext_tw (x : ByteArray) (i : Nat) : (x.extract i (i + digN (x.data.toList.drop i))).data.toList = (x.data.toList.drop i).takeWhile dig := by
  rw [Lib.extract_data, ← digN_take]
  congr 1
  omega

/-- The document's order. -/
theorem rdigits_loop (a b : ByteArray) (ha : a.size ≤ 1000000000000000) (hb : b.size ≤ 1000000000000000) : ∀ (n i j : Nat), (a.size - i) + (b.size - j) ≤ n → i ≤ a.size → j ≤ b.size →
    Ev (fun k => signetref13_Digits.l0 k a b (i : Int) (j : Int)) (restC (a.data.toList.drop i) (b.data.toList.drop j) (cB a.data.toList b.data.toList)) := by
  have hza := Lib.size_eq a
  have hzb := Lib.size_eq b
  have fin : ∀ i j : Nat, i ≤ a.size → j ≤ b.size → (i = a.size ∨ j = b.size) → Ev (fun k => signetref13_Digits.j1 k a b (i : Int) (j : Int) false) (restC (a.data.toList.drop i) (b.data.toList.drop j) (cB a.data.toList b.data.toList)) := by
    intro i j h1 h2 h3
    rw [rest_end _ _ _ (by rcases h3 with h | h; exact .inl (List.drop_of_length_le (by omega)); exact .inr (List.drop_of_length_le (by omega))), List.length_drop, List.length_drop, ← hza, ← hzb]
    by_cases hA : i = a.size
    · by_cases hB : j = b.size
      · rw [natC_zero.2 (by omega), orC_zero]
        refine Ev.step (f := fun k => (signetref13_Compare.f k a b).bind fun t139 => (some t139)) (fun k => ?_) (Ev.bind (refCompare_ev a b (by omega)) (Ev.now _))
        simp only [signetref13_Digits.j1, Bool.false_eq_true, if_false]
        rw [if_neg (by omega), if_neg (by omega)]
      · rw [natC_lt (by omega), orC_neg]
        refine Ev.step (f := fun _ => some _) (fun k => ?_) (Ev.now _)
        simp only [signetref13_Digits.j1, Bool.false_eq_true, if_false]
        rw [if_neg (by omega), if_pos (by omega)]
    · have hB : j = b.size := h3.resolve_left hA
      rw [natC_gt (by omega), orC_one]
      refine Ev.step (f := fun _ => some _) (fun k => ?_) (Ev.now _)
      simp only [signetref13_Digits.j1, Bool.false_eq_true, if_false]
      rw [if_pos (by omega)]
  have stop : ∀ i j : Nat, i ≤ a.size → j ≤ b.size → (i = a.size ∨ j = b.size) → Ev (fun k => signetref13_Digits.l0 k a b (i : Int) (j : Int)) (restC (a.data.toList.drop i) (b.data.toList.drop j) (cB a.data.toList b.data.toList)) := by
    intro i j h1 h2 h3
    refine Ev.step (fun k => ?_) (fin i j h1 h2 h3)
    simp only [signetref13_Digits.l0]
    by_cases hA : i = a.size
    · rw [if_neg (by omega)]
    · rw [if_pos (by omega), decide_eq_false (by omega)]
  intro n
  induction n with
  | zero => intro i j hn hi hj; exact stop i j hi hj (.inl (by omega))
  | succ n ih =>
    intro i j hn hi hj
    by_cases he : i = a.size ∨ j = b.size
    · exact stop i j hi hj he
    · have hi1 : i < a.size := by omega
      have hj1 : j < b.size := by omega
      obtain ⟨c, hc0⟩ := get_some a i hi1
      obtain ⟨d, hd0⟩ := get_some b j hj1
      have hcl := drop_at hc0
      have hdm := drop_at hd0
      have hbx := bt_nat a i c hc0
      have hby := bt_nat b j d hd0
      have s1 := rstretch_ev a ha i hi
      have s2 := rstretch_ev b hb j hj
      have hlx := digN_le (a.data.toList.drop i)
      have hly := digN_le (b.data.toList.drop j)
      rw [List.length_drop, ← hza] at hlx
      rw [List.length_drop, ← hzb] at hly
      have start : ∀ (v : Bool) r, v = (decide (0 < digN (a.data.toList.drop i)) && decide (0 < digN (b.data.toList.drop j))) → Ev (fun k => signetref13_Digits.j2 k a b (i : Int) (j : Int) ((digN (a.data.toList.drop i) : Nat) : Int) ((digN (b.data.toList.drop j) : Nat) : Int) v) r → Ev (fun k => signetref13_Digits.l0 k a b (i : Int) (j : Int)) r := by
        intro v r hv hr
        refine Ev.step (f := fun k => signetref13_Digits.j1 k a b (i : Int) (j : Int) true) (fun k => ?_) (Ev.step (f := fun k => (signetref13_stretch.f k a (i : Int)).bind fun t134 => ((signetref13_stretch.f k b (j : Int)).bind fun t135 => (if t134 > 0 then (signetref13_Digits.j2 k a b (i : Int) (j : Int) t134 t135 (decide (t135 > 0))) else (signetref13_Digits.j2 k a b (i : Int) (j : Int) t134 t135 false)))) (fun k => ?_) (Ev.bind s1 (Ev.bind s2 (Ev.congr (fun k => ?_) hr))))
        · simp only [signetref13_Digits.l0]
          rw [if_pos (by omega), decide_eq_true (by omega)]
        · simp only [signetref13_Digits.j1, if_true]
        · subst hv
          by_cases g : 0 < digN (a.data.toList.drop i)
          · rw [if_pos (by omega), decide_eq_true g, Bool.true_and]
            congr 1
            exact decide_eq_decide.2 (by omega)
          · rw [if_neg (by omega), decide_eq_false g, Bool.false_and]
      by_cases hdig : dig c = false ∨ dig d = false
      · refine start false _ ?_ ?_
        · rcases hdig with g | g
          · rw [hcl, digN_zero _ g]; rfl
          · rw [hdm, digN_zero _ g]; simp
        · rw [hcl, hdm, rest_sign _ _ _ hdig]
          by_cases hcd : c = d
          · rw [if_pos hcd]
            refine Ev.step (fun k => ?_) (ih (i + 1) (j + 1) (by omega) (by omega) (by omega))
            simp only [signetref13_Digits.j2, Bool.false_eq_true, if_false, hbx, hby]
            rw [if_pos (by omega), if_pos (by omega), if_pos (by omega), if_pos (by omega), if_pos (by rw [hcd]), wrap_succ (by omega) (by omega), wrap_succ (by omega) (by omega)]
            rfl
          · rw [if_neg hcd, u8C_nat]
            unfold natC
            have hne : ¬ ((c.toNat : Int) = (d.toNat : Int)) := fun g => hcd (UInt8.toNat_inj.1 (by omega))
            have hne2 : c.toNat ≠ d.toNat := fun g => hne (by omega)
            by_cases g1 : c.toNat < d.toNat
            · rw [if_pos g1]
              refine Ev.step (f := fun _ => some _) (fun k => ?_) (Ev.now _)
              simp only [signetref13_Digits.j2, Bool.false_eq_true, if_false, hbx, hby]
              rw [if_pos (by omega), if_pos (by omega), if_pos (by omega), if_pos (by omega), if_neg hne, if_pos (by omega)]
            · rw [if_neg g1, if_pos (by omega)]
              refine Ev.step (f := fun _ => some _) (fun k => ?_) (Ev.now _)
              simp only [signetref13_Digits.j2, Bool.false_eq_true, if_false, hbx, hby]
              rw [if_pos (by omega), if_pos (by omega), if_pos (by omega), if_pos (by omega), if_neg hne, if_neg (by omega)]
      · have hc : dig c = true := by cases h : dig c; exact absurd (.inl h) hdig; rfl
        have hd : dig d = true := by cases h : dig d; exact absurd (.inr h) hdig; rfl
        have hp1 : 0 < digN (a.data.toList.drop i) := by rw [hcl]; exact digN_pos _ hc
        have hp2 : 0 < digN (b.data.toList.drop j) := by rw [hdm]; exact digN_pos _ hd
        refine start true _ (by rw [decide_eq_true hp1, decide_eq_true hp2]; rfl) ?_
        have e := rest_num (a.data.toList.drop (i + 1)) (b.data.toList.drop (j + 1)) (cB a.data.toList b.data.toList) hc hd
        rw [← hcl, ← hdm] at e
        have hr := ih (i + digN (a.data.toList.drop i)) (j + digN (b.data.toList.drop j)) (by omega) (by omega) (by omega)
        rw [← List.drop_drop, ← List.drop_drop, digN_drop, digN_drop] at hr
        have b1 := bare_ev (a.extract i (i + digN (a.data.toList.drop i)))
        have b2 := bare_ev (b.extract j (j + digN (b.data.toList.drop j)))
        rw [ext_tw] at b1 b2
        have hl1 : (bareL ((a.data.toList.drop i).takeWhile dig)).length ≤ 1000000000000000 := by
          have h1 := (List.dropWhile_suffix (l := (a.data.toList.drop i).takeWhile dig) (· == 48)).length_le
          have h2 : ((a.data.toList.drop i).takeWhile dig).length = digN (a.data.toList.drop i) := rfl
          unfold bareL
          omega
        rw [e]
        generalize hX : bareL ((a.data.toList.drop i).takeWhile dig) = X at *
        generalize hY : bareL ((b.data.toList.drop j).takeWhile dig) = Y at *
        have k1 : i + digN (a.data.toList.drop i) ≤ 1000000000000000 := by omega
        have k2 : j + digN (b.data.toList.drop j) ≤ 1000000000000000 := by omega
        have hcmp := refCompare_ev (ofL X) (ofL Y) (by rw [size_ofL]; omega)
        rw [data_ofL, data_ofL] at hcmp
        refine Ev.step (f := fun k => (signetref13_bare.f k (a.extract i (i + digN (a.data.toList.drop i)))).bind fun t136 => ((signetref13_bare.f k (b.extract j (j + digN (b.data.toList.drop j)))).bind fun t137 => (if (t136.size : Int) = (t137.size : Int) then (if t136.toList = t137.toList then (signetref13_Digits.l0 k a b ((i + digN (a.data.toList.drop i) : Nat) : Int) ((j + digN (b.data.toList.drop j) : Nat) : Int)) else ((signetref13_Compare.f k t136 t137).bind fun t138 => (some t138))) else (if (t136.size : Int) < (t137.size : Int) then (some (-1)) else (some 1))))) (fun k => ?_) (Ev.bind b1 (Ev.bind b2 ?_))
        · simp only [signetref13_Digits.j2, if_true, wrap_add _ _ k1, wrap_add _ _ k2]
          rw [if_pos (by omega), if_pos (by omega), if_pos (by omega)]
          refine congrArg (Option.bind _) ?_
          funext t
          rw [if_pos (by omega), if_pos (by omega), if_pos (by omega)]
          rfl
        · rw [size_ofL, size_ofL, toList_ofL, toList_ofL]
          rw [numC_or]
          by_cases hl : X.length = Y.length
          · rw [natC_zero.2 hl, orC_zero]
            have hl' : ((X.length : Int) = (Y.length : Int)) := by omega
            by_cases hxy : X = Y
            · rw [cB_zero.2 hxy, orC_zero]
              refine Ev.congr (fun k => ?_) hr
              rw [if_pos hl', if_pos hxy]
            · have hz : cB X Y ≠ 0 := fun g => hxy (cB_zero.1 g)
              rw [show orC (cB X Y) (restC ((a.data.toList.drop i).dropWhile dig) ((b.data.toList.drop j).dropWhile dig) (cB a.data.toList b.data.toList)) = cB X Y from if_neg hz]
              refine Ev.congr (f := fun k => (signetref13_Compare.f k (ofL X) (ofL Y)).bind fun t138 => (some t138)) (fun k => ?_) (Ev.bind hcmp (Ev.now _))
              rw [if_pos hl', if_neg hxy]
          · by_cases hlt : X.length < Y.length
            · rw [natC_lt hlt, orC_neg, orC_neg]
              refine Ev.congr (f := fun _ => some _) (fun k => ?_) (Ev.now _)
              rw [if_neg (by omega), if_pos (by omega)]
            · rw [natC_gt (by omega), orC_one, orC_one]
              refine Ev.congr (f := fun _ => some _) (fun k => ?_) (Ev.now _)
              rw [if_neg (by omega), if_neg (by omega)]

theorem rdigits_ev (a b : ByteArray) (ha : a.size ≤ 1000000000000000) (hb : b.size ≤ 1000000000000000) : Ev (fun k => signetref13_Digits.f k a b) (digA a.data.toList b.data.toList) :=
  rdigits_loop a b ha hb _ 0 0 (Nat.le_refl _) (Nat.zero_le _) (Nat.zero_le _)

theorem NameDigits (a b c : ByteArray) (ha : a.size ≤ 140737488351232) (hb : b.size ≤ 140737488351232) (hc : c.size ≤ 140737488351232) : ∃ k, signetlaw13_NameDigits.f k a b c = some true := by
  refine Ev.rounds ?_
  have hr := digA_ordered.rng a.data.toList b.data.toList
  have hs := digA_ordered.sym a.data.toList b.data.toList
  have ht := digA_ordered.tr a.data.toList b.data.toList c.data.toList
  have hz := @digA_zero a.data.toList b.data.toList
  unfold signetlaw13_NameDigits.f
  refine Ev.bind (digits_ev a b (by omega) (by omega)) (Ev.bind (digits_ev b c (by omega) (by omega)) (Ev.bind (digits_ev a c (by omega) (by omega)) ?_))
  simp only [awake_true, Option.bind_some, if_true]
  refine Ev.bind (rdigits_ev a b (by omega) (by omega)) ?_
  simp only [if_true]
  refine Ev.bind (digits_ev b a (by omega) (by omega)) ?_
  have hw : wrap64 (-digA a.data.toList b.data.toList) = -digA a.data.toList b.data.toList := by unfold wrap64; omega
  rw [hw, hs]
  simp only [if_true]
  have e : ((digA a.data.toList b.data.toList == 0) != (a.toList == b.toList)) = false := by
    rw [Lib.toList_data, Lib.toList_data, bne_eq_false_iff_eq, Bool.eq_iff_iff, beq_iff_eq, beq_iff_eq]
    exact hz
  rw [e]
  simp only [Bool.false_eq_true, if_false]
  by_cases h1 : digA a.data.toList b.data.toList ≤ 0
  · by_cases h2 : digA b.data.toList c.data.toList ≤ 0
    · simp only [if_pos h1, if_pos h2]
      rw [decide_eq_true (ht h1 h2)]
      exact Ev.now _
    · simp only [if_pos h1, if_neg h2]
      exact Ev.now _
  · simp only [if_neg h1]
    exact Ev.now _

end Go.Proofs.YtgciocgdppaaiaaDoor.Pure
