/- Orders (pure): answers -1, 0, 1 that are an order; one behind another; of lists; of bytes; of names whose digits count as numbers. -/
import Derived.Laws.Cover1
namespace Go.Proofs.Ytgciocgdppaaiaa

theorem bytesLess_flip : ∀ a b : List UInt8, (!(Op.bytesLess a b || a == b)) = Op.bytesLess b a
  | [], [] => by simp [Op.bytesLess]
  | [], _ :: _ => by simp [Op.bytesLess]
  | _ :: _, [] => by simp [Op.bytesLess]
  | x :: a, y :: b => by
    have ih := bytesLess_flip a b
    simp only [Op.bytesLess]
    by_cases h1 : x < y
    · have h2 : ¬ y < x := by rw [UInt8.lt_iff_toNat_lt] at *; omega
      have h3 : ¬ x = y := fun e => by subst e; exact absurd h1 (by rw [UInt8.lt_iff_toNat_lt]; omega)
      have h4 : ¬ y = x := fun e => h3 e.symm
      simp [h1, h2, h4]
    · by_cases h2 : y < x
      · have h3 : ¬ x = y := fun e => by subst e; exact absurd h2 (by rw [UInt8.lt_iff_toNat_lt]; omega)
        simp [h1, h2, h3]
      · have h3 : x = y := by rw [UInt8.lt_iff_toNat_lt] at *; exact UInt8.toNat_inj.1 (by omega)
        subst h3
        simpa [h1] using ih
theorem bytesLess_flip2 (a b : List UInt8) (h : Op.bytesLess a b = false) : (!(a == b)) = Op.bytesLess b a := by
  rw [← bytesLess_flip a b, h]
  rfl
theorem bl_irrefl : ∀ a : List UInt8, Op.bytesLess a a = false
  | [] => rfl
  | x :: a => by simp [Op.bytesLess, bl_irrefl a, UInt8.lt_iff_toNat_lt]
theorem bl_asymm {a b : List UInt8} (h : Op.bytesLess a b = true) : Op.bytesLess b a = false := by rw [← bytesLess_flip, h]; rfl
theorem bl_eq {a b : List UInt8} (h : Op.bytesLess a b = false) (h2 : Op.bytesLess b a = false) : a = b := by
  have := bytesLess_flip2 a b h
  rw [h2] at this
  simpa using this

namespace Pure

/-- An order by answers. -/
structure Ordered {α : Type} (c : α → α → Int) : Prop where
  rng : ∀ a b, c a b = -1 ∨ c a b = 0 ∨ c a b = 1
  sym : ∀ a b, c b a = -c a b
  tr : ∀ a b d, c a b ≤ 0 → c b d ≤ 0 → c a d ≤ 0

theorem Ordered.self {α : Type} {c : α → α → Int} (h : Ordered c) (a : α) : c a a = 0 := by have := h.sym a a; omega
theorem Ordered.lt {α : Type} {c : α → α → Int} (h : Ordered c) {a b d : α} (h1 : c a b < 0) (h2 : c b d ≤ 0) : c a d < 0 := by
  refine Classical.byContradiction fun hn => ?_
  have s1 := h.sym a d
  have s2 := h.sym a b
  have := h.tr b d a h2 (by omega)
  omega
theorem Ordered.lt' {α : Type} {c : α → α → Int} (h : Ordered c) {a b d : α} (h1 : c a b ≤ 0) (h2 : c b d < 0) : c a d < 0 := by
  refine Classical.byContradiction fun hn => ?_
  have s1 := h.sym a d
  have s2 := h.sym b d
  have := h.tr d a b (by omega) h1
  omega
theorem Ordered.eq0 {α : Type} {c : α → α → Int} (h : Ordered c) {a b d : α} (h1 : c a b = 0) (h2 : c b d = 0) : c a d = 0 := by
  have s1 := h.sym a b
  have s2 := h.sym b d
  have s3 := h.sym a d
  have t1 := h.tr a b d (by omega) (by omega)
  have t2 := h.tr d b a (by omega) (by omega)
  omega

/-- The first answer that is not 0. -/
def orC (x y : Int) : Int := if x = 0 then y else x

/-- One order, and behind it another one. -/
def thenC {α : Type} (c d : α → α → Int) (a b : α) : Int := orC (c a b) (d a b)
theorem Ordered.then {α : Type} {c d : α → α → Int} (hc : Ordered c) (hd : Ordered d) : Ordered (thenC c d) where
  rng a b := by
    unfold thenC orC
    split
    · exact hd.rng a b
    · exact hc.rng a b
  sym a b := by
    have h1 := hc.sym a b
    have h2 := hd.sym a b
    unfold thenC orC
    by_cases h : c a b = 0
    · rw [if_pos h, if_pos (by omega), h2]
    · rw [if_neg h, if_neg (by omega), h1]
  tr a b e := by
    unfold thenC orC
    intro h1 h2
    by_cases g1 : c a b = 0
    · rw [if_pos g1] at h1
      by_cases g2 : c b e = 0
      · rw [if_pos g2] at h2
        rw [if_pos (hc.eq0 g1 g2)]
        exact hd.tr a b e h1 h2
      · rw [if_neg g2] at h2
        have := hc.lt' (a := a) (b := b) (d := e) (by omega) (by omega)
        rw [if_neg (by omega)]
        omega
    · rw [if_neg g1] at h1
      by_cases g2 : c b e = 0
      · have := hc.lt (a := a) (b := b) (d := e) (by omega) (by omega)
        rw [if_neg (by omega)]
        omega
      · rw [if_neg g2] at h2
        have := hc.lt (a := a) (b := b) (d := e) (by omega) (by omega)
        rw [if_neg (by omega)]
        omega

/-- An order seen through a function. -/
def onC {α β : Type} (f : α → β) (c : β → β → Int) (a b : α) : Int := c (f a) (f b)
theorem Ordered.on {α β : Type} (f : α → β) {c : β → β → Int} (hc : Ordered c) : Ordered (onC f c) where
  rng a b := hc.rng _ _
  sym a b := hc.sym _ _
  tr a b d := hc.tr _ _ _

/-- Numbers. -/
def natC (a b : Nat) : Int := if a < b then -1 else if b < a then 1 else 0
theorem natC_ordered : Ordered natC where
  rng a b := by unfold natC; split; exact .inl rfl; split; exact .inr (.inr rfl); exact .inr (.inl rfl)
  sym a b := by unfold natC; split <;> split <;> (try split) <;> omega
  tr a b d := by unfold natC; intro h1 h2; repeat' split at h1; all_goals (repeat' split at h2; all_goals (repeat' split; all_goals omega))
theorem natC_zero {a b : Nat} : natC a b = 0 ↔ a = b := by unfold natC; split; omega; split <;> omega

/-- Lists, element by element; the shorter one ahead. -/
def lexC {α : Type} (c : α → α → Int) : List α → List α → Int
  | [], [] => 0
  | [], _ :: _ => -1
  | _ :: _, [] => 1
  | a :: x, b :: y => orC (c a b) (lexC c x y)

theorem lexC_rng {α : Type} {c : α → α → Int} (hc : Ordered c) : ∀ x y : List α, lexC c x y = -1 ∨ lexC c x y = 0 ∨ lexC c x y = 1
  | [], [] => .inr (.inl rfl)
  | [], _ :: _ => .inl rfl
  | _ :: _, [] => .inr (.inr rfl)
  | a :: x, b :: y => by
    rw [lexC, orC]
    split
    · exact lexC_rng hc x y
    · exact hc.rng a b
theorem lexC_sym {α : Type} {c : α → α → Int} (hc : Ordered c) : ∀ x y : List α, lexC c y x = -lexC c x y
  | [], [] => rfl
  | [], _ :: _ => rfl
  | _ :: _, [] => rfl
  | a :: x, b :: y => by
    have h1 := hc.sym a b
    have ih := lexC_sym hc x y
    rw [lexC, lexC, orC, orC]
    by_cases h : c a b = 0
    · rw [if_pos h, if_pos (by omega), ih]
    · rw [if_neg h, if_neg (by omega), h1]
theorem lexC_tr {α : Type} {c : α → α → Int} (hc : Ordered c) : ∀ x y z : List α, lexC c x y ≤ 0 → lexC c y z ≤ 0 → lexC c x z ≤ 0
  | [], _, [], _, _ => by simp [lexC]
  | [], _, _ :: _, _, _ => by simp [lexC]
  | _ :: _, [], _, h, _ => by simp [lexC] at h
  | _ :: _, _ :: _, [], _, h => by simp [lexC] at h
  | a :: x, b :: y, e :: z, h1, h2 => by
    have ih := lexC_tr hc x y z
    rw [lexC, orC] at h1 h2 ⊢
    by_cases g1 : c a b = 0
    · rw [if_pos g1] at h1
      by_cases g2 : c b e = 0
      · rw [if_pos g2] at h2
        rw [if_pos (hc.eq0 g1 g2)]
        exact ih h1 h2
      · rw [if_neg g2] at h2
        have := hc.lt' (a := a) (b := b) (d := e) (by omega) (by omega)
        rw [if_neg (by omega)]
        omega
    · rw [if_neg g1] at h1
      by_cases g2 : c b e = 0
      · have := hc.lt (a := a) (b := b) (d := e) (by omega) (by omega)
        rw [if_neg (by omega)]
        omega
      · rw [if_neg g2] at h2
        have := hc.lt (a := a) (b := b) (d := e) (by omega) (by omega)
        rw [if_neg (by omega)]
        omega
theorem lexC_ordered {α : Type} {c : α → α → Int} (hc : Ordered c) : Ordered (lexC c) := ⟨lexC_rng hc, lexC_sym hc, lexC_tr hc⟩

/-- Bytes. -/
def u8C (a b : UInt8) : Int := if a < b then -1 else if b < a then 1 else 0
theorem u8C_nat (a b : UInt8) : u8C a b = natC a.toNat b.toNat := by unfold u8C natC; simp only [UInt8.lt_iff_toNat_lt]
theorem u8C_ordered : Ordered u8C := by
  have : u8C = onC UInt8.toNat natC := by funext a b; exact u8C_nat a b
  rw [this]
  exact natC_ordered.on _
theorem u8C_zero {a b : UInt8} : u8C a b = 0 ↔ a = b := by rw [u8C_nat, natC_zero, UInt8.toNat_inj]

/-- Texts. -/
def cB (a b : List UInt8) : Int := if Op.bytesLess a b = true then -1 else if Op.bytesLess b a = true then 1 else 0
theorem cB_lex : ∀ a b : List UInt8, cB a b = lexC u8C a b
  | [], [] => rfl
  | [], _ :: _ => rfl
  | _ :: _, [] => rfl
  | x :: a, y :: b => by
    have ih := cB_lex a b
    rw [lexC, ← ih]
    unfold cB orC u8C
    simp only [Op.bytesLess, Bool.or_eq_true, decide_eq_true_eq, Bool.and_eq_true, beq_iff_eq]
    by_cases h1 : x < y
    · simp [h1]
    · by_cases h2 : y < x
      · have h3 : ¬ x = y := fun e => by subst e; exact absurd h2 h1
        simp [h1, h2, h3]
      · have h3 : x = y := by rw [UInt8.lt_iff_toNat_lt] at *; exact UInt8.toNat_inj.1 (by omega)
        subst h3
        simp [h1]
theorem cB_ordered : Ordered cB := by
  have : cB = lexC u8C := by funext a b; exact cB_lex a b
  rw [this]
  exact lexC_ordered u8C_ordered
theorem cB_zero {a b : List UInt8} : cB a b = 0 ↔ a = b := by
  refine ⟨fun h => ?_, fun h => by subst h; exact cB_ordered.self a⟩
  unfold cB at h
  by_cases h1 : Op.bytesLess a b = true
  · rw [if_pos h1] at h; omega
  · rw [if_neg h1] at h
    by_cases h2 : Op.bytesLess b a = true
    · rw [if_pos h2] at h; omega
    · exact bl_eq (by simpa using h1) (by simpa using h2)

/-- A digit. -/
def dig (c : UInt8) : Bool := decide (48 ≤ c.toNat) && decide (c.toNat ≤ 57)
/-- A number's digits without the zeros ahead. -/
def bareL (l : List UInt8) : List UInt8 := l.dropWhile (· == 48)
/-- What a name is made of: signs, and stretches of digits. -/
inductive Tok
  | ch (c : UInt8)
  | num (d : List UInt8)

theorem dropDig_len (c : UInt8) (l : List UInt8) (h : dig c = true) : ((c :: l).dropWhile dig).length < (c :: l).length := by
  rw [List.dropWhile_cons, if_pos h]
  have := (List.dropWhile_suffix (l := l) dig).length_le
  simp only [List.length_cons]
  omega

def tokens : List UInt8 → List Tok
  | [] => []
  | c :: l => if h : dig c = true then .num (bareL ((c :: l).takeWhile dig)) :: tokens ((c :: l).dropWhile dig) else .ch c :: tokens l
termination_by l => l.length
decreasing_by
  · exact dropDig_len c l h
  · simp

theorem tokens_ch {c : UInt8} (l : List UInt8) (h : dig c = false) : tokens (c :: l) = .ch c :: tokens l := by rw [tokens, dif_neg (by rw [h]; decide)]
theorem tokens_num {c : UInt8} (l : List UInt8) (h : dig c = true) : tokens (c :: l) = .num (bareL ((c :: l).takeWhile dig)) :: tokens ((c :: l).dropWhile dig) := by rw [tokens, dif_pos h]

/-- Numbers, by how many digits they have, then by their digits. -/
def numC (a b : List UInt8) : Int := thenC (onC List.length natC) cB a b
theorem numC_ordered : Ordered numC := (natC_ordered.on List.length).then cB_ordered

def tokC : Tok → Tok → Int
  | .ch a, .ch b => u8C a b
  | .ch a, .num _ => if a.toNat < 48 then -1 else 1
  | .num _, .ch b => if b.toNat < 48 then 1 else -1
  | .num a, .num b => numC a b
theorem tokC_ordered : Ordered tokC where
  rng a b := by
    cases a <;> cases b <;> simp only [tokC]
    · exact u8C_ordered.rng _ _
    · split; exact .inl rfl; exact .inr (.inr rfl)
    · split; exact .inr (.inr rfl); exact .inl rfl
    · exact numC_ordered.rng _ _
  sym a b := by
    cases a <;> cases b <;> simp only [tokC]
    · exact u8C_ordered.sym _ _
    · split <;> rfl
    · split <;> rfl
    · exact numC_ordered.sym _ _
  tr a b d := by
    cases a <;> cases b <;> cases d <;> simp only [tokC]
    · exact u8C_ordered.tr _ _ _
    · rename_i a b d
      intro h1 h2
      rw [u8C_nat] at h1
      unfold natC at h1
      split at h2
      · rw [if_pos]; omega
        split at h1; omega; split at h1 <;> omega
      · omega
    · intro h1 h2
      rename_i a b d
      rw [u8C_nat]
      unfold natC
      split at h1
      · split at h2
        · omega
        · rw [if_pos (by omega)]; omega
      · omega
    · intro h1 h2
      exact h1
    · intro h1 h2
      rename_i a b d
      rw [u8C_nat] at h2
      unfold natC at h2
      split at h1
      · omega
      · rw [if_neg]; omega
        split at h2; omega; split at h2 <;> omega
    · intro h1 h2
      split at h1
      · omega
      · split at h2 <;> omega
    · intro h1 h2
      exact h2
    · exact numC_ordered.tr _ _ _

/-- Names whose digits count as numbers. -/
def digA (a b : List UInt8) : Int := thenC (onC tokens (lexC tokC)) cB a b
theorem digA_ordered : Ordered digA := ((lexC_ordered tokC_ordered).on tokens).then cB_ordered
theorem digA_zero {a b : List UInt8} : digA a b = 0 ↔ a = b := by
  constructor
  · intro h
    unfold digA thenC orC at h
    split at h
    · exact cB_zero.1 h
    · next g => exact absurd h g
  · rintro rfl
    exact digA_ordered.self a

end Pure
end Go.Proofs.Ytgciocgdppaaiaa
