/- Entries in bytes (pure): what is a name; the document's bytes are the program's; numbers read from bytes. -/
import Derived.Test.YtgciocgdppaaiaaDoorS0
import Derived.Test.YtgciocgdppaaiaaDoorE3
import Derived.Test.YtgciocgdppaaiaaDoorPxSignetref13Encode
import Derived.Test.YtgciocgdppaaiaaDoorPxWordTake16
import Derived.Test.YtgciocgdppaaiaaDoorPxWordTake32
namespace Go.Proofs.YtgciocgdppaaiaaDoor.Pure
open Go.Proofs.YtgciocgdppaaiaaDoor Go.Proofs.YtgciocgdppaaiaaDoor.P Go.RowKit Go.Proofs.YtgciocgdppaaiaaDoorW.PrintWords

/-! ### what is a name -/
def nameB (x : ByteArray) : Bool := decide (checkE x = 0)

theorem nameB_bad {x : ByteArray} (h : hasBad x = true) : nameB x = false := by
  unfold nameB checkE
  repeat' split
  all_goals first | rfl | (exfalso; simp_all)

theorem is_loop (x : ByteArray) (hx : x.size ≤ 9223372036854775807) (h0 : x.toList ≠ []) (h56 : ¬ 56 < x.size) (hd : x.toList ≠ [46]) (hdd : x.toList ≠ [46, 46]) (d : Nat) : ∀ i : Nat, i + d = x.size → Lib.NoAny x.data.toList [0, 47] i →
    Ev (fun k => signetref13_Is.l0 k x (i : Int)) (nameB x) := by
  induction d with
  | zero =>
    intro i hi hno
    refine Ev.step (f := fun _ => some (nameB x)) (fun k => ?_) (Ev.now _)
    have h1 : ¬ ((i : Int) < (x.size : Int)) := by omega
    have hb : hasBad x = false := by
      unfold hasBad
      rw [Lib.indexAny_none (by rw [← Lib.size_eq, ← hi]; exact hno)]
      rfl
    simp only [signetref13_Is.l0]
    rw [if_neg h1]
    unfold nameB checkE
    simp [hb, h0, h56, hd, hdd]
  | succ d ih =>
    intro i hi hno
    have h1 : (i : Int) < (x.size : Int) := by omega
    have h0' : (0 : Int) ≤ (i : Int) := by omega
    obtain ⟨c, hc⟩ := get_some x i (by omega)
    have hbt := bt_nat x i c hc
    by_cases hm : [(0 : UInt8), 47].contains c = true
    · have hbad : hasBad x = true := by
        unfold hasBad
        rw [Lib.indexAny_hit hno hc hm]
        exact decide_eq_true (by omega)
      refine Ev.step (f := fun _ => some (nameB x)) (fun k => ?_) (Ev.now _)
      simp only [signetref13_Is.l0]
      rw [if_pos h1, if_pos h0', hbt, nameB_bad hbad]
      have : c = 0 ∨ c = 47 := by simpa using hm
      rcases this with rfl | rfl
      · rfl
      · rfl
    · have hm' : [(0 : UInt8), 47].contains c = false := by simpa using hm
      have hn := hno.succ hc hm'
      refine Ev.step (fun k => ?_) (ih (i + 1) (by omega) hn)
      have hne : c ≠ 0 ∧ c ≠ 47 := by simpa using hm
      simp only [signetref13_Is.l0]
      rw [if_pos h1, if_pos h0', hbt, if_neg (show ¬ ((c.toNat : Int) = 0) from fun e => hne.1 ((u8_eq (n := 0) (by omega)).1 e)), if_neg (show ¬ ((c.toNat : Int) = 47) from fun e => hne.2 ((u8_eq (n := 47) (by omega)).1 e)), wrap_succ h0' (by omega)]
      rfl

theorem is_ev (x : ByteArray) (hx : x.size ≤ 9223372036854775807) : Ev (fun k => signetref13_Is.f k x) (nameB x) := by
  have hz : x.toList = [] ↔ x.size = 0 := by
    rw [Lib.toList_data, Lib.size_eq]
    exact List.length_eq_zero_iff.symm
  have bad : checkE x ≠ 0 → Ev (fun k => signetref13_Is.j0 k x true) (nameB x) := by
    intro h
    refine Ev.step (f := fun _ => some (nameB x)) (fun k => ?_) (Ev.now _)
    unfold nameB
    simp [signetref13_Is.j0, h]
  by_cases e1 : x.size = 0
  · refine Ev.congr (fun k => ?_) (bad (by unfold checkE; rw [if_pos (hz.2 e1)]; decide))
    simp only [signetref13_Is.f]
    rw [if_pos (by omega)]
  · have e1' : x.toList ≠ [] := fun g => e1 (hz.1 g)
    by_cases e2 : 56 < x.size
    · refine Ev.congr (fun k => ?_) (bad (by unfold checkE; rw [if_neg e1', if_pos e2]; decide))
      simp only [signetref13_Is.f]
      rw [if_neg (by omega), if_pos (by omega)]
    · by_cases e3 : x.toList = [46]
      · refine Ev.congr (fun k => ?_) (bad (by unfold checkE; simp [e3]))
        simp only [signetref13_Is.f]
        rw [if_neg (by omega), if_neg (by omega), if_pos e3]
      · by_cases e4 : x.toList = [46, 46]
        · refine Ev.congr (fun k => ?_) (bad (by unfold checkE; simp [e4]))
          simp only [signetref13_Is.f]
          rw [if_neg (by omega), if_neg (by omega), if_neg e3, e4]
          rfl
        · refine Ev.congr (f := fun k => signetref13_Is.j0 k x false) (fun k => ?_) (Ev.step (fun k => ?_) (is_loop x hx e1' e2 e3 e4 x.size 0 (Nat.zero_add _) (Lib.NoAny.zero _ _)))
          · simp only [signetref13_Is.f]
            rw [if_neg (by omega), if_neg (by omega), if_neg e3, beq_eq_false_iff_ne.2 e4]
          · simp [signetref13_Is.j0]

/-! ### bytes of a number -/
theorem bytes4_ev (n : Int) (h0 : 0 ≤ n) (h1 : n ≤ 4294967295) : Ev (fun k => signetref01_Bytes.f k n 4) [n % 256, n / 256 % 256, n / 65536 % 256, n / 16777216 % 256] := by
  have w : ∀ m : Int, 0 ≤ m → m ≤ 4294967295 → IntKind.u64.wrap (Int.tdiv m 256) = m / 256 := by
    intro m hm hm2
    rw [IntKind.wrap_u64, Int.tdiv_eq_ediv_of_nonneg hm]
    omega
  refine ⟨6, fun k hk => ?_⟩
  obtain ⟨k, rfl⟩ : ∃ m, k = m + 6 := ⟨k - 6, by omega⟩
  have s0 : wrap64 (0 + 1) = 1 := by unfold wrap64; omega
  have s1 : wrap64 (1 + 1) = 2 := by unfold wrap64; omega
  have s2 : wrap64 (2 + 1) = 3 := by unfold wrap64; omega
  have s3 : wrap64 (3 + 1) = 4 := by unfold wrap64; omega
  have w0 := w n h0 h1
  have w1 := w (n / 256) (by omega) (by omega)
  have w2 := w (n / 256 / 256) (by omega) (by omega)
  have w3 := w (n / 256 / 256 / 256) (by omega) (by omega)
  have d2 : n / 256 / 256 = n / 65536 := by omega
  have d3 : n / 65536 / 256 = n / 16777216 := by omega
  have d3' : n / 256 / 256 / 256 = n / 16777216 := by omega
  unfold signetref01_Bytes.f
  simp only [signetref01_Bytes.l0, s0, s1, s2, s3, w0, w1, w2, w3, List.nil_append, List.cons_append, List.length_cons, List.length_nil]
  simp [d2, d3]

theorem strs_app (a b : List Int) : strOfNums a ++ strOfNums b = strOfNums (a ++ b) := by
  apply ba_ext
  rw [ByteArray.data_append, Array.toList_append, strOfNums_data, strOfNums_data, strOfNums_data, List.map_append]

theorem repeatL_zero (n : Nat) : Lib.repeatL [0] n = List.replicate n 0 := by
  induction n with
  | zero => rfl
  | succ n ih => rw [Lib.repeatL, ih]; rfl

theorem app_data (a b : ByteArray) : (a ++ b).data.toList = a.data.toList ++ b.data.toList := by
  rw [ByteArray.data_append, Array.toList_append]

/-- The bytes of an entry, as a list. -/
theorem encB_data (i : Int) (x : ByteArray) : (encB i x).data.toList = [i % 256, i / 256 % 256, i / 65536 % 256, i / 16777216].map (fun n => UInt8.ofNat n.toNat) ++ [(x.size : Int) % 256, (x.size : Int) / 256].map (fun n => UInt8.ofNat n.toNat) ++ [0, 0] ++ x.data.toList ++ List.replicate (56 - x.size) 0 := by
  unfold encB
  rw [app_data, app_data, app_data, app_data, strOfNums_data, strOfNums_data]
  congr 1
  show Lib.repeatL [0] (56 - x.size) = _
  exact repeatL_zero _

theorem fill_loop (d : Nat) : ∀ (s : ByteArray), s.size + d = 64 → Ev (fun k => signetref13_Encode.l0 k s) (s ++ ofL (List.replicate d 0), 0) := by
  induction d with
  | zero =>
    intro s hs
    have e : s ++ ofL (List.replicate 0 0) = s := ba_ext (by rw [app_data, data_ofL]; simp)
    rw [e]
    refine Ev.step (f := fun _ => some (s, 0)) (fun k => ?_) (Ev.now _)
    simp only [signetref13_Encode.l0]
    rw [if_neg (by omega)]
  | succ d ih =>
    intro s hs
    have h1 : (strOfNums [0]).size = 1 := rfl
    have e : (s ++ strOfNums [0]) ++ ofL (List.replicate d 0) = s ++ ofL (List.replicate (d + 1) 0) := ba_ext (by
      rw [app_data, app_data, app_data, data_ofL, data_ofL, strOfNums_data, List.append_assoc, List.replicate_succ]
      rfl)
    have hr := ih (s ++ strOfNums [0]) (by rw [ByteArray.size_append, h1]; omega)
    rw [e] at hr
    refine Ev.step (fun k => ?_) hr
    simp only [signetref13_Encode.l0, Option.bind_some, h1]
    rw [if_pos (by omega), if_pos (by omega)]

theorem refEncode_ev (i : Int) (x : ByteArray) (hx : x.size ≤ 140737488355328) : Ev (fun k => signetref13_Encode.f k i x) (encA i x) := by
  have hbad : ∀ a b, Ev (fun k => signetref13_Encode.j0 k true a b) (⟨#[]⟩, 1) := fun a b => Ev.step (f := fun _ => some _) (fun k => by simp [signetref13_Encode.j0]) (Ev.now _)
  unfold encA
  by_cases h1 : i < 1
  · rw [if_pos h1]
    refine Ev.congr (fun k => ?_) (hbad i x)
    simp only [signetref13_Encode.f]
    rw [if_pos h1]
  · rw [if_neg h1]
    by_cases h2 : 4096 < i
    · rw [if_pos h2]
      refine Ev.congr (fun k => ?_) (hbad i x)
      simp only [signetref13_Encode.f]
      rw [if_neg h1, decide_eq_true h2]
    · rw [if_neg h2]
      refine Ev.congr (f := fun k => signetref13_Encode.j0 k false i x) (fun k => ?_) ?_
      · simp only [signetref13_Encode.f]
        rw [if_neg h1, decide_eq_false h2]
      · have hi := is_ev x (by omega)
        refine Ev.step (f := fun k => (signetref13_Is.f k x).bind fun t117 => (if t117 = true then ((signetref01_Bytes.f k (IntKind.u64.wrap i) 4).bind fun t118 => ((signetref01_Bytes.f k (IntKind.u64.wrap ((x.size : Int))) 4).bind fun t121 => (if (strOfNums t118).size + (strOfNums t121).size ≤ 9223372036854775807 then (if ((strOfNums t118) ++ (strOfNums t121)).size + x.size ≤ 9223372036854775807 then (signetref13_Encode.l0 k (((strOfNums t118) ++ (strOfNums t121)) ++ x)) else (none)) else (none)))) else (some ((⟨#[]⟩ : ByteArray), 130)))) (fun k => ?_) (Ev.bind hi ?_)
        · simp only [signetref13_Encode.j0, Bool.false_eq_true, if_false]
        · unfold nameB
          by_cases hc : checkE x = 0
          · rw [if_pos hc]
            simp only [hc, decide_true, if_true]
            have h56 := checkE_size hc
            have w1 : IntKind.u64.wrap i = i := by rw [IntKind.wrap_u64]; omega
            have w2 : IntKind.u64.wrap (x.size : Int) = (x.size : Int) := by rw [IntKind.wrap_u64]; omega
            rw [w1, w2]
            refine Ev.bind (bytes4_ev i (by omega) (by omega)) (Ev.bind (bytes4_ev (x.size : Int) (by omega) (by omega)) ?_)
            have z1 : (strOfNums [i % 256, i / 256 % 256, i / 65536 % 256, i / 16777216 % 256]).size = 4 := rfl
            have z2 : (strOfNums [(x.size : Int) % 256, (x.size : Int) / 256 % 256, (x.size : Int) / 65536 % 256, (x.size : Int) / 16777216 % 256]).size = 4 := rfl
            have hf := fill_loop (56 - x.size) ((strOfNums [i % 256, i / 256 % 256, i / 65536 % 256, i / 16777216 % 256] ++ strOfNums [(x.size : Int) % 256, (x.size : Int) / 256 % 256, (x.size : Int) / 65536 % 256, (x.size : Int) / 16777216 % 256]) ++ x) (by rw [ByteArray.size_append, ByteArray.size_append, z1, z2]; omega)
            have e : (strOfNums [i % 256, i / 256 % 256, i / 65536 % 256, i / 16777216 % 256] ++ strOfNums [(x.size : Int) % 256, (x.size : Int) / 256 % 256, (x.size : Int) / 65536 % 256, (x.size : Int) / 16777216 % 256]) ++ x ++ ofL (List.replicate (56 - x.size) 0) = encB i x := by
              apply ba_ext
              rw [encB_data, app_data, app_data, app_data, data_ofL, strOfNums_data, strOfNums_data]
              have q1 : i / 16777216 % 256 = i / 16777216 := by omega
              have q2 : (x.size : Int) / 256 % 256 = (x.size : Int) / 256 := by omega
              have q3 : (x.size : Int) / 65536 % 256 = 0 := by omega
              have q4 : (x.size : Int) / 16777216 % 256 = 0 := by omega
              rw [q1, q2, q3, q4]
              simp
            rw [e] at hf
            refine Ev.congr (fun k => ?_) hf
            rw [if_pos (by omega), if_pos (by rw [ByteArray.size_append, z1, z2]; omega)]
          · rw [if_neg hc]
            simp only [hc, decide_false, Bool.false_eq_true, if_false]
            exact Ev.now _

/-! ### the number of bytes -/
def leN : List UInt8 → Nat
  | [] => 0
  | b :: l => b.toNat + 256 * leN l
theorem leN_lt : ∀ l : List UInt8, leN l < 256 ^ l.length
  | [] => by decide
  | b :: l => by
    have ih := leN_lt l
    have := UInt8.toNat_lt b
    rw [leN, List.length_cons, Nat.pow_succ]
    omega
theorem leN_snoc : ∀ (l : List UInt8) (b : UInt8), leN (l ++ [b]) = leN l + 256 ^ l.length * b.toNat
  | [], b => by simp [leN]
  | c :: l, b => by
    have ih := leN_snoc l b
    rw [List.cons_append, leN, ih, leN, List.length_cons, Nat.pow_succ, Nat.mul_add]
    rw [show 256 * (256 ^ l.length * b.toNat) = 256 ^ l.length * 256 * b.toNat from by rw [Nat.mul_comm (256 ^ l.length) 256, Nat.mul_assoc]]
    omega

theorem or_add (x b n : Nat) (h : x < 2 ^ n) : x ||| b * 2 ^ n = x + b * 2 ^ n := by
  rw [Nat.or_comm, ← Nat.shiftLeft_eq, ← Nat.shiftLeft_add_eq_or_of_lt h, Nat.add_comm]

theorem ints_get (s : ByteArray) (i : Nat) (c : UInt8) (h : s.data.toList[i]? = some c) : rd (intsL s) (i : Int) = (c.toNat : Int) := by
  unfold rd intsL
  show (s.data.toList.map fun b => (b.toNat : Int)).getD i 0 = _
  rw [List.getD_eq_getElem?_getD, List.getElem?_map, h]
  rfl

theorem take_at {l : List UInt8} {i : Nat} {c : UInt8} (h : l[i]? = some c) : l.take (i + 1) = l.take i ++ [c] := by
  rw [List.take_add_one, h]
  rfl

theorem got_loop (s : ByteArray) (hs : s.size ≤ 4) (d : Nat) : ∀ i : Nat, i + d = s.size → Ev (fun k => word_got.l0 k (intsL s) ((leN (s.data.toList.take i) : Nat) : Int) (s.size : Int) (i : Int)) ((leN s.data.toList : Nat) : Int) := by
  have hzs := Lib.size_eq s
  induction d with
  | zero =>
    intro i hi
    obtain rfl : i = s.size := by omega
    rw [List.take_of_length_le (by omega)]
    refine Ev.step (f := fun _ => some _) (fun k => ?_) (Ev.now _)
    simp only [word_got.l0]
    rw [if_neg (by omega)]
  | succ d ih =>
    intro i hi
    obtain ⟨c, hc⟩ := get_some s i (by omega)
    have hr := ih (i + 1) (by omega)
    have hcl := UInt8.toNat_lt c
    have hll := leN_lt (s.data.toList.take i)
    rw [List.length_take, Nat.min_eq_left (by omega)] at hll
    have hp : (256 : Nat) ^ i = 2 ^ (8 * i) := by rw [Nat.pow_mul]
    have hpb : (256 : Nat) ^ i ≤ 256 ^ 3 := Nat.pow_le_pow_right (by omega) (by omega)
    have hpb' : (256 : Nat) ^ i ≤ 16777216 := hpb
    rw [take_at hc, leN_snoc, List.length_take, Nat.min_eq_left (by omega)] at hr
    have hmul : 256 ^ i * c.toNat ≤ 16777216 * 255 := Nat.mul_le_mul hpb' (by omega)
    have hsh : shl .u64 (IntKind.u64.wrap (rd (intsL s) (i : Int))) (wrap64 (8 * (i : Int))) = ((256 ^ i * c.toNat : Nat) : Int) := by
      rw [ints_get s i c hc, IntKind.wrap_u64]
      have e1 : ((c.toNat : Int)) % 18446744073709551616 = (c.toNat : Int) := by omega
      have e2 : wrap64 (8 * (i : Int)) = ((8 * i : Nat) : Int) := by unfold wrap64; omega
      rw [e1, e2]
      unfold shl
      have e3 : min ((8 * i : Nat) : Int).toNat IntKind.u64.bits = 8 * i := by
        show min (8 * i) 64 = 8 * i
        omega
      rw [e3, IntKind.wrap_u64]
      have e4 : (c.toNat : Int) * 2 ^ (8 * i) = ((256 ^ i * c.toNat : Nat) : Int) := by
        rw [hp, Int.natCast_mul, Int.mul_comm, Int.natCast_pow]
        rfl
      rw [e4]
      omega
    have hor : Go.bits .or .u64 ((leN (s.data.toList.take i) : Nat) : Int) ((256 ^ i * c.toNat : Nat) : Int) = ((leN (s.data.toList.take i) + 256 ^ i * c.toNat : Nat) : Int) := by
      rw [u64_or_nat _ _ (by omega) (by omega)]
      congr 1
      have := or_add (leN (s.data.toList.take i)) c.toNat (8 * i) (by omega)
      rw [← hp, Nat.mul_comm c.toNat] at this
      exact this
    refine Ev.step (fun k => ?_) hr
    simp only [word_got.l0, hsh, hor]
    have e5 : 0 ≤ wrap64 (8 * (i : Int)) := by unfold wrap64; omega
    rw [if_pos (by omega), if_pos (by omega), if_pos (by rw [intsL_length]; omega), if_pos e5, wrap_succ (by omega) (by omega)]
    rfl
theorem got_ev (s : ByteArray) (hs : s.size ≤ 4) : Ev (fun k => word_got.f k (intsL s)) ((leN s.data.toList : Nat) : Int) := by
  unfold word_got.f
  rw [intsL_length]
  exact got_loop s hs s.size 0 (Nat.zero_add _)

theorem drop_at' {l : List UInt8} {n : Nat} {c : UInt8} (h : l[n]? = some c) : l.drop n = c :: l.drop (n + 1) := drop_at h
theorem of_loop (s : ByteArray) (hs : s.size ≤ 4) (d : Nat) : ∀ i : Nat, i = d → i ≤ s.size → Ev (fun k => signetref01_Of.l0 k (intsL s) ((leN (s.data.toList.drop i) : Nat) : Int) ((i : Int) - 1)) ((leN s.data.toList : Nat) : Int) := by
  have hzs := Lib.size_eq s
  induction d with
  | zero =>
    intro i hi hi2
    subst hi
    refine Ev.step (f := fun _ => some _) (fun k => ?_) (Ev.now _)
    simp only [signetref01_Of.l0]
    rw [if_neg (by omega)]
    rfl
  | succ d ih =>
    intro i hi hi2
    subst hi
    obtain ⟨c, hc⟩ := get_some s d (by omega)
    have hr := ih d rfl (by omega)
    rw [drop_at hc, leN] at hr
    have hcl := UInt8.toNat_lt c
    have hll := leN_lt (s.data.toList.drop (d + 1))
    have hpb : (256 : Nat) ^ (s.data.toList.drop (d + 1)).length ≤ 256 ^ 3 := Nat.pow_le_pow_right (by omega) (by rw [List.length_drop]; omega)
    have hpb' : (256 : Nat) ^ (s.data.toList.drop (d + 1)).length ≤ 16777216 := hpb
    have e0 : ((d + 1 : Nat) : Int) - 1 = (d : Int) := by omega
    have e1 : IntKind.u64.wrap ((IntKind.u64.wrap (((leN (s.data.toList.drop (d + 1)) : Nat) : Int) * 256)) + (IntKind.u64.wrap (rd (intsL s) (d : Int)))) = ((c.toNat + 256 * leN (s.data.toList.drop (d + 1)) : Nat) : Int) := by
      rw [ints_get s d c hc, IntKind.wrap_u64, IntKind.wrap_u64, IntKind.wrap_u64]
      omega
    have e2 : wrap64 ((d : Int) - 1) = (d : Int) - 1 := by unfold wrap64; omega
    rw [e0]
    refine Ev.step (fun k => ?_) hr
    simp only [signetref01_Of.l0, e1, e2]
    rw [if_pos (by omega), if_pos (by omega), if_pos (by rw [intsL_length]; omega)]
theorem of_ev (s : ByteArray) (hs : s.size ≤ 4) : Ev (fun k => signetref01_Of.f k (intsL s)) ((leN s.data.toList : Nat) : Int) := by
  have h := of_loop s hs s.size s.size rfl (Nat.le_refl _)
  rw [List.drop_of_length_le (by rw [← Lib.size_eq]; exact Nat.le_refl _)] at h
  unfold signetref01_Of.f
  rw [intsL_length, show wrap64 ((s.size : Int) - 1) = (s.size : Int) - 1 from by unfold wrap64; omega]
  exact h

/-- The number of n bytes of a text from a place on, if they are there. -/
def takeA (s : ByteArray) (at_ : Int) (n : Nat) : Int × Bool :=
  if at_ < 0 then (0, false) else if (s.size : Int) < at_ then (0, false) else if (s.size : Int) - at_ < (n : Int) then (0, false)
  else (((leN ((s.data.toList.drop at_.toNat).take n) : Nat) : Int), true)
theorem ext_take (s : ByteArray) (at_ : Int) (n : Nat) (h : 0 ≤ at_) : (s.extract at_.toNat (at_ + (n : Int)).toNat).data.toList = (s.data.toList.drop at_.toNat).take n := by
  rw [Lib.extract_data]
  congr 1
  omega
theorem take_ev (s : ByteArray) (at_ : Int) (n : Nat) (hs : s.size ≤ 140737488355328) (hn : n ≤ 4) : Ev (fun k => word_take.f k s at_ (n : Int)) (takeA s at_ n) := by
  unfold word_take.f takeA
  have hc : 0 ≤ (n : Int) ∧ s.size ≤ 140737488355328 := ⟨by omega, hs⟩
  simp only [if_pos hc]
  by_cases h1 : at_ < 0
  · simp only [if_pos h1]; exact Ev.now _
  · simp only [if_neg h1]
    by_cases h2 : (s.size : Int) < at_
    · simp only [if_pos h2]; exact Ev.now _
    · simp only [if_neg h2]
      by_cases h3 : (s.size : Int) - at_ < (n : Int)
      · simp only [if_pos h3]; exact Ev.now _
      · simp only [if_neg h3]
        have he := ext_take s at_ n (by omega)
        have hg := got_ev (s.extract at_.toNat (at_ + (n : Int)).toNat) (by rw [Lib.size_eq, he, List.length_take]; omega)
        rw [he] at hg
        exact Ev.bind hg (Ev.now _)
theorem rtake_ev (s : ByteArray) (at_ : Int) (n : Nat) (hs : s.size ≤ 140737488355328) (hn : n ≤ 4) : Ev (fun k => signetref01_Take.f k s at_ (n : Int)) (takeA s at_ n) := by
  unfold signetref01_Take.f takeA
  have hc : 0 ≤ (n : Int) ∧ s.size ≤ 140737488355328 := ⟨by omega, hs⟩
  simp only [if_pos hc]
  by_cases h1 : at_ < 0
  · simp only [if_pos h1]; exact Ev.now _
  · simp only [if_neg h1]
    by_cases h2 : (s.size : Int) < at_
    · simp only [if_pos h2]; exact Ev.now _
    · simp only [if_neg h2]
      by_cases h3 : (s.size : Int) - at_ < (n : Int)
      · simp only [if_pos h3]; exact Ev.now _
      · simp only [if_neg h3]
        have he := ext_take s at_ n (by omega)
        have hg := of_ev (s.extract at_.toNat (at_ + (n : Int)).toNat) (by rw [Lib.size_eq, he, List.length_take]; omega)
        rw [he] at hg
        exact Ev.bind hg (Ev.now _)

end Go.Proofs.YtgciocgdppaaiaaDoor.Pure
