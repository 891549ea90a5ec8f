/- Texts of this seat joined into one: QEntries, B5, B6, QLeaves, QBack, B7. -/
import Derived.Test.YtgciocgdppaaiaaDoorVNameLeaves5
import Derived.Test.YtgciocgdppaaiaaDoorVNameLeaves6
import Derived.Test.YtgciocgdppaaiaaDoorVNameLeaves7
import Derived.Test.YtgciocgdppaaiaaDoorVNameLeaves3
import Derived.Stop.BytesEq
import Derived.Lib.Hide

/- The pure law of NameEntries: entries in bytes, and read from any text. -/
namespace Go.Proofs.YtgciocgdppaaiaaDoor.Pure
open Go.Proofs.YtgciocgdppaaiaaDoor Go.Proofs.YtgciocgdppaaiaaDoor.P Go.RowKit Go.Proofs.YtgciocgdppaaiaaDoorW.PrintWords

/-- What 64 bytes say. -/
def decT (t : ByteArray) : Int × ByteArray × Bool × Int :=
  if ∀ c ∈ t.data.toList, c = 0 then (0, ⟨#[]⟩, false, 0)
  else if 56 < leN ((t.data.toList.drop 4).take 2) then (0, ⟨#[]⟩, false, 131)
  else if (encA ((leN (t.data.toList.take 4) : Nat) : Int) (t.extract 8 (8 + leN ((t.data.toList.drop 4).take 2)))).2 = 0 then
    if (encA ((leN (t.data.toList.take 4) : Nat) : Int) (t.extract 8 (8 + leN ((t.data.toList.drop 4).take 2)))).1.toList = t.toList then (((leN (t.data.toList.take 4) : Nat) : Int), t.extract 8 (8 + leN ((t.data.toList.drop 4).take 2)), true, 0)
    else (0, ⟨#[]⟩, false, 131)
  else (0, ⟨#[]⟩, false, 131)
/-- What the bytes of a text from a place on say. -/
def decA (s : ByteArray) (at_ : Int) : Int × ByteArray × Bool × Int :=
  if 0 ≤ at_ ∧ at_ + 64 ≤ (s.size : Int) then decT (s.extract at_.toNat (at_ + 64).toNat) else (0, ⟨#[]⟩, false, 131)

theorem le4 (l : List UInt8) : leN (l.take 4) < 4294967296 := by
  have h := leN_lt (l.take 4)
  have h2 : (256 : Nat) ^ (l.take 4).length ≤ 256 ^ 4 := Nat.pow_le_pow_right (by omega) (by rw [List.length_take]; omega)
  have h3 : (256 : Nat) ^ (l.take 4).length ≤ 4294967296 := h2
  omega
theorem le2 (l : List UInt8) : leN (l.take 2) < 65536 := by
  have h := leN_lt (l.take 2)
  have h2 : (256 : Nat) ^ (l.take 2).length ≤ 256 ^ 2 := Nat.pow_le_pow_right (by omega) (by rw [List.length_take]; omega)
  have h3 : (256 : Nat) ^ (l.take 2).length ≤ 65536 := h2
  omega

theorem sl_data (s : ByteArray) (at_ : Int) (h : 0 ≤ at_) : (s.extract at_.toNat (at_ + 64).toNat).data.toList = (s.data.toList.drop at_.toNat).take 64 := ext_take s at_ 64 h
theorem sl_size (s : ByteArray) (at_ : Int) (h : 0 ≤ at_) (h2 : at_ + 64 ≤ (s.size : Int)) : (s.extract at_.toNat (at_ + 64).toNat).size = 64 := by
  rw [Lib.size_eq, sl_data s at_ h, List.length_take, List.length_drop, ← Lib.size_eq]
  omega

theorem encF (i : Int) (x : ByteArray) : name_Encode.f i x = some (encA i x) := rfl

/-- The program's Decode. -/
theorem decode_ev (s : ByteArray) (at_ : Int) (hs : s.size ≤ 140737488355328) (ha : -9223372036854775808 ≤ at_ ∧ at_ ≤ 9223372036854775807) : Ev (fun k => name_Decode.f k s at_) (decA s at_) := by
  have hwa : Aside0 (wrap64 at_ = at_) := ⟨by unfold wrap64; omega⟩
  have hbad : ∀ n, Ev (fun k => name_Decode.j0 k s at_ n true) (0, ⟨#[]⟩, false, 131) := fun n => Ev.step (f := fun _ => some _) (fun k => by simp [name_Decode.j0]) (Ev.now _)
  have h32 := take_ev s at_ 4 hs (by omega)
  unfold name_Decode.f word_Take32.f
  rw [hwa.out]
  unfold decA
  by_cases hok : 0 ≤ at_ ∧ at_ + 64 ≤ (s.size : Int)
  · rw [if_pos hok]
    obtain ⟨ha0, ha64⟩ := hok
    have hsz := sl_size s at_ ha0 ha64
    have hda := sl_data s at_ ha0
    have e32 : takeA s at_ 4 = (((leN ((s.data.toList.drop at_.toNat).take 4) : Nat) : Int), true) := by
      unfold takeA
      rw [if_neg (by omega), if_neg (by omega), if_neg (by omega)]
    have e4 : (s.data.toList.drop at_.toNat).take 4 = (s.extract at_.toNat (at_ + 64).toNat).data.toList.take 4 := by rw [hda, List.take_take]; rfl
    rw [e32, e4] at h32
    have hw64 : Aside0 (wrap64 (at_ + 64) = at_ + 64) := ⟨by unfold wrap64; omega⟩
    have hws : Aside0 (wrap64 ((s.size : Int) - at_) = (s.size : Int) - at_) := ⟨by unfold wrap64; omega⟩
    have hj : Ev (fun k => name_Decode.j0 k s at_ ((leN ((s.extract at_.toNat (at_ + 64).toNat).data.toList.take 4) : Nat) : Int) false) (decT (s.extract at_.toNat (at_ + 64).toNat)) := by
      obtain ⟨t, ht⟩ : ∃ t, s.extract at_.toNat (at_ + 64).toNat = t := ⟨_, rfl⟩
      rw [ht] at hsz ⊢
      have l4 := le4 t.data.toList
      have l2 := le2 (t.data.toList.drop 4)
      have h16 := take_ev t 4 2 (by omega) (by omega)
      have e16 : takeA t 4 2 = (((leN ((t.data.toList.drop 4).take 2) : Nat) : Int), true) := by
        unfold takeA
        rw [if_neg (by omega), if_neg (by omega), if_neg (by omega)]
        rfl
      rw [e16] at h16
      have htrim : strings_Trim.f t (⟨#[0]⟩ : ByteArray) = some (ofL (Lib.trimB t.data.toList 0)) := by
        unfold strings_Trim.f
        simp only
        rw [if_pos ⟨by decide, by omega⟩]
        rfl
      unfold decT
      refine Ev.step (f := fun k => if (ofL (Lib.trimB t.data.toList 0)).toList = ([] : List UInt8) then (some (0, (⟨#[]⟩ : ByteArray), false, 0)) else ((word_Take16.f k t 4).bind fun bt137 => (if (wrap64 (bt137.1)) > 56 then (some (0, (⟨#[]⟩ : ByteArray), false, 131)) else (if 8 ≤ (wrap64 (8 + (wrap64 (bt137.1)))) then (if (wrap64 (8 + (wrap64 (bt137.1)))) ≤ (t.size : Int) then ((name_Encode.f (wrap64 (((leN (t.data.toList.take 4) : Nat) : Int))) (t.extract 8 ((wrap64 (8 + (wrap64 (bt137.1)))) : Int).toNat)).bind fun bt140 => (if bt140.2 = 0 then (if bt140.1.toList = t.toList then (some (wrap64 (((leN (t.data.toList.take 4) : Nat) : Int)), t.extract 8 ((wrap64 (8 + (wrap64 (bt137.1)))) : Int).toNat, true, 0)) else (some (0, (⟨#[]⟩ : ByteArray), false, 131))) else (some (0, (⟨#[]⟩ : ByteArray), false, 131)))) else (none)) else (none))))) (fun k => ?_) ?_
      · simp only [name_Decode.j0, Bool.false_eq_true, if_false, hw64.out, ht, htrim, Option.bind_some]
        rw [if_pos ha0, if_pos (by omega), if_pos ha64]
      · rw [toList_ofL]
        by_cases hz : ∀ c ∈ t.data.toList, c = 0
        · have h1 := (trimB_nil t.data.toList 0).2 hz
          simp only [if_pos h1, if_pos hz]
          exact Ev.now _
        · have h1 : ¬ Lib.trimB t.data.toList 0 = [] := fun g => hz ((trimB_nil t.data.toList 0).1 g)
          simp only [if_neg h1, if_neg hz]
          generalize hm : leN ((t.data.toList.drop 4).take 2) = m at *
          generalize hn : leN (t.data.toList.take 4) = n at *
          have w1 : Aside0 (IntKind.u16.wrap (m : Int) = (m : Int)) := ⟨by rw [IntKind.wrap_u16]; omega⟩
          have w2 : Aside0 (wrap64 (m : Int) = (m : Int)) := ⟨by unfold wrap64; omega⟩
          have w3 : Aside0 (wrap64 (8 + (m : Int)) = ((8 + m : Nat) : Int)) := ⟨by unfold wrap64; omega⟩
          have w4 : Aside0 (wrap64 (n : Int) = (n : Int)) := ⟨by unfold wrap64; omega⟩
          have h16' : Ev (fun k => word_Take16.f k t 4) ((m : Int), true) := by
            unfold word_Take16.f
            refine Ev.bind h16 ?_
            simp only [w1.out]
            exact Ev.now _
          refine Ev.bind h16' ?_
          simp only [w2.out, w3.out, w4.out]
          by_cases hb : 56 < m
          · have hb' : (m : Int) > 56 := by omega
            simp only [if_pos hb', if_pos hb]
            exact Ev.now _
          · have hb' : ¬ (m : Int) > 56 := by omega
            have c1 : (8 : Int) ≤ ((8 + m : Nat) : Int) := by omega
            have c2 : ((8 + m : Nat) : Int) ≤ (t.size : Int) := by omega
            simp only [if_neg hb', if_neg hb, if_pos c1, if_pos c2, Int.toNat_natCast]
            rw [encF]
            simp only [Option.bind_some]
            by_cases q1 : (encA (n : Int) (t.extract 8 (8 + m))).2 = 0
            · by_cases q2 : (encA (n : Int) (t.extract 8 (8 + m))).1.toList = t.toList
              · simp only [if_pos q1, if_pos q2]
                exact Ev.now _
              · simp only [if_pos q1, if_neg q2]
                exact Ev.now _
            · simp only [if_neg q1]
              exact Ev.now _
    have hmod : ((leN ((s.extract at_.toNat (at_ + 64).toNat).data.toList.take 4) : Nat) : Int) % 4294967296 = ((leN ((s.extract at_.toNat (at_ + 64).toNat).data.toList.take 4) : Nat) : Int) := by
      have := le4 (s.extract at_.toNat (at_ + 64).toNat).data.toList
      omega
    have h32' : Ev (fun k => (word_take.f k s at_ 4).bind fun bt => (some ((bt.1) % 4294967296, bt.2))) (((leN ((s.extract at_.toNat (at_ + 64).toNat).data.toList.take 4) : Nat) : Int), true) := by
      refine Ev.bind h32 ?_
      simp only [hmod]
      exact Ev.now _
    refine Ev.bind h32' ?_
    simp only [if_true, hws.out]
    rw [decide_eq_false (by omega)]
    exact hj
  · rw [if_neg hok]
    have h32' : ∃ n b, Ev (fun k => (word_take.f k s at_ 4).bind fun bt => (some ((bt.1) % 4294967296, bt.2))) (n, b) ∧ (b = true → 0 ≤ at_ ∧ at_ ≤ (s.size : Int)) := by
      refine ⟨(takeA s at_ 4).1 % 4294967296, (takeA s at_ 4).2, Ev.bind h32 (Ev.now _), fun hb => ?_⟩
      unfold takeA at hb
      by_cases g1 : at_ < 0
      · rw [if_pos g1] at hb; cases hb
      · rw [if_neg g1] at hb
        by_cases g2 : (s.size : Int) < at_
        · rw [if_pos g2] at hb; cases hb
        · omega
    obtain ⟨n, b, h1, h2⟩ := h32'
    refine Ev.bind h1 ?_
    cases b with
    | false =>
      simp only [Bool.false_eq_true, if_false]
      exact hbad n
    | true =>
      have h3 := h2 rfl
      have hws : Aside0 (wrap64 ((s.size : Int) - at_) = (s.size : Int) - at_) := ⟨by unfold wrap64; omega⟩
      simp only [if_true, hws.out]
      rw [decide_eq_true (by omega)]
      exact hbad n

/-- The document's look for zeros. -/
theorem zeros_loop (t : ByteArray) (ht : t.size = 64) (r : Int × ByteArray × Bool × Int) (H : Ev (fun k => signetref13_Decode.l0 k t (decide (∀ c ∈ t.data.toList, c = 0)) 64) r) (d : Nat) : ∀ (i : Nat) (z : Bool), i + d = 64 → (z = true ↔ ∀ c ∈ t.data.toList.take i, c = 0) →
    Ev (fun k => signetref13_Decode.l0 k t z (i : Int)) r := by
  have hzt := Lib.size_eq t
  induction d with
  | zero =>
    intro i z hi hz
    obtain rfl : i = 64 := by omega
    rw [List.take_of_length_le (by omega)] at hz
    have e : z = decide (∀ c ∈ t.data.toList, c = 0) := by rw [Bool.eq_iff_iff, hz, decide_eq_true_iff]
    rw [e]
    exact H
  | succ d ih =>
    intro i z hi hz
    obtain ⟨c, hc⟩ := get_some t i (by omega)
    have hb := bt_nat t i c hc
    have h0 : (c.toNat : Int) = 0 ↔ c = 0 := ⟨fun h => UInt8.toNat_inj.1 (by show c.toNat = 0; omega), fun h => by rw [h]; rfl⟩
    have ts := take_at hc
    cases z with
    | false =>
      refine Ev.step (fun k => ?_) (ih (i + 1) false (by omega) ⟨fun h => (by cases h), fun h => hz.2 (fun x hx => h x (by rw [ts]; exact List.mem_append_left _ hx))⟩)
      simp only [signetref13_Decode.l0, Bool.false_eq_true, if_false]
      rw [if_pos (by omega), wrap_succ (by omega) (by omega)]
      rfl
    | true =>
      refine Ev.step (fun k => ?_) (ih (i + 1) ((c.toNat : Int) == 0) (by omega) ?_)
      · simp only [signetref13_Decode.l0, if_true, hb]
        rw [if_pos (by omega), if_pos (by omega), if_pos (by omega), wrap_succ (by omega) (by omega)]
        rfl
      · rw [beq_iff_eq, h0, ts]
        constructor
        · rintro rfl x hx
          rcases List.mem_append.1 hx with hx | hx
          · exact hz.1 rfl x hx
          · simpa using hx
        · intro h
          exact h c (List.mem_append_right _ (by simp))

/-- The document's Decode. -/
theorem rdecode_ev (s : ByteArray) (at_ : Int) (hs : s.size ≤ 140737488355328) (ha : -9223372036854775808 ≤ at_ ∧ at_ ≤ 9223372036854775807) : Ev (fun k => signetref13_Decode.f k s at_) (decA s at_) := by
  have hbad : Ev (fun k => signetref13_Decode.j0 k s at_ true) (0, ⟨#[]⟩, false, 131) := Ev.step (f := fun _ => some _) (fun k => by simp [signetref13_Decode.j0]) (Ev.now _)
  unfold signetref13_Decode.f decA
  by_cases h1 : at_ < 0
  · simp only [if_pos h1]
    rw [if_neg (by omega)]
    exact hbad
  · simp only [if_neg h1]
    by_cases h2 : at_ > (s.size : Int)
    · simp only [if_pos h2]
      rw [if_neg (by omega)]
      exact hbad
    · simp only [if_neg h2]
      have hws : Aside0 (wrap64 ((s.size : Int) - at_) = (s.size : Int) - at_) := ⟨by unfold wrap64; omega⟩
      simp only [hws.out]
      by_cases h3 : (s.size : Int) - at_ < 64
      · simp only [decide_eq_true h3]
        rw [if_neg (by omega)]
        exact hbad
      · simp only [decide_eq_false h3]
        rw [if_pos ⟨by omega, by omega⟩]
        have hsz := sl_size s at_ (by omega) (by omega)
        have hw64 : Aside0 (wrap64 (at_ + 64) = at_ + 64) := ⟨by unfold wrap64; omega⟩
        clear hws
        refine Ev.step (f := fun k => signetref13_Decode.l0 k (s.extract at_.toNat (at_ + 64).toNat) true 0) (fun k => ?_) ?_
        · simp only [signetref13_Decode.j0, Bool.false_eq_true, if_false, hw64.out]
          rw [if_pos (by omega), if_pos (by omega), if_pos (by omega)]
        · generalize s.extract at_.toNat (at_ + 64).toNat = t at *
          refine zeros_loop t hsz _ ?_ 64 0 true rfl ⟨fun _ => by simp, fun _ => rfl⟩
          have l4 := le4 t.data.toList
          have l2 := le2 (t.data.toList.drop 4)
          have t4 := rtake_ev t 0 4 (by omega) (by omega)
          have t2 := rtake_ev t 4 2 (by omega) (by omega)
          have e4 : takeA t 0 4 = (((leN (t.data.toList.take 4) : Nat) : Int), true) := by
            unfold takeA
            rw [if_neg (by omega), if_neg (by omega), if_neg (by omega)]
            rfl
          have e2 : takeA t 4 2 = (((leN ((t.data.toList.drop 4).take 2) : Nat) : Int), true) := by
            unfold takeA
            rw [if_neg (by omega), if_neg (by omega), if_neg (by omega)]
            rfl
          rw [e4] at t4
          rw [e2] at t2
          unfold decT
          by_cases hz : ∀ c ∈ t.data.toList, c = 0
          · rw [if_pos hz, decide_eq_true hz]
            refine Ev.step (f := fun _ => some _) (fun k => ?_) (Ev.now _)
            simp only [signetref13_Decode.l0, if_true]
            rw [if_neg (by omega)]
          · rw [if_neg hz, decide_eq_false hz]
            generalize hm : leN ((t.data.toList.drop 4).take 2) = m at *
            generalize hn : leN (t.data.toList.take 4) = n at *
            have w2 : Aside0 (wrap64 (m : Int) = (m : Int)) := ⟨by unfold wrap64; omega⟩
            have w3 : Aside0 (wrap64 (8 + (m : Int)) = ((8 + m : Nat) : Int)) := ⟨by unfold wrap64; omega⟩
            have w4 : Aside0 (wrap64 (n : Int) = (n : Int)) := ⟨by unfold wrap64; omega⟩
            have henc := refEncode_ev (n : Int) (t.extract 8 (8 + m)) (by rw [ByteArray.size_extract]; omega)
            refine Ev.step (f := fun k => (signetref01_Take.f k t 0 4).bind fun bt144 => ((signetref01_Take.f k t 4 2).bind fun bt146 => (if bt146.1 > 56 then (some (0, (⟨#[]⟩ : ByteArray), false, 131)) else (if 8 ≤ (wrap64 (8 + (wrap64 (bt146.1)))) then (if (wrap64 (8 + (wrap64 (bt146.1)))) ≤ (t.size : Int) then ((signetref13_Encode.f k (wrap64 (bt144.1)) (t.extract 8 ((wrap64 (8 + (wrap64 (bt146.1)))) : Int).toNat)).bind fun bt149 => (if bt149.2 = 0 then (if bt149.1.toList = t.toList then (some (wrap64 (bt144.1), t.extract 8 ((wrap64 (8 + (wrap64 (bt146.1)))) : Int).toNat, true, 0)) else (some (0, (⟨#[]⟩ : ByteArray), false, 131))) else (some (0, (⟨#[]⟩ : ByteArray), false, 131)))) else (none)) else (none))))) (fun k => ?_) (Ev.bind t4 (Ev.bind t2 ?_))
            · simp only [signetref13_Decode.l0, Bool.false_eq_true, if_false]
              rw [if_neg (by omega)]
            · simp only [w2.out, w3.out, w4.out]
              by_cases hb : 56 < m
              · have hb' : (m : Int) > 56 := by omega
                simp only [if_pos hb', if_pos hb]
                exact Ev.now _
              · have hb' : ¬ (m : Int) > 56 := by omega
                have c1 : (8 : Int) ≤ ((8 + m : Nat) : Int) := by omega
                have c2 : ((8 + m : Nat) : Int) ≤ (t.size : Int) := by omega
                simp only [if_neg hb', if_neg hb, if_pos c1, if_pos c2, Int.toNat_natCast]
                refine Ev.bind henc ?_
                by_cases q1 : (encA (n : Int) (t.extract 8 (8 + m))).2 = 0
                · by_cases q2 : (encA (n : Int) (t.extract 8 (8 + m))).1.toList = t.toList
                  · simp only [if_pos q1, if_pos q2]
                    exact Ev.now _
                  · simp only [if_pos q1, if_neg q2]
                    exact Ev.now _
                · simp only [if_neg q1]
                  exact Ev.now _

/-- An entry's bytes are read back. -/
theorem encB_size (i : Int) (x : ByteArray) (hx : x.size ≤ 56) : (encB i x).size = 64 := by
  rw [Lib.size_eq, encB_data]
  simp only [List.length_append, List.length_map, List.length_cons, List.length_nil, List.length_replicate]
  rw [← Lib.size_eq]
  omega
theorem u8_of (n : Int) (h0 : 0 ≤ n) (h1 : n < 256) : (UInt8.ofNat n.toNat).toNat = n.toNat := by
  rw [UInt8.toNat_ofNat']
  omega
theorem decT_enc (i : Int) (x : ByteArray) (h0 : 1 ≤ i) (h1 : i ≤ 4096) (hc : checkE x = 0) : decT (encB i x) = (i, x, true, 0) := by
  have h56 := checkE_size hc
  have hd := encB_data i x
  have u0 := u8_of (i % 256) (by omega) (by omega)
  have u1 := u8_of (i / 256 % 256) (by omega) (by omega)
  have u2 := u8_of (i / 65536 % 256) (by omega) (by omega)
  have u3 := u8_of (i / 16777216) (by omega) (by omega)
  have v0 := u8_of ((x.size : Int) % 256) (by omega) (by omega)
  have v1 := u8_of ((x.size : Int) / 256) (by omega) (by omega)
  have hn : leN ((encB i x).data.toList.take 4) = i.toNat := by
    rw [hd]
    simp only [List.map_cons, List.map_nil, List.cons_append, List.nil_append, List.take_succ_cons, List.take_zero, leN, u0, u1, u2, u3]
    omega
  have hm : leN (((encB i x).data.toList.drop 4).take 2) = x.size := by
    rw [hd]
    simp only [List.map_cons, List.map_nil, List.cons_append, List.nil_append, List.drop_succ_cons, List.drop_zero, List.take_succ_cons, List.take_zero, leN, v0, v1]
    omega
  have hx : (encB i x).extract 8 (8 + x.size) = x := by
    apply ba_ext
    rw [Lib.extract_data, hd]
    simp only [List.map_cons, List.map_nil, List.cons_append, List.nil_append, List.drop_succ_cons, List.drop_zero]
    rw [show 8 + x.size - 8 = x.data.toList.length from by rw [← Lib.size_eq]; omega, List.take_left' rfl]
  have hnz : ¬ ∀ c ∈ (encB i x).data.toList, c = 0 := by
    intro h
    rw [hd] at h
    have a0 := h (UInt8.ofNat (i % 256).toNat) (by simp)
    have a1 := h (UInt8.ofNat (i / 256 % 256).toNat) (by simp)
    have b0 := congrArg UInt8.toNat a0
    have b1 := congrArg UInt8.toNat a1
    rw [u0] at b0
    rw [u1] at b1
    have c0 : (0 : UInt8).toNat = 0 := rfl
    rw [c0] at b0 b1
    omega
  have hi : ((i.toNat : Nat) : Int) = i := by omega
  have henc : encA i x = (encB i x, 0) := by
    unfold encA
    rw [if_neg (by omega), if_neg (by omega), if_pos hc]
  unfold decT
  rw [if_neg hnz, hn, hm, hi, hx, henc, if_neg (by omega), if_pos rfl, if_pos rfl]

theorem decA_enc (i : Int) (x : ByteArray) (h0 : 1 ≤ i) (h1 : i ≤ 4096) (hc : checkE x = 0) : decA (encB i x) 0 = (i, x, true, 0) := by
  have hz := encB_size i x (checkE_size hc)
  unfold decA
  rw [if_pos ⟨by omega, by omega⟩]
  have e : (encB i x).extract (0 : Int).toNat ((0 : Int) + 64).toNat = encB i x := by
    apply ba_ext
    rw [sl_data _ 0 (by omega)]
    show ((encB i x).data.toList.drop 0).take 64 = _
    rw [List.drop_zero, List.take_of_length_le (by rw [← Lib.size_eq]; omega)]
  rw [e]
  exact decT_enc i x h0 h1 hc

theorem links_one (a : Int) (b : ByteArray) : Ev (fun k => signetlaw13_links.f k [(⟨a, b⟩ : S27)] [(⟨a, b⟩ : S33)]) true := by
  have s0 : wrap64 (0 + 1) = 1 := by unfold wrap64; omega
  refine ⟨3, fun k hk => ?_⟩
  obtain ⟨k, rfl⟩ : ∃ m, k = m + 3 := ⟨k - 3, by omega⟩
  unfold signetlaw13_links.f
  simp only [signetlaw13_links.l0, s0, List.length_cons, List.length_nil, rd_T27, rd_T33]
  simp

theorem encA_cases (i : Int) (x : ByteArray) : (encA i x).2 = 0 ∧ 1 ≤ i ∧ i ≤ 4096 ∧ checkE x = 0 ∧ encA i x = (encB i x, 0) ∨ (encA i x).2 ≠ 0 ∧ (encA i x).1 = ⟨#[]⟩ := by
  unfold encA
  by_cases h1 : i < 1
  · rw [if_pos h1]; exact .inr ⟨by decide, rfl⟩
  · rw [if_neg h1]
    by_cases h2 : 4096 < i
    · rw [if_pos h2]; exact .inr ⟨by decide, rfl⟩
    · rw [if_neg h2]
      by_cases h3 : checkE x = 0
      · rw [if_pos h3]; exact .inl ⟨rfl, by omega, by omega, h3, rfl⟩
      · rw [if_neg h3]; exact .inr ⟨by decide, rfl⟩

theorem NameEntries (i : Int) (x s : ByteArray) (at_ : Int) (_hi : -9223372036854775808 ≤ i ∧ i ≤ 9223372036854775807) (hx : x.size ≤ 140737488351232) (hs : s.size ≤ 140737488351232) (ha : -9223372036854775808 ≤ at_ ∧ at_ ≤ 9223372036854775807) : ∃ k, signetlaw13_NameEntries.f k i x s at_ = some true := by
  refine Ev.rounds ?_
  unfold signetlaw13_NameEntries.f
  simp only [encF, Option.bind_some]
  refine Ev.bind (refEncode_ev i x (by omega)) (Ev.bind (decode_ev s at_ (by omega) ha) (Ev.bind (rdecode_ev s at_ (by omega) ha) ?_))
  simp only [awake_true, Option.bind_some, if_true]
  refine Ev.bind (links_one _ _) ?_
  simp only [if_true, bne_self_eq_false, Bool.false_eq_true, if_false]
  rcases encA_cases i x with ⟨e2, h0, h1, hc, e⟩ | ⟨e2, e1⟩
  · rw [e]
    have hz := encB_size i x (checkE_size hc)
    refine Ev.bind (decode_ev (encB i x) 0 (by omega) ⟨by omega, by omega⟩) ?_
    rw [decA_enc i x h0 h1 hc]
    simp only [if_true, beq_self_eq_true, Bool.and_self]
    exact Ev.now _
  · rw [e1]
    refine Ev.bind (decode_ev (⟨#[]⟩ : ByteArray) 0 (by decide) ⟨by omega, by omega⟩) ?_
    simp only [if_neg e2]
    exact Ev.now _

end Go.Proofs.YtgciocgdppaaiaaDoor.Pure

/- name.FromLeaf: the entries of a leaf. -/
namespace Go.Proofs.YtgciocgdppaaiaaDoor
open Go.RowKit Go.Proofs.YtgciocgdppaaiaaDoorW.PrintWords Go.Proofs.YtgciocgdppaaiaaDoor.P

/-- The entries from a place on: how many places are left, the place, those that are read. -/
def fromE (s : ByteArray) (n : Int) : Nat → Nat → List (Int × ByteArray) → List (Int × ByteArray) × Int
  | 0, _, acc => (acc, 0)
  | g + 1, i, acc =>
    if (Pure.decA s (64 * (i : Int))).2.2.2 = 0 then
      if (Pure.decA s (64 * (i : Int))).2.2.1 = decide ((i : Int) < n) then
        fromE s n g (i + 1) (if (Pure.decA s (64 * (i : Int))).2.2.1 = true then acc ++ [((Pure.decA s (64 * (i : Int))).1, (Pure.decA s (64 * (i : Int))).2.1)] else acc)
      else ([], 131)
    else ([], 131)
/-- What FromLeaf answers. -/
def fromA (s : ByteArray) (n : Int) : List (Int × ByteArray) × Int :=
  if n < 0 then ([], 1) else if 4 < n then ([], 1) else fromE s n 4 0 []
def mk27 (p : Int × ByteArray) : S27 := ⟨p.1, p.2⟩
def mk33 (p : Int × ByteArray) : S33 := ⟨p.1, p.2⟩

set_option maxRecDepth 100000 in
set_option maxHeartbeats 2000000 in
theorem from_any (x : ByteArray) (hx : x.size = 256) (n : Int) (w : World) :
    Calls Tryd.prog 20 #[.agg (blkC x), .int .i64 n] w fun e w' => ∃ v0_ : Value, e = .returned (.tuple #[v0_, .int .i64 (fromA x n).2]) ∧ Kd.R k27 27 w' w.heap.size (fun _ => True) v0_ ((fromA x n).1.map mk27) ∧ Below w.heap.size w w' := by
  have hcs := blkC_size x
  rw [hx] at hcs
  have hT := text_any x hx
  obtain ⟨C, hC⟩ : ∃ C, blkC x = C := ⟨_, rfl⟩
  rw [hC] at hcs hT ⊢
  have hg0 : (w.alloc (Obj.cells C 43)).heap[w.heap.size]? = some (.cells C 43 (0, 0)) := alloc_new w _
  have hb0 : Below w.heap.size w (w.alloc (Obj.cells C 43)) := (Below.refl _ _).alloc (Nat.le_refl _) _
  obtain ⟨R, hR⟩ : ∃ R, fromA x n = R := ⟨_, rfl⟩
  by_cases h0 : n < 0
  · have hd : decide (n < 0) = true := decide_eq_true h0
    have hRe : R = ([], 1) := by rw [← hR, fromA, if_pos h0]
    have hR1 : R.1 = [] := by rw [hRe]
    have hR2 : R.2 = 1 := by rw [hRe]
    rw [hR, hR1, hR2]
    clear hR hRe hR1 hR2
    go_enter Tryd.func20, Tryd.ntmps20
    go_wp2
    go_ret2
    exact ⟨_, rfl, Kd.R_nil _ _ _ _ _, hb0⟩
  by_cases h4 : 4 < n
  · have hd : decide (n < 0) = false := decide_eq_false h0
    have hd4 : decide (4 < n) = true := decide_eq_true h4
    have hRe : R = ([], 1) := by rw [← hR, fromA, if_neg h0, if_pos h4]
    have hR1 : R.1 = [] := by rw [hRe]
    have hR2 : R.2 = 1 := by rw [hRe]
    rw [hR, hR1, hR2]
    clear hR hRe hR1 hR2
    go_enter Tryd.func20, Tryd.ntmps20
    go_wp2
    go_ret2
    exact ⟨_, rfl, Kd.R_nil _ _ _ _ _, hb0⟩
  have hd : decide (n < 0) = false := decide_eq_false h0
  have hd4 : decide (4 < n) = false := decide_eq_false h4
  have hE : Aside0 (fromE x n 4 0 [] = R) := ⟨by rw [← hR, fromA, if_neg h0, if_neg h4]⟩
  rw [hR]
  clear hR
  go_enter Tryd.func20, Tryd.ntmps20
  go_wp2
  refine wp_load_row 43 _ rfl w.heap.size rfl 43 C (0, 0) _ hg0 Tryd.underlying43 rfl (by rw [hcs]; exact i43) ?_
  go_wp2_with (go_at_call 43; refine (hT _).mono ?_; rintro e w2 ⟨rfl, hb⟩)
  have hb1 : Below w.heap.size w w2 := hb0.trans (hb.mono hb0.size)
  clear hT hC hcs hg0 hb0 hb
  go_loopg [7, 20] 4 (fun g v7 v20 wx => ∃ (i : Nat) (acc : List (Int × ByteArray)), i + g = 4 ∧ v20 = .int .i64 (i : Int) ∧ acc.length ≤ i ∧ Aside0 (fromE x n g i acc = R) ∧ Aside0 (Kd.R k27 27 wx w.heap.size (fun _ => True) v7 (acc.map mk27)) ∧ Below w.heap.size w wx)
  case atStart => exact ⟨0, [], by omega, rfl, by simp, hE, ⟨Kd.R_nil _ _ _ _ _⟩, hb1⟩
  case round =>
    obtain ⟨i, acc, hig, rfl, hla, hfe, HO, hbx⟩ := hrel
    cases gk with
    | zero =>
      have hi : i = 4 := by omega
      subst hi
      have h1 := hfe.out
      rw [fromE] at h1
      have hR1 : R.1 = acc := by rw [← h1]
      have hR2 : R.2 = 0 := by rw [← h1]
      clear hfe h1 hE
      go_wp2
      go_ret2
      exact ⟨_, rfl, HO.out, hbx⟩
    | succ g =>
      have hi : i < 4 := by omega
      have h1 := hfe.out
      rw [fromE] at h1
      obtain ⟨kE, hkE⟩ := Pure.decode_ev x (64 * (i : Int)) (by omega) (by omega)
      have hDec := fun W => name_Decode.calls kE x (64 * (i : Int)) (Pure.decA x (64 * (i : Int))).1 (Pure.decA x (64 * (i : Int))).2.1 (Pure.decA x (64 * (i : Int))).2.2.1 (Pure.decA x (64 * (i : Int))).2.2.2 W (hkE kE (Nat.le_refl _))
      clear hkE
      generalize (Pure.decA x (64 * (i : Int))).1 = d1 at *
      generalize (Pure.decA x (64 * (i : Int))).2.1 = d2 at *
      generalize (Pure.decA x (64 * (i : Int))).2.2.1 = d3 at *
      generalize (Pure.decA x (64 * (i : Int))).2.2.2 = d4 at *
      rw [show 64 * (i : Int) = (i : Int) * 64 from by omega] at hDec
      have hd5 : decide ((i : Int) < 4) = true := decide_eq_true (by omega)
      by_cases he0 : d4 = 0
      · rw [if_pos he0] at h1
        subst he0
        by_cases hin : (i : Int) < n
        · have hdn : decide ((i : Int) < n) = true := decide_eq_true hin
          rw [hdn] at h1
          cases d3
          · rw [if_neg (by decide)] at h1
            have hR1 : R.1 = [] := by rw [← h1]
            have hR2 : R.2 = 131 := by rw [← h1]
            clear hfe h1 hE HO
            go_wp2_with (go_at_call 14; refine (hDec _).mono ?_; rintro e w2 ⟨rfl, hb⟩)
            go_ret2
            exact ⟨_, (by first | rfl | (rw [hR2]; rfl)), (by first | exact Kd.R_nil _ _ _ _ _ | (rw [hR1]; exact Kd.R_nil _ _ _ _ _)), below_alloc (hbx.trans (hb.mono hbx.size)) _⟩
          · rw [if_pos rfl, if_pos rfl] at h1
            go_wp2_with (first | (go_at_call 14; refine (hDec _).mono ?_; rintro e w2 ⟨rfl, hb⟩; have hb2 := hbx.trans (hb.mono hbx.size); have HO2 := Kd.R_below HO.out (hb.mono (Nat.le_refl _))) | ((with_reducible refine gate_builtin (b := .append) (xs := #[.tmp 41, .tmp 43]) rfl ?_); at_builtin; refine Kd.R_append k27 (w0 := w) w.heap.size rfl (.tmp 41) (.tmp 43) 39 27 (.agg #[(.int .i64 0), (.string ⟨#[]⟩)]) 24 rfl Tryd.underlying39 info27 rfl (by decide) (by omega) u7 (acc.map mk27) (⟨d1, d2⟩ : S27) [.int .i64 d1, .string d2] (fun _ => True) (fun _ => False) rfl (by first | rfl | (simp; done) | (simp; rfl)) ?aP (fun _ hk => hk.elim) ?aF ?aO ?aB ?aS ?aL ?_; (case aP => exact k27_mkM _ _ _ (⟨d1, d2⟩ : S27)); (case aB => exact below_alloc hb2 _); (case aF => exact (fun _ _ => trivial)); (case aO => exact Kd.R_alloc HO2 _); (case aS => exact below_size (below_alloc hb2 _)); (case aL => rw [List.length_map]; omega); intro v1 w3 ho3 hb3 hg3 hat3))
            go_roundg g
            case measure => omega
            case rel => exact ⟨i + 1, acc ++ [(d1, d2)], by omega, by push_cast; rfl, by rw [List.length_append]; simp; omega, ⟨h1⟩, ⟨by rw [List.map_append]; exact ho3⟩, hb3⟩
        · have hdn : decide ((i : Int) < n) = false := decide_eq_false hin
          rw [hdn] at h1
          cases d3
          · rw [if_pos rfl, if_neg (by decide)] at h1
            go_wp2_with (go_at_call 14; refine (hDec _).mono ?_; rintro e w2 ⟨rfl, hb⟩; have hb2 := hbx.trans (hb.mono hbx.size); have HO2 := Kd.R_below HO.out (hb.mono (Nat.le_refl _)))
            go_roundg g
            case measure => omega
            case rel => exact ⟨i + 1, acc, by omega, by push_cast; rfl, by omega, ⟨h1⟩, ⟨Kd.R_alloc HO2 _⟩, below_alloc hb2 _⟩
          · rw [if_neg (by decide)] at h1
            have hR1 : R.1 = [] := by rw [← h1]
            have hR2 : R.2 = 131 := by rw [← h1]
            clear hfe h1 hE HO
            go_wp2_with (go_at_call 14; refine (hDec _).mono ?_; rintro e w2 ⟨rfl, hb⟩)
            go_ret2
            exact ⟨_, (by first | rfl | (rw [hR2]; rfl)), (by first | exact Kd.R_nil _ _ _ _ _ | (rw [hR1]; exact Kd.R_nil _ _ _ _ _)), below_alloc (hbx.trans (hb.mono hbx.size)) _⟩
      · rw [if_neg he0] at h1
        have hR1 : R.1 = [] := by rw [← h1]
        have hR2 : R.2 = 131 := by rw [← h1]
        have hd6 : decide (d4 = 0) = false := decide_eq_false he0
        clear hfe h1 hE HO
        go_wp2_with (go_at_call 14; refine (hDec _).mono ?_; rintro e w2 ⟨rfl, hb⟩)
        go_ret2
        exact ⟨_, (by first | rfl | (rw [hR2]; rfl)), (by first | exact Kd.R_nil _ _ _ _ _ | (rw [hR1]; exact Kd.R_nil _ _ _ _ _)), below_alloc (hbx.trans (hb.mono hbx.size)) _⟩

end Go.Proofs.YtgciocgdppaaiaaDoor

/- signetref13.FromLeaf: the entries of a leaf. -/
namespace Go.Proofs.YtgciocgdppaaiaaDoor
open Go.RowKit Go.Proofs.YtgciocgdppaaiaaDoorW.PrintWords Go.Proofs.YtgciocgdppaaiaaDoor.P

set_option maxRecDepth 100000 in
set_option maxHeartbeats 4000000 in
theorem rfrom_any (x : ByteArray) (hx : x.size = 256) (n : Int) (w : World) :
    Calls Tryd.prog 21 #[.agg (blkC x), .int .i64 n] w fun e w' => ∃ v0_ : Value, e = .returned (.tuple #[v0_, .int .i64 (fromA x n).2]) ∧ Kd.R k33 33 w' w.heap.size (fun _ => True) v0_ ((fromA x n).1.map mk33) ∧ Below w.heap.size w w' := by
  have hcs := blkC_size x
  rw [hx] at hcs
  have hg := blkC_get x
  rw [hx] at hg
  have hxs := ints_str x
  obtain ⟨xs, hX⟩ : ∃ xs, (x.data.toList.map fun b => (b.toNat : Int)) = xs := ⟨_, rfl⟩
  have hxl : xs.length = 256 := by rw [← hX, List.length_map, ← Lib.size_eq, hx]
  rw [hX] at hg hxs
  obtain ⟨C, hC⟩ : ∃ C, blkC x = C := ⟨_, rfl⟩
  rw [hC] at hcs hg ⊢
  have hg0 : (w.alloc (Obj.cells C 42)).heap[w.heap.size]? = some (.cells C 42 (0, 0)) := alloc_new w _
  have hb0 : Below w.heap.size w (w.alloc (Obj.cells C 42)) := (Below.refl _ _).alloc (Nat.le_refl _) _
  have kc : ∀ W : World, W.heap[w.heap.size]? = some (.cells C 42 (0, 0)) → (convert 70 9 (.slice (some ⟨w.heap.size, 0, none⟩) 256 256)).run Tryd.prog W = .ok (.string x) W := by
    intro W hW
    have h := run_convert_bytes_arg W 70 5 Tryd.underlying70 Tryd.underlying5 w.heap.size 0 256 256 xs hxl (fun i hi => by
      rw [Nat.zero_add]
      exact cells_at hW i _ (hg i hi)) 9 Tryd.underlying9
    rw [hxs] at h
    exact h
  obtain ⟨R, hR⟩ : ∃ R, fromA x n = R := ⟨_, rfl⟩
  by_cases h0 : n < 0
  · have hd : decide (n < 0) = true := decide_eq_true h0
    have hRe : R = ([], 1) := by rw [← hR, fromA, if_pos h0]
    have hR1 : R.1 = [] := by rw [hRe]
    have hR2 : R.2 = 1 := by rw [hRe]
    rw [hR]
    clear hR hRe
    go_enter Tryd.func21, Tryd.ntmps21
    go_wp2_with ((with_reducible refine gate_dst (N := 17) rfl ?_); refine Kd.R_lit k33 w.heap.size 33 ?hg (N := 17) ?hd (xs := ([] : List S33)) (inner := []) (ok := fun _ => True) (okp := fun _ => True) ?hr ?hp (fun _ hk => hk) trivial hb0 hb0.size (by simp) ?_; (case hd => rfl); (case hg => rfl); (case hr => first | (go_simp; done) | (go_simp; rfl)); (case hp => exact (Reps.none _ _)); intro v1 w2 ho hb hg_ hnew_)
    go_ret2
    exact ⟨_, (by first | rfl | (rw [hR2]; rfl)), (by first | exact ho | (rw [hR1]; exact ho)), hb⟩
  by_cases h4 : 4 < n
  · have hd : decide (n < 0) = false := decide_eq_false h0
    have hd4 : decide (4 < n) = true := decide_eq_true h4
    have hRe : R = ([], 1) := by rw [← hR, fromA, if_neg h0, if_pos h4]
    have hR1 : R.1 = [] := by rw [hRe]
    have hR2 : R.2 = 1 := by rw [hRe]
    rw [hR]
    clear hR hRe
    go_enter Tryd.func21, Tryd.ntmps21
    go_wp2_with ((with_reducible refine gate_dst (N := 17) rfl ?_); refine Kd.R_lit k33 w.heap.size 33 ?hg (N := 17) ?hd (xs := ([] : List S33)) (inner := []) (ok := fun _ => True) (okp := fun _ => True) ?hr ?hp (fun _ hk => hk) trivial hb0 hb0.size (by simp) ?_; (case hd => rfl); (case hg => rfl); (case hr => first | (go_simp; done) | (go_simp; rfl)); (case hp => exact (Reps.none _ _)); intro v1 w2 ho hb hg_ hnew_)
    go_ret2
    exact ⟨_, (by first | rfl | (rw [hR2]; rfl)), (by first | exact ho | (rw [hR1]; exact ho)), hb⟩
  have hd : decide (n < 0) = false := decide_eq_false h0
  have hd4 : decide (4 < n) = false := decide_eq_false h4
  have hE : Aside0 (fromE x n 4 0 [] = R) := ⟨by rw [← hR, fromA, if_neg h0, if_neg h4]⟩
  rw [hR]
  clear hR
  obtain ⟨W0, hW0⟩ : ∃ W0, w.alloc (Obj.cells C 42) = W0 := ⟨_, rfl⟩
  rw [hW0] at hg0 hb0
  go_enter Tryd.func21, Tryd.ntmps21
  go_wp2_with ((with_reducible refine gate_dst (N := 18) rfl ?_); refine Kd.R_lit k33 w.heap.size 33 ?hg (N := 18) ?hd (xs := ([] : List S33)) (inner := []) (ok := fun _ => True) (okp := fun _ => True) ?hr ?hp (fun _ hk => hk) trivial hb0 hb0.size (by simp) ?_; (case hd => rfl); (case hg => rfl); (case hr => first | (go_simp; done) | (go_simp; rfl)); (case hp => exact (Reps.none _ _)); intro v1 w2 ho hb1 hg_ hnew_)
  have hg1 : w2.heap[w.heap.size]? = some (.cells C 42 (0, 0)) := (hg_.block _ (Array.getElem?_eq_some_iff.1 hg0).1 (by simp)).trans hg0
  clear hg_ hnew_ hg0 hb0 hg hxs
  go_loopg [6, 7] 4 (fun g v6 v7 wx => ∃ (i : Nat) (acc : List (Int × ByteArray)), i + g = 4 ∧ v7 = .int .i64 (i : Int) ∧ acc.length ≤ i ∧ Aside0 (fromE x n g i acc = R) ∧ Aside0 (Kd.R k33 33 wx w.heap.size (fun k => k ≠ w.heap.size) v6 (acc.map mk33)) ∧ wx.heap[w.heap.size]? = some (.cells C 42 (0, 0)) ∧ Below w.heap.size w wx)
  case atStart => exact ⟨0, [], by omega, rfl, by simp, hE, ⟨Kd.R_mono (Kd.R_types ho hg1 (by decide)) (fun _ h => h.2)⟩, hg1, hb1⟩
  case round =>
    obtain ⟨i, acc, hig, rfl, hla, hfe, HO, hgx, hbx⟩ := hrel
    cases gk with
    | zero =>
      have hi : i = 4 := by omega
      subst hi
      have h1 := hfe.out
      rw [fromE] at h1
      have hR1 : R.1 = acc := by rw [← h1]
      have hR2 : R.2 = 0 := by rw [← h1]
      clear hfe h1 hE
      go_wp2
      go_ret2
      exact ⟨_, (by first | rfl | (rw [hR2]; rfl)), (by first | exact Kd.R_mono HO.out (fun _ _ => trivial) | (rw [hR1]; exact Kd.R_mono HO.out (fun _ _ => trivial))), hbx⟩
    | succ g =>
      have hi : i < 4 := by omega
      have h1 := hfe.out
      rw [fromE] at h1
      obtain ⟨kE, hkE⟩ := Pure.rdecode_ev x (64 * (i : Int)) (by omega) (by omega)
      have hDec := fun W => signetref13_Decode.calls kE x (64 * (i : Int)) (Pure.decA x (64 * (i : Int))).1 (Pure.decA x (64 * (i : Int))).2.1 (Pure.decA x (64 * (i : Int))).2.2.1 (Pure.decA x (64 * (i : Int))).2.2.2 W (hkE kE (Nat.le_refl _))
      clear hkE
      generalize (Pure.decA x (64 * (i : Int))).1 = d1 at *
      generalize (Pure.decA x (64 * (i : Int))).2.1 = d2 at *
      generalize (Pure.decA x (64 * (i : Int))).2.2.1 = d3 at *
      generalize (Pure.decA x (64 * (i : Int))).2.2.2 = d4 at *
      have hd5 : decide ((i : Int) < 4) = true := decide_eq_true (by omega)
      have kcx := kc wr hgx
      by_cases he0 : d4 = 0
      · rw [if_pos he0] at h1
        subst he0
        by_cases hin : (i : Int) < n
        · have hdn : decide ((i : Int) < n) = true := decide_eq_true hin
          rw [hdn] at h1
          cases d3
          · rw [if_neg (by decide)] at h1
            have hR1 : R.1 = [] := by rw [← h1]
            have hR2 : R.2 = 131 := by rw [← h1]
            clear hfe h1 hE
            go_wp2_with (first | (go_at_call 15; refine (hDec _).mono ?_; rintro e w2 ⟨rfl, hb⟩; have hb2 := hbx.trans (hb.mono hbx.size); have hg2 := (hb.block _ (Array.getElem?_eq_some_iff.1 hgx).1).trans hgx; have HO2 := Kd.R_below HO.out (hb.mono (Nat.le_refl _))) | ((with_reducible refine gate_dst (N := 41) rfl ?_); refine Kd.R_lit k33 w.heap.size 33 ?hg (N := 41) ?hd (xs := ([] : List S33)) (inner := []) (ok := fun _ => True) (okp := fun _ => True) ?hr ?hp (fun _ hk => hk) trivial (below_alloc hb2 _) (below_size (below_alloc hb2 _)) (by simp) ?_; (case hd => rfl); (case hg => rfl); (case hr => first | (go_simp; done) | (go_simp; rfl)); (case hp => exact (Reps.none _ _)); intro v1 w3 ho3 hb3 hg3 hnew3))
            go_ret2
            exact ⟨_, (by first | rfl | (rw [hR2]; rfl)), (by first | exact ho3 | (rw [hR1]; exact ho3)), hb3⟩
          · rw [if_pos rfl, if_pos rfl] at h1
            go_wp2_with (first | (go_at_call 15; refine (hDec _).mono ?_; rintro e w2 ⟨rfl, hb⟩; have hb2 := hbx.trans (hb.mono hbx.size); have hg2 := (hb.block _ (Array.getElem?_eq_some_iff.1 hgx).1).trans hgx; have HO2 := Kd.R_below HO.out (hb.mono (Nat.le_refl _))) | ((with_reducible refine gate_builtin (b := .append) (xs := #[.tmp 43, .tmp 45]) rfl ?_); at_builtin; refine Kd.R_append k33 (w0 := w) w.heap.size rfl (.tmp 43) (.tmp 45) 40 33 (.agg #[(.int .i64 0), (.string ⟨#[]⟩)]) 24 rfl Tryd.underlying40 info33 rfl (by decide) (by omega) u6 (acc.map mk33) (⟨d1, d2⟩ : S33) [.int .i64 d1, .string d2] (fun k => k ≠ w.heap.size) (fun _ => False) rfl (by first | rfl | (simp; done) | (simp; rfl)) ?aP (fun _ hk => hk.elim) ?aF ?aO ?aB ?aS ?aL ?_; (case aP => exact k33_mkM _ _ _ (⟨d1, d2⟩ : S33)); (case aB => exact below_alloc hb2 _); (case aF => exact Kd.freshB (blk_alloc hg2 _)); (case aO => exact Kd.R_alloc HO2 _); (case aS => exact below_size (below_alloc hb2 _)); (case aL => rw [List.length_map]; omega); intro v1 w3 ho3 hb3 hg3 hat3; have hgn := blk_grown (blk_alloc hg2 _) hg3 (Kd.R_away HO2 (fun _ h => h))))
            go_roundg g
            case measure => omega
            case rel => exact ⟨i + 1, acc ++ [(d1, d2)], by omega, by push_cast; rfl, by rw [List.length_append]; simp; omega, ⟨h1⟩, ⟨by rw [List.map_append]; exact ho3⟩, hgn, hb3⟩
        · have hdn : decide ((i : Int) < n) = false := decide_eq_false hin
          rw [hdn] at h1
          cases d3
          · rw [if_pos rfl, if_neg (by decide)] at h1
            go_wp2_with (go_at_call 15; refine (hDec _).mono ?_; rintro e w2 ⟨rfl, hb⟩; have hb2 := hbx.trans (hb.mono hbx.size); have hg2 := (hb.block _ (Array.getElem?_eq_some_iff.1 hgx).1).trans hgx; have HO2 := Kd.R_below HO.out (hb.mono (Nat.le_refl _)))
            go_roundg g
            case measure => omega
            case rel => exact ⟨i + 1, acc, by omega, by push_cast; rfl, by omega, ⟨h1⟩, ⟨Kd.R_alloc HO2 _⟩, blk_alloc hg2 _, below_alloc hb2 _⟩
          · rw [if_neg (by decide)] at h1
            have hR1 : R.1 = [] := by rw [← h1]
            have hR2 : R.2 = 131 := by rw [← h1]
            clear hfe h1 hE
            go_wp2_with (first | (go_at_call 15; refine (hDec _).mono ?_; rintro e w2 ⟨rfl, hb⟩; have hb2 := hbx.trans (hb.mono hbx.size); have hg2 := (hb.block _ (Array.getElem?_eq_some_iff.1 hgx).1).trans hgx; have HO2 := Kd.R_below HO.out (hb.mono (Nat.le_refl _))) | ((with_reducible refine gate_dst (N := 41) rfl ?_); refine Kd.R_lit k33 w.heap.size 33 ?hg (N := 41) ?hd (xs := ([] : List S33)) (inner := []) (ok := fun _ => True) (okp := fun _ => True) ?hr ?hp (fun _ hk => hk) trivial (below_alloc hb2 _) (below_size (below_alloc hb2 _)) (by simp) ?_; (case hd => rfl); (case hg => rfl); (case hr => first | (go_simp; done) | (go_simp; rfl)); (case hp => exact (Reps.none _ _)); intro v1 w3 ho3 hb3 hg3 hnew3))
            go_ret2
            exact ⟨_, (by first | rfl | (rw [hR2]; rfl)), (by first | exact ho3 | (rw [hR1]; exact ho3)), hb3⟩
      · rw [if_neg he0] at h1
        have hR1 : R.1 = [] := by rw [← h1]
        have hR2 : R.2 = 131 := by rw [← h1]
        have hd6 : decide (d4 = 0) = false := decide_eq_false he0
        clear hfe h1 hE
        go_wp2_with (first | (go_at_call 15; refine (hDec _).mono ?_; rintro e w2 ⟨rfl, hb⟩; have hb2 := hbx.trans (hb.mono hbx.size); have hg2 := (hb.block _ (Array.getElem?_eq_some_iff.1 hgx).1).trans hgx; have HO2 := Kd.R_below HO.out (hb.mono (Nat.le_refl _))) | ((with_reducible refine gate_dst (N := 41) rfl ?_); refine Kd.R_lit k33 w.heap.size 33 ?hg (N := 41) ?hd (xs := ([] : List S33)) (inner := []) (ok := fun _ => True) (okp := fun _ => True) ?hr ?hp (fun _ hk => hk) trivial (below_alloc hb2 _) (below_size (below_alloc hb2 _)) (by simp) ?_; (case hd => rfl); (case hg => rfl); (case hr => first | (go_simp; done) | (go_simp; rfl)); (case hp => exact (Reps.none _ _)); intro v1 w3 ho3 hb3 hg3 hnew3))
        go_ret2
        exact ⟨_, (by first | rfl | (rw [hR2]; rfl)), (by first | exact ho3 | (rw [hR1]; exact ho3)), hb3⟩

end Go.Proofs.YtgciocgdppaaiaaDoor

/- The plain laws of leaves. -/
namespace Go.Proofs.YtgciocgdppaaiaaDoor
open Go.RowKit Go.Proofs.YtgciocgdppaaiaaDoorW.PrintWords Go.Proofs.YtgciocgdppaaiaaDoor.P

theorem rd27 (ps : List (Int × ByteArray)) (i : Nat) (h : i < ps.length) : rd_T27 (ps.map mk27) (i : Int) = mk27 ps[i] := by
  unfold rd_T27
  rw [Int.toNat_natCast, List.getD_eq_getElem?_getD, List.getElem?_map, List.getElem?_eq_getElem h]
  rfl
theorem rd33 (ps : List (Int × ByteArray)) (i : Nat) (h : i < ps.length) : rd_T33 (ps.map mk33) (i : Int) = mk33 ps[i] := by
  unfold rd_T33
  rw [Int.toNat_natCast, List.getD_eq_getElem?_getD, List.getElem?_map, List.getElem?_eq_getElem h]
  rfl

theorem links_l (ps : List (Int × ByteArray)) (hn : ps.length ≤ 5864062014634) : ∀ g i, i + g = ps.length → Ev (fun k => signetlaw13_links.l0 k (ps.map mk27) (ps.map mk33) (i : Int)) true
  | 0, i, h => by
    refine Ev.step (f := fun _ => some true) (fun k => ?_) (Ev.now _)
    simp only [signetlaw13_links.l0, List.length_map]
    rw [if_neg (by omega)]
  | g + 1, i, h => by
    have hi : i < ps.length := by omega
    refine Ev.step (fun k => ?_) (links_l ps hn g (i + 1) (by omega))
    simp only [signetlaw13_links.l0, List.length_map]
    rw [if_pos (by omega), if_pos (by omega), if_pos (by omega), rd27 ps i hi, rd33 ps i hi]
    rw [if_pos (show (mk27 ps[i]).f0 = (mk33 ps[i]).f0 from rfl), if_pos (show (mk27 ps[i]).f1.toList = (mk33 ps[i]).f1.toList from rfl)]
    have e : wrap64 ((i : Int) + 1) = ((i + 1 : Nat) : Int) := by unfold wrap64; omega
    rw [e]
theorem links_ev (ps : List (Int × ByteArray)) (hn : ps.length ≤ 5864062014634) : Ev (fun k => signetlaw13_links.f k (ps.map mk27) (ps.map mk33)) true := by
  unfold signetlaw13_links.f
  simp only [List.length_map, if_true]
  exact links_l ps hn ps.length 0 (by omega)

theorem given_l (ps : List (Int × ByteArray)) (hn : ps.length ≤ 5864062014634) : ∀ g i acc, i + g = ps.length → acc = (ps.take i).map mk33 → Ev (fun k => signetlaw13_given.l0 k (ps.map mk27) acc (i : Int)) (ps.map mk33)
  | 0, i, acc, h, ha => by
    refine Ev.step (f := fun _ => some (ps.map mk33)) (fun k => ?_) (Ev.now _)
    simp only [signetlaw13_given.l0, List.length_map]
    rw [if_neg (by omega), ha, List.take_of_length_le (by omega)]
  | g + 1, i, acc, h, ha => by
    have hi : i < ps.length := by omega
    refine Ev.step (fun k => ?_) (given_l ps hn g (i + 1) (acc ++ [mk33 ps[i]]) (by omega) (by rw [ha, List.take_succ_eq_append_getElem hi, List.map_append]; rfl))
    simp only [signetlaw13_given.l0, List.length_map]
    have hal : acc.length = i := by rw [ha, List.length_map, List.length_take]; omega
    rw [if_pos (by omega), if_pos (by omega), if_pos (by omega), rd27 ps i hi]
    have e : wrap64 ((i : Int) + 1) = ((i + 1 : Nat) : Int) := by unfold wrap64; omega
    rw [e]
    rfl
theorem given_ev (ps : List (Int × ByteArray)) (hn : ps.length ≤ 5864062014634) : Ev (fun k => signetlaw13_given.f k (ps.map mk27)) (ps.map mk33) := by
  unfold signetlaw13_given.f
  exact given_l ps hn ps.length 0 [] (by omega) (by simp)

theorem leafG_eq : ∀ (ps : List (Int × ByteArray)) (acc : ByteArray), leafG (ps.map mk33) acc = leafE (ps.map mk27) acc
  | [], _ => rfl
  | p :: ps, acc => by
    show (if _ then _ else _) = (if _ then _ else _)
    rw [leafG_eq ps]
    rfl
theorem leafE_size : ∀ (l : List S27) (acc : ByteArray), (leafE l acc).2 = 0 → (leafE l acc).1.size ≤ acc.size + 64 * l.length
  | [], _, _ => by simp [leafE]
  | x :: xs, acc, h => by
    rw [leafE] at h ⊢
    split at h
    · rw [if_pos (by assumption)]
      have h2 := leafE_size xs _ h
      have h3 := encA_size x.f0 x.f1
      rw [ByteArray.size_append] at h2
      rw [List.length_cons]
      omega
    · contradiction
theorem leafB_eq (ps : List (Int × ByteArray)) : leafB (ps.map mk33) = leafA (ps.map mk27) := by
  unfold leafB leafA
  rw [leafG_eq, List.length_map, List.length_map]
  by_cases h4 : 4 < ps.length
  · rw [if_pos h4, if_pos h4]
  · rw [if_neg h4, if_neg h4]
    by_cases he : (leafE (ps.map mk27) ⟨#[]⟩).2 = 0
    · rw [if_pos he, if_pos he]
      have h := leafE_size (ps.map mk27) ⟨#[]⟩ he
      rw [List.length_map] at h
      unfold ofC
      rw [if_pos (by have : (⟨#[]⟩ : ByteArray).size = 0 := rfl; omega)]
    · rw [if_neg he, if_neg he]

end Go.Proofs.YtgciocgdppaaiaaDoor

/- A leaf of entries, read back: the same entries. -/
namespace Go.Proofs.YtgciocgdppaaiaaDoor
open Go.RowKit Go.Proofs.YtgciocgdppaaiaaDoorW.PrintWords Go.Proofs.YtgciocgdppaaiaaDoor.P

/-- The bytes of entries, one behind the other. -/
def catL : List (Int × ByteArray) → List UInt8
  | [] => []
  | p :: ps => (encB p.1 p.2).data.toList ++ catL ps
/-- The bytes of their leaf. -/
def padB (ps : List (Int × ByteArray)) : ByteArray := Pure.ofL (catL ps ++ List.replicate (256 - 64 * ps.length) 0)
def goodE (p : Int × ByteArray) : Prop := 1 ≤ p.1 ∧ p.1 ≤ 4096 ∧ checkE p.2 = 0

theorem leafE_ok : ∀ (ps : List (Int × ByteArray)) (acc : ByteArray), (leafE (ps.map mk27) acc).2 = 0 → (leafE (ps.map mk27) acc).1 = acc ++ Pure.ofL (catL ps) ∧ ∀ p ∈ ps, goodE p
  | [], acc, _ => ⟨by
      apply Pure.ba_ext
      rw [Pure.app_data, Pure.data_ofL]
      simp [leafE, catL], by simp⟩
  | p :: ps, acc, h => by
    rcases Pure.encA_cases p.1 p.2 with ⟨e2, h0, h1, hc, e⟩ | ⟨e2, _⟩
    · have hs : leafE ((p :: ps).map mk27) acc = leafE (ps.map mk27) (acc ++ encB p.1 p.2) := by
        show (if (encA p.1 p.2).2 = 0 then leafE (ps.map mk27) (acc ++ (encA p.1 p.2).1) else _) = _
        rw [if_pos e2, e]
      rw [hs] at h ⊢
      obtain ⟨i1, i2⟩ := leafE_ok ps _ h
      refine ⟨?_, ?_⟩
      · rw [i1]
        apply Pure.ba_ext
        simp only [Pure.app_data, Pure.data_ofL, catL, List.append_assoc]
      · intro q hq
        rcases List.mem_cons.1 hq with rfl | hq
        · exact ⟨h0, h1, hc⟩
        · exact i2 q hq
    · exfalso
      have hs : leafE ((p :: ps).map mk27) acc = (⟨#[]⟩, (encA p.1 p.2).2) := by
        show (if (encA p.1 p.2).2 = 0 then leafE (ps.map mk27) (acc ++ (encA p.1 p.2).1) else _) = _
        rw [if_neg e2]
        rfl
      rw [hs] at h
      exact e2 h

theorem enc_len (p : Int × ByteArray) (h : goodE p) : (encB p.1 p.2).data.toList.length = 64 := by
  rw [← Lib.size_eq]
  exact encB_64 _ _ (checkE_size h.2.2)
theorem catL_len : ∀ (ps : List (Int × ByteArray)), (∀ p ∈ ps, goodE p) → (catL ps).length = 64 * ps.length
  | [], _ => rfl
  | p :: ps, h => by
    rw [catL, List.length_append, enc_len p (h p (by simp)), catL_len ps (fun q hq => h q (by simp [hq])), List.length_cons]
    omega
theorem cat_at : ∀ (ps : List (Int × ByteArray)) (rest : List UInt8) (i : Nat) (hi : i < ps.length), (∀ p ∈ ps, goodE p) → ((catL ps ++ rest).drop (64 * i)).take 64 = (encB ps[i].1 ps[i].2).data.toList
  | [], _, _, hi, _ => absurd hi (by simp)
  | p :: ps, rest, 0, hi, h => by
    show (((encB p.1 p.2).data.toList ++ catL ps ++ rest).drop 0).take 64 = (encB p.1 p.2).data.toList
    rw [List.drop_zero, List.append_assoc, List.take_left' (enc_len p (h p (by simp)))]
  | p :: ps, rest, i + 1, hi, h => by
    have h64 := enc_len p (h p (by simp))
    rw [show 64 * (i + 1) = 64 + 64 * i by omega, ← List.drop_drop]
    show (((((encB p.1 p.2).data.toList ++ catL ps) ++ rest).drop 64).drop (64 * i)).take 64 = (encB (ps[i]'(by simpa using hi)).1 (ps[i]'(by simpa using hi)).2).data.toList
    rw [List.append_assoc, List.drop_left' h64]
    exact cat_at ps rest i (by simpa using hi) (fun q hq => h q (by simp [hq]))
theorem padB_size (ps : List (Int × ByteArray)) (h4 : ps.length ≤ 4) (h : ∀ p ∈ ps, goodE p) : (padB ps).size = 256 := by
  unfold padB
  rw [Pure.size_ofL, List.length_append, catL_len ps h, List.length_replicate]
  omega
theorem pad_in (ps : List (Int × ByteArray)) (h4 : ps.length ≤ 4) (h : ∀ p ∈ ps, goodE p) (i : Nat) (hi : i < ps.length) : Pure.decA (padB ps) (64 * (i : Int)) = (ps[i].1, ps[i].2, true, 0) := by
  have hs := padB_size ps h4 h
  have hg := h ps[i] (List.getElem_mem hi)
  unfold Pure.decA
  rw [if_pos ⟨by omega, by omega⟩]
  have e : (padB ps).extract (64 * (i : Int)).toNat (64 * (i : Int) + 64).toNat = encB ps[i].1 ps[i].2 := by
    apply Pure.ba_ext
    rw [Pure.sl_data _ _ (by omega)]
    show ((padB ps).data.toList.drop (64 * (i : Int)).toNat).take 64 = _
    rw [show (64 * (i : Int)).toNat = 64 * i by omega]
    exact cat_at ps _ i hi h
  rw [e]
  exact Pure.decT_enc _ _ hg.1 hg.2.1 hg.2.2
theorem pad_out (ps : List (Int × ByteArray)) (h4 : ps.length ≤ 4) (h : ∀ p ∈ ps, goodE p) (i : Nat) (hi : ps.length ≤ i) (hi4 : i < 4) : Pure.decA (padB ps) (64 * (i : Int)) = (0, ⟨#[]⟩, false, 0) := by
  have hs := padB_size ps h4 h
  have hc := catL_len ps h
  unfold Pure.decA
  rw [if_pos ⟨by omega, by omega⟩]
  have e : ((padB ps).extract (64 * (i : Int)).toNat (64 * (i : Int) + 64).toNat).data.toList = List.replicate 64 0 := by
    rw [Pure.sl_data _ _ (by omega)]
    show ((catL ps ++ List.replicate (256 - 64 * ps.length) 0).drop (64 * (i : Int)).toNat).take 64 = _
    rw [show (64 * (i : Int)).toNat = 64 * i by omega, List.drop_append, List.drop_eq_nil_of_le (by omega), List.nil_append, List.drop_replicate, List.take_replicate]
    congr 1
    omega
  unfold Pure.decT
  rw [e, if_pos (by simp)]

theorem from_back (ps : List (Int × ByteArray)) (h4 : ps.length ≤ 4) (h : ∀ p ∈ ps, goodE p) : ∀ g i, i + g = 4 → fromE (padB ps) (ps.length : Int) g i (ps.take i) = (ps, 0)
  | 0, i, hi => by
    show (ps.take i, (0 : Int)) = _
    rw [List.take_of_length_le (by omega)]
  | g + 1, i, hi => by
    have ih := from_back ps h4 h g (i + 1) (by omega)
    rw [fromE]
    by_cases hl : i < ps.length
    · rw [pad_in ps h4 h i hl]
      simp only [if_true]
      rw [if_pos (decide_eq_true (by omega)).symm, ← ih, List.take_succ_eq_append_getElem hl]
    · rw [pad_out ps h4 h i (by omega) (by omega)]
      simp only [if_true]
      rw [if_pos (decide_eq_false (by omega)).symm]
      simp only [Bool.false_eq_true, if_false]
      rw [← ih, List.take_of_length_le (by omega), List.take_of_length_le (by omega)]
theorem fromA_back (ps : List (Int × ByteArray)) (h4 : ps.length ≤ 4) (h : ∀ p ∈ ps, goodE p) : fromA (padB ps) (ps.length : Int) = (ps, 0) := by
  unfold fromA
  rw [if_neg (by omega), if_neg (by omega)]
  exact from_back ps h4 h 4 0 rfl

theorem over_blk (ps : List (Int × ByteArray)) (h4 : ps.length ≤ 4) (h : ∀ p ∈ ps, goodE p) : overC (⟨#[]⟩ ++ Pure.ofL (catL ps)) zeroC = blkC (padB ps) := by
  have hc := catL_len ps h
  have e : (⟨#[]⟩ ++ Pure.ofL (catL ps) : ByteArray) = Pure.ofL (catL ps) := by
    apply Pure.ba_ext
    rw [Pure.app_data]
    rfl
  rw [e]
  unfold overC blkC padB zeroC
  rw [Pure.size_ofL, Pure.data_ofL, hc]
  apply Array.toList_inj.1
  rw [Array.toList_map]
  show _ = List.map _ (catL ps ++ List.replicate (256 - 64 * ps.length) 0)
  rw [List.map_append, List.map_replicate, List.take_zero, List.nil_append, Array.toList_replicate, List.drop_replicate, Nat.zero_add]
  rfl

/-- What Leaf answers: an error and zeros, or the leaf's bytes, and the entries are read back from them. -/
theorem leafA_is (ps : List (Int × ByteArray)) : (∃ x : ByteArray, x.size = 256 ∧ (leafA (ps.map mk27)).1 = blkC x ∧ ((leafA (ps.map mk27)).2 = 0 → fromA x (ps.length : Int) = (ps, 0))) := by
  have hz : zeroC = blkC (Pure.ofL (List.replicate 256 0)) := by
    unfold zeroC blkC Pure.ofL
    apply Array.toList_inj.1
    rw [Array.toList_map, Array.toList_replicate]
    show _ = List.map _ (List.replicate 256 0)
    rw [List.map_replicate]
    rfl
  have hzs : (Pure.ofL (List.replicate 256 0)).size = 256 := by rw [Pure.size_ofL, List.length_replicate]
  unfold leafA
  rw [List.length_map]
  by_cases h4 : 4 < ps.length
  · rw [if_pos h4]
    exact ⟨_, hzs, hz, fun h => absurd h (by decide)⟩
  · rw [if_neg h4]
    by_cases he : (leafE (ps.map mk27) ⟨#[]⟩).2 = 0
    · rw [if_pos he]
      obtain ⟨h1, h2⟩ := leafE_ok ps _ he
      have hsz : (leafE (ps.map mk27) ⟨#[]⟩).1.size ≤ 256 := by
        have := leafE_size (ps.map mk27) ⟨#[]⟩ he
        rw [List.length_map] at this
        have e0 : (⟨#[]⟩ : ByteArray).size = 0 := rfl
        omega
      refine ⟨padB ps, padB_size ps (by omega) h2, ?_, fun _ => fromA_back ps (by omega) h2⟩
      unfold ofC
      rw [if_pos hsz, h1]
      exact over_blk ps (by omega) h2
    · rw [if_neg he]
      exact ⟨_, hzs, hz, fun h => absurd h he⟩

end Go.Proofs.YtgciocgdppaaiaaDoor

/- The law NameLeaves, walked: whatever the entries, the block and the number, it answers true. -/
namespace Go.Proofs.YtgciocgdppaaiaaDoor
open Go.RowKit Go.Proofs.YtgciocgdppaaiaaDoorW.PrintWords Go.Proofs.YtgciocgdppaaiaaDoor.P

theorem blkC_cell (x : ByteArray) : blkC x = (x.data.toList.map Extern.Stop.cell).toArray := by
  unfold blkC
  apply Array.toList_inj.1
  rw [Array.toList_map]
  rfl
theorem guard43 : Tryd.prog.eqGuardType Tryd.prog.depth 43 = false := by kernel_rfl
theorem run_neq_blk (x : ByteArray) (hx : x.size = 256) (w : World) : (binOp .neq 43 (.agg (blkC x)) (.agg (blkC x))).run Tryd.prog w = .ok (.bool false) w := by
  have h := run_equalIn_bytes (P := Tryd.prog) w 9998 43 5 256 Tryd.underlying43 Tryd.underlying5 (fun w => by kernel_rfl) x.data.toList x.data.toList (by rw [← Lib.size_eq, hx]) (by rw [← Lib.size_eq, hx])
  rw [← blkC_cell] at h
  have h2 : (Op.equal 43 (.agg (blkC x)) (.agg (blkC x))).run Tryd.prog w = .ok true w := by
    unfold Op.equal Op.maxDepth
    rw [h]
    simp
  simp only [binOp, Sem.run_bind, h2, Result.andThen_ok, Bool.not_true, Sem.run_pure]

theorem fromE_len (s : ByteArray) (n : Int) : ∀ (g i : Nat) (acc : List (Int × ByteArray)), (fromE s n g i acc).1.length ≤ acc.length + g
  | 0, _, acc => by simp [fromE]
  | g + 1, i, acc => by
    rw [fromE]
    split
    · split
      · have h := fromE_len s n g (i + 1) (if (Pure.decA s (64 * (i : Int))).2.2.1 = true then acc ++ [((Pure.decA s (64 * (i : Int))).1, (Pure.decA s (64 * (i : Int))).2.1)] else acc)
        have h2 : (if (Pure.decA s (64 * (i : Int))).2.2.1 = true then acc ++ [((Pure.decA s (64 * (i : Int))).1, (Pure.decA s (64 * (i : Int))).2.1)] else acc).length ≤ acc.length + 1 := by
          split
          · rw [List.length_append]; exact Nat.le_refl _
          · exact Nat.le_succ _
        omega
      · simp
    · simp
theorem fromA_len (s : ByteArray) (n : Int) : (fromA s n).1.length ≤ 4 := by
  unfold fromA
  split
  · simp
  · split
    · simp
    · have := fromE_len s n 4 0 []
      simpa using this
/-- What Leaves answers. -/
def leavesA (n : Int) : Int × Int := if n < 0 then (0, 1) else if n > 16384 then (0, 1) else (wrap64 (Int.tdiv (wrap64 ((wrap64 (n + 4)) - 1)) 4), 0)
theorem leavesF (n : Int) : name_Leaves.f n = some (leavesA n) := by
  unfold name_Leaves.f leavesA
  split
  · rfl
  · split <;> rfl
theorem leavesA_in (n : Int) (h0 : 0 ≤ n) (h1 : n ≤ 16384) : leavesA n = (n / 4 + min (n % 4) 1, 0) := by
  unfold leavesA
  rw [if_neg (by omega), if_neg (by omega)]
  have e1 : wrap64 (n + 4) = n + 4 := by unfold wrap64; omega
  rw [e1]
  have e2 : wrap64 (n + 4 - 1) = n + 3 := by unfold wrap64; omega
  rw [e2, Int.tdiv_eq_ediv_of_nonneg (by omega)]
  have e3 : wrap64 ((n + 3) / 4) = (n + 3) / 4 := by unfold wrap64; omega
  rw [e3]
  congr 1
  omega

theorem links_ps (k : Nat) (ps : List (Int × ByteArray)) (h : signetlaw13_links.f k (ps.map mk27) (ps.map mk33) = some true) (A0 : Option Addr) (c0 : Nat) (A1 : Option Addr) (c1 : Nat) (w : World) (h0 : Kd.C k27 w A0 (ps.map mk27).length (ps.map mk27)) (hc0 : (ps.map mk27).length ≤ c0)
    (h1 : Kd.C k33 w A1 (ps.map mk33).length (ps.map mk33)) (hc1 : (ps.map mk33).length ≤ c1) :
    Calls Tryd.prog 16 #[.slice A0 ps.length c0, .slice A1 ps.length c1] w fun e w' => e = .returned (.bool true) ∧ Drawn0 w w' := by
  have h2 := signetlaw13_links.calls k A0 c0 (ps.map mk27) A1 c1 (ps.map mk33) true w h0 hc0 h1 hc1 h
  simp only [List.length_map] at h2
  exact h2

set_option maxRecDepth 100000 in
set_option maxHeartbeats 8000000 in
theorem leaves_any (A : Option Addr) (c : Nat) (ps : List (Int × ByteArray)) (x : ByteArray) (n : Int) (w : World) (hr : Kd.C k27 w A ps.length (ps.map mk27)) (hc : ps.length ≤ c) (hx : x.size = 256)
    (hn : -9223372036854775808 ≤ n ∧ n ≤ 9223372036854775807) (hl : ps.length ≤ 5864062014634) (hs : ∀ p ∈ ps, p.2.size ≤ 140737488355328) :
    Calls Tryd.prog 6 #[.slice A ps.length c, .agg (blkC x), .int .i64 n] w fun e w' => e = .returned (.bool true) ∧ Below w.heap.size w w' := by
  have hcs : (blkC x).size = 256 := by rw [blkC_size, hx]
  have hFrom := fun W => from_any x hx n W
  have hRfrom := fun W => rfrom_any x hx n W
  have hF4 := fromA_len x n
  generalize fromA x n = R1 at hFrom hRfrom hF4
  obtain ⟨pf, gf⟩ := R1
  simp only at hFrom hRfrom hF4
  obtain ⟨kP, hP⟩ := Ev.rounds (links_ev pf (by omega))
  obtain ⟨C, hC⟩ : ∃ C, blkC x = C := ⟨_, rfl⟩
  rw [hC] at hcs hFrom hRfrom ⊢
  have hg0 : (w.alloc (Obj.cells C 43)).heap[w.heap.size]? = some (.cells C 43 (0, 0)) := alloc_new w _
  have hb0 : Below w.heap.size w (w.alloc (Obj.cells C 43)) := (Below.refl _ _).alloc (Nat.le_refl _) _
  obtain ⟨W0, hW0⟩ : ∃ W0, w.alloc (Obj.cells C 43) = W0 := ⟨_, rfl⟩
  rw [hW0] at hg0 hb0
  obtain ⟨y, hy, hyC, hyB⟩ := leafA_is ps
  have hys : (blkC y).size = 256 := by rw [blkC_size, hy]
  have hLeaf := fun (Ao : Option Addr) (co : Nat) (W : World) h => leaf_any Ao co (ps.map mk27) W h
  have hRleaf := fun (Ao : Option Addr) (co : Nat) (W : World) h => rleaf_any Ao co (ps.map mk33) (by intro q hq; obtain ⟨p, hp, rfl⟩ := List.mem_map.1 hq; exact hs p hp) W h
  rw [leafB_eq ps] at hRleaf
  have hBack := fun W => from_any y hy (ps.length : Int) W
  have hB4 := fromA_len y (ps.length : Int)
  have hNeq := fun W => run_neq_blk y hy W
  rw [hyC] at hLeaf hRleaf
  have hy1 : (blkC y).all (·.oneCell') = true := by
    refine Array.all_eq_true_iff_forall_mem.2 (fun v hv => ?_)
    unfold blkC at hv
    obtain ⟨b, _, rfl⟩ := Array.mem_map.1 hv
    rfl
  generalize (leafA (ps.map mk27)).2 = er at *
  generalize blkC y = D at *
  have hz : ∀ w, (zeroValue 43).run Tryd.prog w = .ok (.agg zeroC) w := hv43
  have hz2 : ∀ w, (zeroValue 42).run Tryd.prog w = .ok (.agg zeroC) w := hv42
  have hZs := zeroC_size
  generalize zeroC = Z at *
  obtain ⟨kG, hG⟩ := Ev.rounds (given_ev ps hl)
  obtain ⟨kL, hL⟩ := Ev.rounds (links_ev ps hl)
  have hlen : ps.length = (ps.map mk27).length := by rw [List.length_map]
  have hsame : (ps.map mk33).length = (ps.map mk27).length := by rw [List.length_map, List.length_map]
  have HB := Lib.hid (show er = 0 → fromA y ((ps.map mk27).length : Int) = (ps, 0) by rw [← hlen]; exact hyB)
  rw [hlen] at hr hBack hB4 hl hc ⊢
  clear hlen hyB
  generalize hl27 : ps.map mk27 = l at *
  generalize hl33 : ps.map mk33 = l3 at *
  generalize fromA y (l.length : Int) = R2 at hBack hB4 HB
  obtain ⟨pb, gb⟩ := R2
  simp only at hBack hB4 HB
  have HL := Lib.hid hsame
  have hLv := fun W => name_Leaves.calls n (leavesA n).1 (leavesA n).2 W (leavesF n)
  have HLV := Lib.hid (leavesA_in n)
  have HLW : Hid (n < 0 ∨ n > 16384 → leavesA n = (0, 1)) := Lib.hid (by
    intro h
    unfold leavesA
    by_cases h0 : n < 0
    · rw [if_pos h0]
    · rw [if_neg h0, if_pos (by omega)])
  generalize leavesA n = R3 at hLv HLV HLW
  obtain ⟨m3, e3⟩ := R3
  simp only at hLv HLV HLW
  have H27 := Lib.hid hl27
  have H33 := Lib.hid hl33
  clear hsame hl27 hl33
  go_enter Tryd.func6, Tryd.ntmps6
  go_wp2_with (first | ((with_reducible refine gate_dst (N := 20) rfl ?_); refine Kd.R_lit k27 w.heap.size 27 ?hg (N := 20) ?hd (xs := ([] : List S27)) (inner := []) (ok := fun _ => True) (okp := fun _ => True) ?hr ?hp (fun _ hk => hk) trivial hb0 hb0.size (by simp) ?_; (case hd => rfl); (case hg => rfl); (case hr => first | (go_simp; done) | (go_simp; rfl)); (case hp => exact (Reps.none _ _)); intro v1 w2 ho hb1 hg_ hnew_; have hgA := (hg_.block _ (Array.getElem?_eq_some_iff.1 hg0).1 (by simp)).trans hg0; have HO1 := Kd.R_mono (Kd.R_types ho hgA (by decide)) (fun _ h => h.2); clear ho hg_ hnew_) | ((with_reducible refine gate_builtin (b := .append) (xs := #[.tmp 20, .tmp 21]) rfl ?_); at_builtin; refine Kd.R_append_rows k27 (w0 := w) w.heap.size rfl (.tmp 20) (.tmp 21) 39 27 (.agg #[(.int .i64 0), (.string ⟨#[]⟩)]) 24 rfl Tryd.underlying39 info27 rfl (by decide) (by omega) v1 [] l _ _ _ (fun k => k ≠ w.heap.size) (fun _ => False) rfl rfl ?aO ?aR (fun _ _ h => h) (fun _ h => h.elim) ?aF ?aB ?aS ?aL ?_; (case aO => exact HO1); (case aR => exact Kd.C_below hr hb1); (case aF => exact Kd.freshB hgA); (case aB => exact hb1); (case aS => exact hb1.size); (case aL => rw [List.length_nil]; omega); intro v2 w3 HO2 hb2 hg2 hat2; have hgB := blk_grown hgA hg2 (Kd.R_away HO1 (fun _ h => h)); clear hgA HO1 hg2 hat2 hb1; rw [List.nil_append] at HO2; obtain ⟨Ao2, co2, eo2⟩ := Kd.R_slice HO2; subst eo2))
  refine (hLeaf Ao2 co2 _ (Kd.R_reads' HO2).2.2).mono ?_
  rintro e w4 ⟨rfl, hb⟩
  have hb4 := hb2.trans (hb.mono hb2.size)
  have HO4 := Lib.hid (Kd.R_below HO2 hb)
  have hgC4 := (hb.block _ (Array.getElem?_eq_some_iff.1 hgB).1).trans hgB
  clear hb hb2 HO2 hgB hLeaf
  have hgZ4 : (w4.alloc (Obj.cells Z 43)).heap[w4.heap.size]? = some (.cells Z 43 (0, 0)) := alloc_new w4 _
  have hst4 := store_whole w4.heap.size Z D _ hgZ4 (by rw [hZs, hys]) hy1
  have hgD5 := setRow_heap _ _ Z D 43 (0, 0) hgZ4
  have hbW5 : Below w4.heap.size w4 ((w4.alloc (Obj.cells Z 43)).setRow w4.heap.size D) := below_setRow ((Below.refl _ _).alloc (Nat.le_refl _) _) (Nat.le_refl _) D
  clear hgZ4
  obtain ⟨W5, hW5⟩ : ∃ W5, (w4.alloc (Obj.cells (Z) 43)).setRow w4.heap.size D = W5 := ⟨_, rfl⟩
  rw [hW5] at hst4 hgD5 hbW5
  clear hW5
  have hb5 := hb4.trans (hbW5.mono hb4.size)
  have HO5 := Lib.hid (Kd.R_below HO4.out hbW5)
  have hgC5 := (hbW5.block _ (Array.getElem?_eq_some_iff.1 hgC4).1).trans hgC4
  have hlt5 : w4.heap.size < W5.heap.size := (Array.getElem?_eq_some_iff.1 hgD5).1
  go_wp2_with fail
  clear hst4 HO4 hgC4 hb4 hbW5
  refine (signetlaw13_given.calls kG A c l l3 W5 (Kd.C_below hr hb5) hc hG).mono ?_
  rintro e w6 ⟨v6, rfl, ho6, hb⟩
  obtain ⟨Ao6, co6, eo6⟩ := Kd.R_slice ho6
  subst eo6
  have hb6 := hb5.trans (hb.mono hb5.size)
  have HO6 := Lib.hid (Kd.R_below HO5.out hb)
  have hgC6 := (hb.block _ (Array.getElem?_eq_some_iff.1 hgC5).1).trans hgC5
  have hgD6 := (hb.block _ (Array.getElem?_eq_some_iff.1 hgD5).1).trans hgD5
  have hlt6 : w4.heap.size < w6.heap.size := (Array.getElem?_eq_some_iff.1 hgD6).1
  clear hb hb5 HO5 hgC5 hgD5 hlt5
  go_wp2_with fail
  refine (hRleaf Ao6 co6 _ (Kd.R_reads' ho6).2.2).mono ?_
  rintro e w7 ⟨rfl, hb⟩
  have hb7 := hb6.trans (hb.mono hb6.size)
  have HO7 := Lib.hid (Kd.R_below HO6.out hb)
  have hgC7 := (hb.block _ (Array.getElem?_eq_some_iff.1 hgC6).1).trans hgC6
  have hgD7 := (hb.block _ (Array.getElem?_eq_some_iff.1 hgD6).1).trans hgD6
  clear hb hb6 HO6 hgC6 hgD6 hlt6 hRleaf ho6
  have hgZ7 : (w7.alloc (Obj.cells Z 42)).heap[w7.heap.size]? = some (.cells Z 42 (0, 0)) := alloc_new w7 _
  have hst7 := store_row42 w7.heap.size Z D _ hgZ7 (by rw [hZs, hys]) hy1
  have hgE8 := setRow_heap _ _ Z D 42 (0, 0) hgZ7
  have hbW8 : Below w7.heap.size w7 ((w7.alloc (Obj.cells Z 42)).setRow w7.heap.size D) := below_setRow ((Below.refl _ _).alloc (Nat.le_refl _) _) (Nat.le_refl _) D
  clear hgZ7
  obtain ⟨W8, hW8⟩ : ∃ W8, (w7.alloc (Obj.cells (Z) 42)).setRow w7.heap.size D = W8 := ⟨_, rfl⟩
  rw [hW8] at hst7 hgE8 hbW8
  clear hW8
  have hb8 := hb7.trans (hbW8.mono hb7.size)
  have HO8 := Lib.hid (Kd.R_below HO7.out hbW8)
  have hgC8 := (hbW8.block _ (Array.getElem?_eq_some_iff.1 hgC7).1).trans hgC7
  have hgD8 := (hbW8.block _ (Array.getElem?_eq_some_iff.1 hgD7).1).trans hgD7
  have i43C : (Tryd.prog.info? 43).map (·.size) = some C.size := by rw [hcs]; exact i43
  have i42C : (Tryd.prog.info? 42).map (·.size) = some C.size := by rw [hcs]; exact i42
  have i43D : (Tryd.prog.info? 43).map (·.size) = some D.size := by rw [hys]; exact i43
  have i42D : (Tryd.prog.info? 42).map (·.size) = some D.size := by rw [hys]; exact i42
  clear hb7 HO7 hgC7 hgD7 hbW8
  go_wp2_with ((with_reducible refine gate_dst (N := 35) rfl ?_); refine wpList_load_row rfl 43 (.tmp 4) rfl w.heap.size rfl 43 C (0, 0) _ hgC8 Tryd.underlying43 rfl i43C ?_)
  clear hst7
  refine (hFrom _).mono ?_
  rintro e w9 ⟨v9, rfl, ho9, hb⟩
  obtain ⟨Ao9, co9, eo9⟩ := Kd.R_slice ho9
  subst eo9
  have hb9 := hb8.trans (hb.mono hb8.size)
  have HO9 := Lib.hid (Kd.R_below HO8.out hb)
  have hgC9 := (hb.block _ (Array.getElem?_eq_some_iff.1 hgC8).1).trans hgC8
  have hgD9 := (hb.block _ (Array.getElem?_eq_some_iff.1 hgD8).1).trans hgD8
  have hgE9 := (hb.block _ (Array.getElem?_eq_some_iff.1 hgE8).1).trans hgE8
  have HP9 := Lib.hid ho9
  clear hb hb8 HO8 hgC8 hgD8 hgE8 hFrom ho9
  go_wp2_with ((with_reducible refine gate_dst (N := 41) rfl ?_); refine wpList_load_row rfl 43 (.tmp 4) rfl w.heap.size rfl 43 C (0, 0) _ hgC9 Tryd.underlying43 rfl i43C ?_)
  refine (hRfrom _).mono ?_
  rintro e w10 ⟨v10, rfl, ho10, hb⟩
  obtain ⟨Ao10, co10, eo10⟩ := Kd.R_slice ho10
  subst eo10
  have hb10 := hb9.trans (hb.mono hb9.size)
  have HO10 := Lib.hid (Kd.R_below HO9.out hb)
  have HP10 := Lib.hid (Kd.R_below HP9.out hb)
  have hgC10 := (hb.block _ (Array.getElem?_eq_some_iff.1 hgC9).1).trans hgC9
  have hgD10 := (hb.block _ (Array.getElem?_eq_some_iff.1 hgD9).1).trans hgD9
  have hgE10 := (hb.block _ (Array.getElem?_eq_some_iff.1 hgE9).1).trans hgE9
  have HQ10 := Lib.hid ho10
  clear hb hb9 HO9 HP9 hgC9 hgD9 hgE9 hRfrom ho10
  go_wp2_with fail
  refine (hLv _).mono ?_
  rintro e w11 ⟨rfl, hd⟩
  have hb := hd.below
  have hb11 := hb10.trans (hb.mono hb10.size)
  have HO11 := Lib.hid (Kd.R_below HO10.out hb)
  have HP11 := Lib.hid (Kd.R_below HP10.out hb)
  have HQ11 := Lib.hid (Kd.R_below HQ10.out hb)
  have hgD11 := (hb.block _ (Array.getElem?_eq_some_iff.1 hgD10).1).trans hgD10
  have hgE11 := (hb.block _ (Array.getElem?_eq_some_iff.1 hgE10).1).trans hgE10
  clear hb hd hb10 HO10 HP10 HQ10 hgC10 hgD10 hgE10 hLv
  go_wp2_with fail
  refine (signetlaw13_awake.calls true _ Pure.awake_true).mono ?_
  rintro e w12 ⟨rfl, hb⟩
  have hb12 := hb11.trans (hb.mono hb11.size)
  have HO12 := Lib.hid (Kd.R_below HO11.out hb)
  have HP12 := Lib.hid (Kd.R_below HP11.out hb)
  have HQ12 := Lib.hid (Kd.R_below HQ11.out hb)
  have hgD12 := (hb.block _ (Array.getElem?_eq_some_iff.1 hgD11).1).trans hgD11
  have hgE12 := (hb.block _ (Array.getElem?_eq_some_iff.1 hgE11).1).trans hgE11
  clear hb hb11 HO11 HP11 HQ11 hgD11 hgE11
  have g43 := guard43
  go_wp2_with (first | ((with_reducible refine gate_dst (N := 54) rfl ?_); (try (refine gate_guard (by rfl) ?_; dsimp only)); refine wpList_load_row rfl 43 (.tmp 8) rfl w4.heap.size rfl 43 D (0, 0) _ hgD12 Tryd.underlying43 rfl i43D ?_) | ((with_reducible refine gate_dst (N := 55) rfl ?_); (try (refine gate_guard (by rfl) ?_; dsimp only)); refine wpList_load_row rfl 42 (.tmp 10) rfl w7.heap.size rfl 42 D (0, 0) _ hgE12 Tryd.underlying42 rfl i42D ?_))
  refine (links_ps kP pf hP Ao9 co9 Ao10 co10 w12 (Kd.R_reads' HP12.out).2.2 (Kd.R_reads' HP12.out).2.1 (Kd.R_reads' HQ12.out).2.2 (Kd.R_reads' HQ12.out).2.1).mono ?_
  rintro e w13 ⟨rfl, hd⟩
  have hb := hd.below
  have hb13 := hb12.trans (hb.mono hb12.size)
  have HO13 := Lib.hid (Kd.R_below HO12.out hb)
  have hgD13 := (hb.block _ (Array.getElem?_eq_some_iff.1 hgD12).1).trans hgD12
  clear hb hd hb12 HO12 HP12 HQ12 hgD12 hgE12
  go_wp2_with fail
  refine (signetlaw13_given.calls kG A c l l3 _ (Kd.C_below hr hb13) hc hG).mono ?_
  rintro e w14 ⟨v14, rfl, ho14, hb⟩
  obtain ⟨Ao14, co14, eo14⟩ := Kd.R_slice ho14
  subst eo14
  have hb14 := hb13.trans (hb.mono hb13.size)
  have HO14 := Lib.hid (Kd.R_below HO13.out hb)
  have hgD14 := (hb.block _ (Array.getElem?_eq_some_iff.1 hgD13).1).trans hgD13
  have HQ14 := Lib.hid ho14
  clear hb hb13 HO13 hgD13 ho14
  go_wp2_with fail
  refine (signetlaw13_links.calls kL Ao2 co2 l Ao14 co14 l3 true _ (Kd.R_reads' HO14.out).2.2 (Kd.R_reads' HO14.out).2.1 (Kd.R_reads' HQ14.out).2.2 (Kd.R_reads' HQ14.out).2.1 hL).mono ?_
  rintro e w15 ⟨rfl, hd⟩
  have hb := hd.below
  have hb15 := hb14.trans (hb.mono hb14.size)
  have hgD15 := (hb.block _ (Array.getElem?_eq_some_iff.1 hgD14).1).trans hgD14
  clear hb hd hb14 HO14 HQ14 hgD14
  go_wp2_with ((with_reducible refine gate_dst (N := 82) rfl ?_); refine wpList_load_row rfl 43 (.tmp 8) rfl w4.heap.size rfl 43 D (0, 0) _ hgD15 Tryd.underlying43 rfl i43D ?_)
  refine (hBack _).mono ?_
  rintro e w16 ⟨v16, rfl, ho16, hb⟩
  obtain ⟨Ao16, co16, eo16⟩ := Kd.R_slice ho16
  subst eo16
  have hb16 := hb15.trans (hb.mono hb15.size)
  have HP16 := Lib.hid ho16
  clear hb hb15 hgD15 hBack ho16
  by_cases he : er = 0
  · have hd0 : decide (er = 0) = true := decide_eq_true he
    have hd1 : (er == 0) = true := beq_iff_eq.mpr he
    have h1 := HB.out he
    have hd2 : decide (gb = 0) = true := decide_eq_true (Prod.mk.inj h1).2
    have hd5 : (gb == 0) = true := beq_iff_eq.mpr (Prod.mk.inj h1).2
    have hd6 : (gb != 0) = false := bne_eq_false_iff_eq.mpr (Prod.mk.inj h1).2
    have hLB : Hid (signetlaw13_links.f kL (pb.map mk27) (pb.map mk33) = some true) := by rw [(Prod.mk.inj h1).1, H27.out, H33.out]; exact Lib.hid hL
    have hGB : Hid (signetlaw13_given.f kG l = some (pb.map mk33)) := by rw [(Prod.mk.inj h1).1, H33.out]; exact Lib.hid hG
    clear h1
    go_wp2_with fail
    refine (signetlaw13_given.calls kG A c l (pb.map mk33) _ (Kd.C_below hr hb16) hc hGB.out).mono ?_
    rintro e w17 ⟨v17, rfl, ho17, hb⟩
    obtain ⟨Ao17, co17, eo17⟩ := Kd.R_slice ho17
    subst eo17
    have hb17 := hb16.trans (hb.mono hb16.size)
    have HP17 := Lib.hid (Kd.R_below HP16.out hb)
    have HQ17 := Lib.hid ho17
    clear hb hb16 HP16 ho17
    go_wp2_with fail
    refine (links_ps kL pb hLB.out Ao16 co16 Ao17 co17 _ (Kd.R_reads' HP17.out).2.2 (Kd.R_reads' HP17.out).2.1 (Kd.R_reads' HQ17.out).2.2 (Kd.R_reads' HQ17.out).2.1).mono ?_
    rintro e w18 ⟨rfl, hd⟩
    have hb18 := hb17.trans (hd.below.mono hb17.size)
    clear hd hb17 HP17 HQ17
    by_cases hn0 : n < 0
    · have hd3 : decide (n < 0) = true := decide_eq_true hn0
      have e1 := HLW.out (.inl hn0)
      have c1 : decide (m3 = 0) = true := decide_eq_true (Prod.mk.inj e1).1
      have c2 : (m3 == 0) = true := beq_iff_eq.mpr (Prod.mk.inj e1).1
      have c3 : decide (e3 = 1) = true := decide_eq_true (Prod.mk.inj e1).2
      have c4 : (e3 == 1) = true := beq_iff_eq.mpr (Prod.mk.inj e1).2
      clear e1
      go_wp2_with fail
      go_ret
      exact ⟨rfl, hb18⟩
    · by_cases hn1 : 16384 < n
      · have e1 := HLW.out (.inr hn1)
        have c1 : decide (m3 = 0) = true := decide_eq_true (Prod.mk.inj e1).1
        have c2 : (m3 == 0) = true := beq_iff_eq.mpr (Prod.mk.inj e1).1
        have c3 : decide (e3 = 1) = true := decide_eq_true (Prod.mk.inj e1).2
        have c4 : (e3 == 1) = true := beq_iff_eq.mpr (Prod.mk.inj e1).2
        clear e1
        have hd3 : decide (n < 0) = false := decide_eq_false hn0
        have hd4 : decide (16384 < n) = true := decide_eq_true hn1
        go_wp2_with fail
        go_ret
        exact ⟨rfl, hb18⟩
      · have h0 : 0 ≤ n := by omega
        have h1 : n ≤ 16384 := by omega
        have e1 := HLV.out h0 h1
        have hd3 : decide (n < 0) = false := decide_eq_false hn0
        have hd4 : decide (16384 < n) = false := decide_eq_false hn1
        have c1 : decide (m3 = n / 4 + min (n % 4) 1) = true := decide_eq_true (Prod.mk.inj e1).1
        have c2 : (m3 == n / 4 + min (n % 4) 1) = true := beq_iff_eq.mpr (Prod.mk.inj e1).1
        have c3 : decide (e3 = 0) = true := decide_eq_true (Prod.mk.inj e1).2
        have c4 : (e3 == 0) = true := beq_iff_eq.mpr (Prod.mk.inj e1).2
        clear e1
        go_wp2_with fail
        go_ret
        exact ⟨rfl, hb18⟩
  · have hd0 : decide (er = 0) = false := decide_eq_false he
    have hd1 : (er == 0) = false := beq_eq_false_iff_ne.mpr he
    by_cases hn0 : n < 0
    · have hd3 : decide (n < 0) = true := decide_eq_true hn0
      have e1 := HLW.out (.inl hn0)
      have c1 : decide (m3 = 0) = true := decide_eq_true (Prod.mk.inj e1).1
      have c2 : (m3 == 0) = true := beq_iff_eq.mpr (Prod.mk.inj e1).1
      have c3 : decide (e3 = 1) = true := decide_eq_true (Prod.mk.inj e1).2
      have c4 : (e3 == 1) = true := beq_iff_eq.mpr (Prod.mk.inj e1).2
      clear e1
      go_wp2_with fail
      go_ret
      exact ⟨rfl, hb16⟩
    · by_cases hn1 : 16384 < n
      · have e1 := HLW.out (.inr hn1)
        have c1 : decide (m3 = 0) = true := decide_eq_true (Prod.mk.inj e1).1
        have c2 : (m3 == 0) = true := beq_iff_eq.mpr (Prod.mk.inj e1).1
        have c3 : decide (e3 = 1) = true := decide_eq_true (Prod.mk.inj e1).2
        have c4 : (e3 == 1) = true := beq_iff_eq.mpr (Prod.mk.inj e1).2
        clear e1
        have hd3 : decide (n < 0) = false := decide_eq_false hn0
        have hd4 : decide (16384 < n) = true := decide_eq_true hn1
        go_wp2_with fail
        go_ret
        exact ⟨rfl, hb16⟩
      · have h0 : 0 ≤ n := by omega
        have h1 : n ≤ 16384 := by omega
        have e1 := HLV.out h0 h1
        have hd3 : decide (n < 0) = false := decide_eq_false hn0
        have hd4 : decide (16384 < n) = false := decide_eq_false hn1
        have c1 : decide (m3 = n / 4 + min (n % 4) 1) = true := decide_eq_true (Prod.mk.inj e1).1
        have c2 : (m3 == n / 4 + min (n % 4) 1) = true := beq_iff_eq.mpr (Prod.mk.inj e1).1
        have c3 : decide (e3 = 0) = true := decide_eq_true (Prod.mk.inj e1).2
        have c4 : (e3 == 0) = true := beq_iff_eq.mpr (Prod.mk.inj e1).2
        clear e1
        go_wp2_with fail
        go_ret
        exact ⟨rfl, hb16⟩

end Go.Proofs.YtgciocgdppaaiaaDoor
