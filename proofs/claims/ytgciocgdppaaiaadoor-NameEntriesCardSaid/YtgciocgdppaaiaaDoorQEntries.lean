/- The pure law of NameEntries: entries in bytes, and read from any text. -/
import Derived.Test.YtgciocgdppaaiaaDoorQEnc
import Derived.Test.YtgciocgdppaaiaaDoorQNameMatch
import Derived.Test.YtgciocgdppaaiaaDoorPxSignetlaw13NameEntries
namespace Go.Proofs.YtgciocgdppaaiaaDoor.Pure
open Go.Proofs.YtgciocgdppaaiaaDoor Go.Proofs.YtgciocgdppaaiaaDoor.P Go.RowKit Go.Proofs.YtgciocgdppaaiaaDoorW.PrintWords

/-- What 64 bytes say. -/
def decT (t : ByteArray) : Int × ByteArray × Bool × Int :=
  if ∀ c ∈ t.data.toList, c = 0 then (0, ⟨#[]⟩, false, 0)
  else if 56 < leN ((t.data.toList.drop 4).take 2) then (0, ⟨#[]⟩, false, 131)
  else if (encA ((leN (t.data.toList.take 4) : Nat) : Int) (t.extract 8 (8 + leN ((t.data.toList.drop 4).take 2)))).2 = 0 then
    if (encA ((leN (t.data.toList.take 4) : Nat) : Int) (t.extract 8 (8 + leN ((t.data.toList.drop 4).take 2)))).1.toList = t.toList then (((leN (t.data.toList.take 4) : Nat) : Int), t.extract 8 (8 + leN ((t.data.toList.drop 4).take 2)), true, 0)
    else (0, ⟨#[]⟩, false, 131)
  else (0, ⟨#[]⟩, false, 131)
/-- What the bytes of a text from a place on say. -/
def decA (s : ByteArray) (at_ : Int) : Int × ByteArray × Bool × Int :=
  if 0 ≤ at_ ∧ at_ + 64 ≤ (s.size : Int) then decT (s.extract at_.toNat (at_ + 64).toNat) else (0, ⟨#[]⟩, false, 131)

theorem le4 (l : List UInt8) : leN (l.take 4) < 4294967296 := by
  have h := leN_lt (l.take 4)
  have h2 : (256 : Nat) ^ (l.take 4).length ≤ 256 ^ 4 := Nat.pow_le_pow_right (by omega) (by rw [List.length_take]; omega)
  have h3 : (256 : Nat) ^ (l.take 4).length ≤ 4294967296 := h2
  omega
theorem le2 (l : List UInt8) : leN (l.take 2) < 65536 := by
  have h := leN_lt (l.take 2)
  have h2 : (256 : Nat) ^ (l.take 2).length ≤ 256 ^ 2 := Nat.pow_le_pow_right (by omega) (by rw [List.length_take]; omega)
  have h3 : (256 : Nat) ^ (l.take 2).length ≤ 65536 := h2
  omega

theorem sl_data (s : ByteArray) (at_ : Int) (h : 0 ≤ at_) : (s.extract at_.toNat (at_ + 64).toNat).data.toList = (s.data.toList.drop at_.toNat).take 64 := ext_take s at_ 64 h
theorem sl_size (s : ByteArray) (at_ : Int) (h : 0 ≤ at_) (h2 : at_ + 64 ≤ (s.size : Int)) : (s.extract at_.toNat (at_ + 64).toNat).size = 64 := by
  rw [Lib.size_eq, sl_data s at_ h, List.length_take, List.length_drop, ← Lib.size_eq]
  omega

theorem encF (i : Int) (x : ByteArray) : name_Encode.f i x = some (encA i x) := rfl

/-- The program's Decode. -/
theorem decode_ev (s : ByteArray) (at_ : Int) (hs : s.size ≤ 140737488355328) (ha : -9223372036854775808 ≤ at_ ∧ at_ ≤ 9223372036854775807) : Ev (fun k => name_Decode.f k s at_) (decA s at_) := by
  have hwa : Aside0 (wrap64 at_ = at_) := ⟨by unfold wrap64; omega⟩
  have hbad : ∀ n, Ev (fun k => name_Decode.j0 k s at_ n true) (0, ⟨#[]⟩, false, 131) := fun n => Ev.step (f := fun _ => some _) (fun k => by simp [name_Decode.j0]) (Ev.now _)
  have h32 := take_ev s at_ 4 hs (by omega)
  unfold name_Decode.f word_Take32.f
  rw [hwa.out]
  unfold decA
  by_cases hok : 0 ≤ at_ ∧ at_ + 64 ≤ (s.size : Int)
  · rw [if_pos hok]
    obtain ⟨ha0, ha64⟩ := hok
    have hsz := sl_size s at_ ha0 ha64
    have hda := sl_data s at_ ha0
    have e32 : takeA s at_ 4 = (((leN ((s.data.toList.drop at_.toNat).take 4) : Nat) : Int), true) := by
      unfold takeA
      rw [if_neg (by omega), if_neg (by omega), if_neg (by omega)]
    have e4 : (s.data.toList.drop at_.toNat).take 4 = (s.extract at_.toNat (at_ + 64).toNat).data.toList.take 4 := by rw [hda, List.take_take]; rfl
    rw [e32, e4] at h32
    have hw64 : Aside0 (wrap64 (at_ + 64) = at_ + 64) := ⟨by unfold wrap64; omega⟩
    have hws : Aside0 (wrap64 ((s.size : Int) - at_) = (s.size : Int) - at_) := ⟨by unfold wrap64; omega⟩
    have hj : Ev (fun k => name_Decode.j0 k s at_ ((leN ((s.extract at_.toNat (at_ + 64).toNat).data.toList.take 4) : Nat) : Int) false) (decT (s.extract at_.toNat (at_ + 64).toNat)) := by
      obtain ⟨t, ht⟩ : ∃ t, s.extract at_.toNat (at_ + 64).toNat = t := ⟨_, rfl⟩
      rw [ht] at hsz ⊢
      have l4 := le4 t.data.toList
      have l2 := le2 (t.data.toList.drop 4)
      have h16 := take_ev t 4 2 (by omega) (by omega)
      have e16 : takeA t 4 2 = (((leN ((t.data.toList.drop 4).take 2) : Nat) : Int), true) := by
        unfold takeA
        rw [if_neg (by omega), if_neg (by omega), if_neg (by omega)]
        rfl
      rw [e16] at h16
      have htrim : strings_Trim.f t (⟨#[0]⟩ : ByteArray) = some (ofL (Lib.trimB t.data.toList 0)) := by
        unfold strings_Trim.f
        simp only
        rw [if_pos ⟨by decide, by omega⟩]
        rfl
      unfold decT
      refine Ev.step (f := fun k => if (ofL (Lib.trimB t.data.toList 0)).toList = ([] : List UInt8) then (some (0, (⟨#[]⟩ : ByteArray), false, 0)) else ((word_Take16.f k t 4).bind fun bt137 => (if (wrap64 (bt137.1)) > 56 then (some (0, (⟨#[]⟩ : ByteArray), false, 131)) else (if 8 ≤ (wrap64 (8 + (wrap64 (bt137.1)))) then (if (wrap64 (8 + (wrap64 (bt137.1)))) ≤ (t.size : Int) then ((name_Encode.f (wrap64 (((leN (t.data.toList.take 4) : Nat) : Int))) (t.extract 8 ((wrap64 (8 + (wrap64 (bt137.1)))) : Int).toNat)).bind fun bt140 => (if bt140.2 = 0 then (if bt140.1.toList = t.toList then (some (wrap64 (((leN (t.data.toList.take 4) : Nat) : Int)), t.extract 8 ((wrap64 (8 + (wrap64 (bt137.1)))) : Int).toNat, true, 0)) else (some (0, (⟨#[]⟩ : ByteArray), false, 131))) else (some (0, (⟨#[]⟩ : ByteArray), false, 131)))) else (none)) else (none))))) (fun k => ?_) ?_
      · simp only [name_Decode.j0, Bool.false_eq_true, if_false, hw64.out, ht, htrim, Option.bind_some]
        rw [if_pos ha0, if_pos (by omega), if_pos ha64]
      · rw [toList_ofL]
        by_cases hz : ∀ c ∈ t.data.toList, c = 0
        · have h1 := (trimB_nil t.data.toList 0).2 hz
          simp only [if_pos h1, if_pos hz]
          exact Ev.now _
        · have h1 : ¬ Lib.trimB t.data.toList 0 = [] := fun g => hz ((trimB_nil t.data.toList 0).1 g)
          simp only [if_neg h1, if_neg hz]
          generalize hm : leN ((t.data.toList.drop 4).take 2) = m at *
          generalize hn : leN (t.data.toList.take 4) = n at *
          have w1 : Aside0 (IntKind.u16.wrap (m : Int) = (m : Int)) := ⟨by rw [IntKind.wrap_u16]; omega⟩
          have w2 : Aside0 (wrap64 (m : Int) = (m : Int)) := ⟨by unfold wrap64; omega⟩
          have w3 : Aside0 (wrap64 (8 + (m : Int)) = ((8 + m : Nat) : Int)) := ⟨by unfold wrap64; omega⟩
          have w4 : Aside0 (wrap64 (n : Int) = (n : Int)) := ⟨by unfold wrap64; omega⟩
          have h16' : Ev (fun k => word_Take16.f k t 4) ((m : Int), true) := by
            unfold word_Take16.f
            refine Ev.bind h16 ?_
            simp only [w1.out]
            exact Ev.now _
          refine Ev.bind h16' ?_
          simp only [w2.out, w3.out, w4.out]
          by_cases hb : 56 < m
          · have hb' : (m : Int) > 56 := by omega
            simp only [if_pos hb', if_pos hb]
            exact Ev.now _
          · have hb' : ¬ (m : Int) > 56 := by omega
            have c1 : (8 : Int) ≤ ((8 + m : Nat) : Int) := by omega
            have c2 : ((8 + m : Nat) : Int) ≤ (t.size : Int) := by omega
            simp only [if_neg hb', if_neg hb, if_pos c1, if_pos c2, Int.toNat_natCast]
            rw [encF]
            simp only [Option.bind_some]
            by_cases q1 : (encA (n : Int) (t.extract 8 (8 + m))).2 = 0
            · by_cases q2 : (encA (n : Int) (t.extract 8 (8 + m))).1.toList = t.toList
              · simp only [if_pos q1, if_pos q2]
                exact Ev.now _
              · simp only [if_pos q1, if_neg q2]
                exact Ev.now _
            · simp only [if_neg q1]
              exact Ev.now _
    have hmod : ((leN ((s.extract at_.toNat (at_ + 64).toNat).data.toList.take 4) : Nat) : Int) % 4294967296 = ((leN ((s.extract at_.toNat (at_ + 64).toNat).data.toList.take 4) : Nat) : Int) := by
      have := le4 (s.extract at_.toNat (at_ + 64).toNat).data.toList
      omega
    have h32' : Ev (fun k => (word_take.f k s at_ 4).bind fun bt => (some ((bt.1) % 4294967296, bt.2))) (((leN ((s.extract at_.toNat (at_ + 64).toNat).data.toList.take 4) : Nat) : Int), true) := by
      refine Ev.bind h32 ?_
      simp only [hmod]
      exact Ev.now _
    refine Ev.bind h32' ?_
    simp only [if_true, hws.out]
    rw [decide_eq_false (by omega)]
    exact hj
  · rw [if_neg hok]
    have h32' : ∃ n b, Ev (fun k => (word_take.f k s at_ 4).bind fun bt => (some ((bt.1) % 4294967296, bt.2))) (n, b) ∧ (b = true → 0 ≤ at_ ∧ at_ ≤ (s.size : Int)) := by
      refine ⟨(takeA s at_ 4).1 % 4294967296, (takeA s at_ 4).2, Ev.bind h32 (Ev.now _), fun hb => ?_⟩
      unfold takeA at hb
      by_cases g1 : at_ < 0
      · rw [if_pos g1] at hb; cases hb
      · rw [if_neg g1] at hb
        by_cases g2 : (s.size : Int) < at_
        · rw [if_pos g2] at hb; cases hb
        · omega
    obtain ⟨n, b, h1, h2⟩ := h32'
    refine Ev.bind h1 ?_
    cases b with
    | false =>
      simp only [Bool.false_eq_true, if_false]
      exact hbad n
    | true =>
      have h3 := h2 rfl
      have hws : Aside0 (wrap64 ((s.size : Int) - at_) = (s.size : Int) - at_) := ⟨by unfold wrap64; omega⟩
      simp only [if_true, hws.out]
      rw [decide_eq_true (by omega)]
      exact hbad n

/-- The document's look for zeros. -/
theorem zeros_loop (t : ByteArray) (ht : t.size = 64) (r : Int × ByteArray × Bool × Int) (H : Ev (fun k => signetref13_Decode.l0 k t (decide (∀ c ∈ t.data.toList, c = 0)) 64) r) (d : Nat) : ∀ (i : Nat) (z : Bool), i + d = 64 → (z = true ↔ ∀ c ∈ t.data.toList.take i, c = 0) →
    Ev (fun k => signetref13_Decode.l0 k t z (i : Int)) r := by
  have hzt := Lib.size_eq t
  induction d with
  | zero =>
    intro i z hi hz
    obtain rfl : i = 64 := by omega
    rw [List.take_of_length_le (by omega)] at hz
    have e : z = decide (∀ c ∈ t.data.toList, c = 0) := by rw [Bool.eq_iff_iff, hz, decide_eq_true_iff]
    rw [e]
    exact H
  | succ d ih =>
    intro i z hi hz
    obtain ⟨c, hc⟩ := get_some t i (by omega)
    have hb := bt_nat t i c hc
    have h0 : (c.toNat : Int) = 0 ↔ c = 0 := ⟨fun h => UInt8.toNat_inj.1 (by show c.toNat = 0; omega), fun h => by rw [h]; rfl⟩
    have ts := take_at hc
    cases z with
    | false =>
      refine Ev.step (fun k => ?_) (ih (i + 1) false (by omega) ⟨fun h => (by cases h), fun h => hz.2 (fun x hx => h x (by rw [ts]; exact List.mem_append_left _ hx))⟩)
      simp only [signetref13_Decode.l0, Bool.false_eq_true, if_false]
      rw [if_pos (by omega), wrap_succ (by omega) (by omega)]
      rfl
    | true =>
      refine Ev.step (fun k => ?_) (ih (i + 1) ((c.toNat : Int) == 0) (by omega) ?_)
      · simp only [signetref13_Decode.l0, if_true, hb]
        rw [if_pos (by omega), if_pos (by omega), if_pos (by omega), wrap_succ (by omega) (by omega)]
        rfl
      · rw [beq_iff_eq, h0, ts]
        constructor
        · rintro rfl x hx
          rcases List.mem_append.1 hx with hx | hx
          · exact hz.1 rfl x hx
          · simpa using hx
        · intro h
          exact h c (List.mem_append_right _ (by simp))

/-- The document's Decode. -/
theorem rdecode_ev (s : ByteArray) (at_ : Int) (hs : s.size ≤ 140737488355328) (ha : -9223372036854775808 ≤ at_ ∧ at_ ≤ 9223372036854775807) : Ev (fun k => signetref13_Decode.f k s at_) (decA s at_) := by
  have hbad : Ev (fun k => signetref13_Decode.j0 k s at_ true) (0, ⟨#[]⟩, false, 131) := Ev.step (f := fun _ => some _) (fun k => by simp [signetref13_Decode.j0]) (Ev.now _)
  unfold signetref13_Decode.f decA
  by_cases h1 : at_ < 0
  · simp only [if_pos h1]
    rw [if_neg (by omega)]
    exact hbad
  · simp only [if_neg h1]
    by_cases h2 : at_ > (s.size : Int)
    · simp only [if_pos h2]
      rw [if_neg (by omega)]
      exact hbad
    · simp only [if_neg h2]
      have hws : Aside0 (wrap64 ((s.size : Int) - at_) = (s.size : Int) - at_) := ⟨by unfold wrap64; omega⟩
      simp only [hws.out]
      by_cases h3 : (s.size : Int) - at_ < 64
      · simp only [decide_eq_true h3]
        rw [if_neg (by omega)]
        exact hbad
      · simp only [decide_eq_false h3]
        rw [if_pos ⟨by omega, by omega⟩]
        have hsz := sl_size s at_ (by omega) (by omega)
        have hw64 : Aside0 (wrap64 (at_ + 64) = at_ + 64) := ⟨by unfold wrap64; omega⟩
        clear hws
        refine Ev.step (f := fun k => signetref13_Decode.l0 k (s.extract at_.toNat (at_ + 64).toNat) true 0) (fun k => ?_) ?_
        · simp only [signetref13_Decode.j0, Bool.false_eq_true, if_false, hw64.out]
          rw [if_pos (by omega), if_pos (by omega), if_pos (by omega)]
        · generalize s.extract at_.toNat (at_ + 64).toNat = t at *
          refine zeros_loop t hsz _ ?_ 64 0 true rfl ⟨fun _ => by simp, fun _ => rfl⟩
          have l4 := le4 t.data.toList
          have l2 := le2 (t.data.toList.drop 4)
          have t4 := rtake_ev t 0 4 (by omega) (by omega)
          have t2 := rtake_ev t 4 2 (by omega) (by omega)
          have e4 : takeA t 0 4 = (((leN (t.data.toList.take 4) : Nat) : Int), true) := by
            unfold takeA
            rw [if_neg (by omega), if_neg (by omega), if_neg (by omega)]
            rfl
          have e2 : takeA t 4 2 = (((leN ((t.data.toList.drop 4).take 2) : Nat) : Int), true) := by
            unfold takeA
            rw [if_neg (by omega), if_neg (by omega), if_neg (by omega)]
            rfl
          rw [e4] at t4
          rw [e2] at t2
          unfold decT
          by_cases hz : ∀ c ∈ t.data.toList, c = 0
          · rw [if_pos hz, decide_eq_true hz]
            refine Ev.step (f := fun _ => some _) (fun k => ?_) (Ev.now _)
            simp only [signetref13_Decode.l0, if_true]
            rw [if_neg (by omega)]
          · rw [if_neg hz, decide_eq_false hz]
            generalize hm : leN ((t.data.toList.drop 4).take 2) = m at *
            generalize hn : leN (t.data.toList.take 4) = n at *
            have w2 : Aside0 (wrap64 (m : Int) = (m : Int)) := ⟨by unfold wrap64; omega⟩
            have w3 : Aside0 (wrap64 (8 + (m : Int)) = ((8 + m : Nat) : Int)) := ⟨by unfold wrap64; omega⟩
            have w4 : Aside0 (wrap64 (n : Int) = (n : Int)) := ⟨by unfold wrap64; omega⟩
            have henc := refEncode_ev (n : Int) (t.extract 8 (8 + m)) (by rw [ByteArray.size_extract]; omega)
            refine Ev.step (f := fun k => (signetref01_Take.f k t 0 4).bind fun bt144 => ((signetref01_Take.f k t 4 2).bind fun bt146 => (if bt146.1 > 56 then (some (0, (⟨#[]⟩ : ByteArray), false, 131)) else (if 8 ≤ (wrap64 (8 + (wrap64 (bt146.1)))) then (if (wrap64 (8 + (wrap64 (bt146.1)))) ≤ (t.size : Int) then ((signetref13_Encode.f k (wrap64 (bt144.1)) (t.extract 8 ((wrap64 (8 + (wrap64 (bt146.1)))) : Int).toNat)).bind fun bt149 => (if bt149.2 = 0 then (if bt149.1.toList = t.toList then (some (wrap64 (bt144.1), t.extract 8 ((wrap64 (8 + (wrap64 (bt146.1)))) : Int).toNat, true, 0)) else (some (0, (⟨#[]⟩ : ByteArray), false, 131))) else (some (0, (⟨#[]⟩ : ByteArray), false, 131)))) else (none)) else (none))))) (fun k => ?_) (Ev.bind t4 (Ev.bind t2 ?_))
            · simp only [signetref13_Decode.l0, Bool.false_eq_true, if_false]
              rw [if_neg (by omega)]
            · simp only [w2.out, w3.out, w4.out]
              by_cases hb : 56 < m
              · have hb' : (m : Int) > 56 := by omega
                simp only [if_pos hb', if_pos hb]
                exact Ev.now _
              · have hb' : ¬ (m : Int) > 56 := by omega
                have c1 : (8 : Int) ≤ ((8 + m : Nat) : Int) := by omega
                have c2 : ((8 + m : Nat) : Int) ≤ (t.size : Int) := by omega
                simp only [if_neg hb', if_neg hb, if_pos c1, if_pos c2, Int.toNat_natCast]
                refine Ev.bind henc ?_
                by_cases q1 : (encA (n : Int) (t.extract 8 (8 + m))).2 = 0
                · by_cases q2 : (encA (n : Int) (t.extract 8 (8 + m))).1.toList = t.toList
                  · simp only [if_pos q1, if_pos q2]
                    exact Ev.now _
                  · simp only [if_pos q1, if_neg q2]
                    exact Ev.now _
                · simp only [if_neg q1]
                  exact Ev.now _

/-- An entry's bytes are read back. -/
theorem encB_size (i : Int) (x : ByteArray) (hx : x.size ≤ 56) : (encB i x).size = 64 := by
  rw [Lib.size_eq, encB_data]
  simp only [List.length_append, List.length_map, List.length_cons, List.length_nil, List.length_replicate]
  rw [← Lib.size_eq]
  omega
theorem u8_of (n : Int) (h0 : 0 ≤ n) (h1 : n < 256) : (UInt8.ofNat n.toNat).toNat = n.toNat := by
  rw [UInt8.toNat_ofNat']
  omega
theorem decT_enc (i : Int) (x : ByteArray) (h0 : 1 ≤ i) (h1 : i ≤ 4096) (hc : checkE x = 0) : decT (encB i x) = (i, x, true, 0) := by
  have h56 := checkE_size hc
  have hd := encB_data i x
  have u0 := u8_of (i % 256) (by omega) (by omega)
  have u1 := u8_of (i / 256 % 256) (by omega) (by omega)
  have u2 := u8_of (i / 65536 % 256) (by omega) (by omega)
  have u3 := u8_of (i / 16777216) (by omega) (by omega)
  have v0 := u8_of ((x.size : Int) % 256) (by omega) (by omega)
  have v1 := u8_of ((x.size : Int) / 256) (by omega) (by omega)
  have hn : leN ((encB i x).data.toList.take 4) = i.toNat := by
    rw [hd]
    simp only [List.map_cons, List.map_nil, List.cons_append, List.nil_append, List.take_succ_cons, List.take_zero, leN, u0, u1, u2, u3]
    omega
  have hm : leN (((encB i x).data.toList.drop 4).take 2) = x.size := by
    rw [hd]
    simp only [List.map_cons, List.map_nil, List.cons_append, List.nil_append, List.drop_succ_cons, List.drop_zero, List.take_succ_cons, List.take_zero, leN, v0, v1]
    omega
  have hx : (encB i x).extract 8 (8 + x.size) = x := by
    apply ba_ext
    rw [Lib.extract_data, hd]
    simp only [List.map_cons, List.map_nil, List.cons_append, List.nil_append, List.drop_succ_cons, List.drop_zero]
    rw [show 8 + x.size - 8 = x.data.toList.length from by rw [← Lib.size_eq]; omega, List.take_left' rfl]
  have hnz : ¬ ∀ c ∈ (encB i x).data.toList, c = 0 := by
    intro h
    rw [hd] at h
    have a0 := h (UInt8.ofNat (i % 256).toNat) (by simp)
    have a1 := h (UInt8.ofNat (i / 256 % 256).toNat) (by simp)
    have b0 := congrArg UInt8.toNat a0
    have b1 := congrArg UInt8.toNat a1
    rw [u0] at b0
    rw [u1] at b1
    have c0 : (0 : UInt8).toNat = 0 := rfl
    rw [c0] at b0 b1
    omega
  have hi : ((i.toNat : Nat) : Int) = i := by omega
  have henc : encA i x = (encB i x, 0) := by
    unfold encA
    rw [if_neg (by omega), if_neg (by omega), if_pos hc]
  unfold decT
  rw [if_neg hnz, hn, hm, hi, hx, henc, if_neg (by omega), if_pos rfl, if_pos rfl]

theorem decA_enc (i : Int) (x : ByteArray) (h0 : 1 ≤ i) (h1 : i ≤ 4096) (hc : checkE x = 0) : decA (encB i x) 0 = (i, x, true, 0) := by
  have hz := encB_size i x (checkE_size hc)
  unfold decA
  rw [if_pos ⟨by omega, by omega⟩]
  have e : (encB i x).extract (0 : Int).toNat ((0 : Int) + 64).toNat = encB i x := by
    apply ba_ext
    rw [sl_data _ 0 (by omega)]
    show ((encB i x).data.toList.drop 0).take 64 = _
    rw [List.drop_zero, List.take_of_length_le (by rw [← Lib.size_eq]; omega)]
  rw [e]
  exact decT_enc i x h0 h1 hc

theorem links_one (a : Int) (b : ByteArray) : Ev (fun k => signetlaw13_links.f k [(⟨a, b⟩ : S27)] [(⟨a, b⟩ : S33)]) true := by
  have s0 : wrap64 (0 + 1) = 1 := by unfold wrap64; omega
  refine ⟨3, fun k hk => ?_⟩
  obtain ⟨k, rfl⟩ : ∃ m, k = m + 3 := ⟨k - 3, by omega⟩
  unfold signetlaw13_links.f
  simp only [signetlaw13_links.l0, s0, List.length_cons, List.length_nil, rd_T27, rd_T33]
  simp

theorem encA_cases (i : Int) (x : ByteArray) : (encA i x).2 = 0 ∧ 1 ≤ i ∧ i ≤ 4096 ∧ checkE x = 0 ∧ encA i x = (encB i x, 0) ∨ (encA i x).2 ≠ 0 ∧ (encA i x).1 = ⟨#[]⟩ := by
  unfold encA
  by_cases h1 : i < 1
  · rw [if_pos h1]; exact .inr ⟨by decide, rfl⟩
  · rw [if_neg h1]
    by_cases h2 : 4096 < i
    · rw [if_pos h2]; exact .inr ⟨by decide, rfl⟩
    · rw [if_neg h2]
      by_cases h3 : checkE x = 0
      · rw [if_pos h3]; exact .inl ⟨rfl, by omega, by omega, h3, rfl⟩
      · rw [if_neg h3]; exact .inr ⟨by decide, rfl⟩

theorem NameEntries (i : Int) (x s : ByteArray) (at_ : Int) (_hi : -9223372036854775808 ≤ i ∧ i ≤ 9223372036854775807) (hx : x.size ≤ 140737488351232) (hs : s.size ≤ 140737488351232) (ha : -9223372036854775808 ≤ at_ ∧ at_ ≤ 9223372036854775807) : ∃ k, signetlaw13_NameEntries.f k i x s at_ = some true := by
  refine Ev.rounds ?_
  unfold signetlaw13_NameEntries.f
  simp only [encF, Option.bind_some]
  refine Ev.bind (refEncode_ev i x (by omega)) (Ev.bind (decode_ev s at_ (by omega) ha) (Ev.bind (rdecode_ev s at_ (by omega) ha) ?_))
  simp only [awake_true, Option.bind_some, if_true]
  refine Ev.bind (links_one _ _) ?_
  simp only [if_true, bne_self_eq_false, Bool.false_eq_true, if_false]
  rcases encA_cases i x with ⟨e2, h0, h1, hc, e⟩ | ⟨e2, e1⟩
  · rw [e]
    have hz := encB_size i x (checkE_size hc)
    refine Ev.bind (decode_ev (encB i x) 0 (by omega) ⟨by omega, by omega⟩) ?_
    rw [decA_enc i x h0 h1 hc]
    simp only [if_true, beq_self_eq_true, Bool.and_self]
    exact Ev.now _
  · rw [e1]
    refine Ev.bind (decode_ev (⟨#[]⟩ : ByteArray) 0 (by decide) ⟨by omega, by omega⟩) ?_
    simp only [if_neg e2]
    exact Ev.now _

end Go.Proofs.YtgciocgdppaaiaaDoor.Pure
