/- The two parsers answer alike (pure). -/
import Derived.Test.YtckpnmghbjimiaaDoorS0
import Derived.Test.YtckpnmghbjimiaaDoorG2
import Derived.Test.YtckpnmghbjimiaaDoorPxSignetref18Parse
namespace Go.Proofs.YtckpnmghbjimiaaDoor.Pure
open Go.Proofs.YtckpnmghbjimiaaDoor Go.Proofs.YtckpnmghbjimiaaDoor.P Go.RowKit Go.Proofs.YtckpnmghbjimiaaDoorW.PrintWords

theorem bt_nat (s : ByteArray) (i : Nat) (x : UInt8) (h : s.data.toList[i]? = some x) : bt s (i : Int) = (x.toNat : Int) := by
  have hl : i < s.size := by rw [Lib.size_eq]; exact (List.getElem?_eq_some_iff.1 h).1
  unfold bt
  have : (i : Int).toNat < s.size := by omega
  rw [dif_pos this]
  have h2 : s.data[i]? = some x := by rw [← Array.getElem?_toList]; exact h
  have := (Array.getElem?_eq_some_iff.1 h2).2
  rw [← this]
  rfl

theorem get_some (s : ByteArray) (i : Nat) (h : i < s.size) : ∃ x, s.data.toList[i]? = some x := by
  rw [Lib.size_eq] at h
  exact ⟨_, List.getElem?_eq_getElem h⟩

theorem u8_eq {x : UInt8} {n : Nat} (hn : n < 256) : ((x.toNat : Int) = (n : Int)) ↔ x = UInt8.ofNat n := by
  constructor
  · intro h
    have : x.toNat = n := by omega
    apply UInt8.toNat_inj.1
    rw [this, UInt8.toNat_ofNat']
    omega
  · rintro rfl
    rw [UInt8.toNat_ofNat']
    omega

def nameB (x : ByteArray) : Bool := decide (checkE x = 0)

theorem nameB_bad {x : ByteArray} (h : hasBad x = true) : nameB x = false := by
  unfold nameB checkE
  repeat' split
  all_goals first | rfl | (exfalso; simp_all)

theorem isName_loop (x : ByteArray) (hx : x.size ≤ 9223372036854775807) (d : Nat) : ∀ i : Nat, i + d = x.size → Lib.NoAny x.data.toList [0, 47] i →
    Ev (fun k => signetref18_IsName.l0 k x (i : Int)) (nameB x) := by
  induction d with
  | zero =>
    intro i hi hno
    refine Ev.step (f := fun _ => some (nameB x)) (fun k => ?_) (Ev.now _)
    have h1 : ¬ ((i : Int) < (x.size : Int)) := by omega
    have hb : hasBad x = false := by
      unfold hasBad
      rw [Lib.indexAny_none (by rw [← Lib.size_eq, ← hi]; exact hno)]
      rfl
    simp only [signetref18_IsName.l0]
    rw [if_neg h1]
    unfold nameB checkE
    rw [hb]
    by_cases e1 : x.toList = []
    · simp [e1]
    · by_cases e2 : x.size ≤ 56
      · have : ¬ 56 < x.size := by omega
        by_cases e3 : x.toList = [46]
        · simp [e3]
        · by_cases e4 : x.toList = [46, 46]
          · simp [e4]
          · have e2' : (x.size : Int) ≤ 56 := by omega
            simp [e1, this, e3, e4, e2']
      · have : 56 < x.size := by omega
        simp [e1, this]; intro; omega
  | succ d ih =>
    intro i hi hno
    have h1 : (i : Int) < (x.size : Int) := by omega
    have h0 : (0 : Int) ≤ (i : Int) := by omega
    obtain ⟨c, hc⟩ := get_some x i (by omega)
    have hbt := bt_nat x i c hc
    by_cases hm : [(0 : UInt8), 47].contains c = true
    · have hbad : hasBad x = true := by
        unfold hasBad
        rw [Lib.indexAny_hit hno hc hm]
        exact decide_eq_true (by omega)
      refine Ev.step (f := fun _ => some (nameB x)) (fun k => ?_) (Ev.now _)
      simp only [signetref18_IsName.l0]
      rw [if_pos h1, if_pos h0, hbt, nameB_bad hbad]
      have : c = 0 ∨ c = 47 := by simpa using hm
      rcases this with rfl | rfl
      · rfl
      · rfl
    · have hm' : [(0 : UInt8), 47].contains c = false := by simpa using hm
      have hn := hno.succ hc hm'
      refine Ev.step (fun k => ?_) (ih (i + 1) (by omega) hn)
      have hne : c ≠ 0 ∧ c ≠ 47 := by simpa using hm
      simp only [signetref18_IsName.l0]
      rw [if_pos h1, if_pos h0, hbt, if_neg (show ¬ ((c.toNat : Int) = 0) from fun e => hne.1 ((u8_eq (n := 0) (by omega)).1 e)), if_neg (show ¬ ((c.toNat : Int) = 47) from fun e => hne.2 ((u8_eq (n := 47) (by omega)).1 e)), wrap_succ h0 (by omega)]
      rfl

theorem isName_ev (x : ByteArray) (hx : x.size ≤ 9223372036854775807) : Ev (fun k => signetref18_IsName.f k x) (nameB x) :=
  isName_loop x hx x.size 0 (by omega) (Lib.NoAny.zero _ _)


theorem split_word : ∀ u : List UInt8, (∀ c ∈ u, c ≠ 47) → splitSlash u = [u]
  | [], _ => rfl
  | c :: u, h => by
    have ih := split_word u (fun x hx => h x (List.mem_cons_of_mem _ hx))
    unfold splitSlash
    rw [if_neg (h c List.mem_cons_self), ih]
theorem split_word_slash : ∀ (u v : List UInt8), (∀ c ∈ u, c ≠ 47) → splitSlash (u ++ 47 :: v) = u :: splitSlash v
  | [], v, _ => by
    rw [List.nil_append, splitSlash, if_pos rfl]
  | c :: u, v, h => by
    have ih := split_word_slash u v (fun x hx => h x (List.mem_cons_of_mem _ hx))
    rw [List.cons_append, splitSlash, if_neg (h c List.mem_cons_self), ih]

/-- A text's word at a place: the word, what is behind it. -/
theorem word_at (l : List UInt8) : ∃ u r, l = u ++ r ∧ (∀ c ∈ u, c ≠ 47) ∧ (r = [] ∨ ∃ v, r = 47 :: v) := by
  induction l with
  | nil => exact ⟨[], [], rfl, by simp, .inl rfl⟩
  | cons c l ih =>
    by_cases h : c = 47
    · subst h
      exact ⟨[], 47 :: l, rfl, by simp, .inr ⟨l, rfl⟩⟩
    · obtain ⟨u, r, rfl, hu, hr⟩ := ih
      refine ⟨c :: u, r, rfl, ?_, hr⟩
      intro x hx
      rcases List.mem_cons.1 hx with rfl | hx
      · exact h
      · exact hu x hx

theorem toList_ofL (l : List UInt8) : (ofL l).toList = l := by rw [Lib.toList_data]; rfl
theorem size_ofL (l : List UInt8) : (ofL l).size = l.length := by rw [Lib.size_eq]; rfl

/-- The end of a word is found. -/
theorem l1_ev (s : ByteArray) (hs : s.size ≤ 1024) (i m : Nat) (N : List ByteArray) (D : Bool) (res : List ByteArray × Bool × Int × Int) (hm : m ≤ s.size)
    (hend : m = s.size ∨ s.data.toList[m]? = some 47) (hj3 : Ev (fun k => signetref18_Parse.j3 k s (m : Int) (i : Int) N D) res) (d : Nat) : ∀ j : Nat, j + d = m → (∀ t, j ≤ t → t < m → s.data.toList[t]? ≠ some 47) →
    Ev (fun k => signetref18_Parse.l1 k s (j : Int) (i : Int) N D) res := by
  induction d with
  | zero =>
    intro j hj _
    obtain rfl : j = m := by omega
    refine Ev.step (fun k => ?_) hj3
    simp only [signetref18_Parse.l1]
    rcases hend with h | h
    · rw [if_neg (by omega)]
    · have hl := (List.getElem?_eq_some_iff.1 h).1
      rw [← Lib.size_eq] at hl
      rw [if_pos (by omega), if_pos (by omega), bt_nat s j 47 h]; rfl
  | succ d ih =>
    intro j hj hno
    refine Ev.step (fun k => ?_) (ih (j + 1) (by omega) (fun t h1 h2 => hno t (by omega) h2))
    obtain ⟨c, hc⟩ := get_some s j (by omega)
    have hne : c ≠ 47 := fun e => hno j (Nat.le_refl _) (by omega) (by rw [hc, e])
    simp only [signetref18_Parse.l1]
    rw [if_pos (by omega), if_pos (by omega), bt_nat s j c hc, if_neg (show ¬ ((c.toNat : Int) = 47) from fun e => hne ((u8_eq (n := 47) (by omega)).1 e)), wrap_succ (by omega) (by omega)]
    rfl

/-- One word, taken. -/
theorem j3_ev (s : ByteArray) (hs : s.size ≤ 1024) (i m : Nat) (N : List ByteArray) (D D' : Bool) (hN : N.length ≤ 32) (x : ByteArray) (hx : x = s.extract i m) (him : i < m) (hm : m ≤ s.size) (hx0 : x.toList ≠ []) (hxs : x.size = m - i)
    (rest : List ByteArray) (hrest : ∀ (N2 : List ByteArray) (D2 : Bool), N2.length ≤ 32 → Ev (fun k => signetref18_Parse.l0 k s (m : Int) N2 D2) (finP (runP (N2, D2, ((m + 1 : Nat) : Int)) rest))) :
    Ev (fun k => signetref18_Parse.j3 k s (m : Int) (i : Int) N D) (finP (runP (N, D', (i : Int)) (x :: rest))) := by
  have hat : (i : Int) + ((x.size : Int) + 1) = ((m + 1 : Nat) : Int) := by rw [hxs]; omega
  have e0 : s.extract (i : Int).toNat (m : Int).toNat = x := by rw [hx]; rfl
  have hp : ∀ k, signetref18_Parse.j3 (k + 1) s (m : Int) (i : Int) N D = (if x.toList = ([46] : List UInt8) then (signetref18_Parse.l0 k s m N true) else (if x.toList = ([46, 46] : List UInt8) then (if (N.length : Int) > 0 then (if 0 ≤ (wrap64 ((N.length : Int) - 1)) then (if (wrap64 ((N.length : Int) - 1)) ≤ (N.length : Int) then (if ([] : List ByteArray).length + (N.take ((wrap64 ((N.length : Int) - 1)) : Int).toNat).length < 8796093022208 then (signetref18_Parse.l0 k s m ([] ++ N.take ((wrap64 ((N.length : Int) - 1)) : Int).toNat) true) else none) else none) else none) else (signetref18_Parse.l0 k s m N true)) else ((signetref18_IsName.f k x).bind fun t125 => (if t125 = true then (if (N.length : Int) = 32 then (some (([] : List ByteArray), false, (i : Int), 182)) else (if ([] : List ByteArray).length + N.length < 8796093022208 then (if ([] ++ N).length < 8796093022208 then (signetref18_Parse.l0 k s m (([] ++ N) ++ [x]) false) else none) else none)) else (some (([] : List ByteArray), false, (i : Int), 130)))))) := by
    intro k
    simp only [signetref18_Parse.j3]
    rw [if_pos (by omega), if_pos (by omega), if_pos (by omega), e0]
    rfl
  refine Ev.step hp ?_
  unfold runP
  by_cases h1 : x.toList = [46]
  · have e : stepP (N, D', (i : Int)) x = .ok (N, true, ((m + 1 : Nat) : Int)) := by unfold stepP; rw [if_neg hx0, if_pos h1, ← hat]
    rw [e]
    simp only [h1, if_true]
    exact hrest N true hN
  · by_cases h2 : x.toList = [46, 46]
    · have e : stepP (N, D', (i : Int)) x = .ok (N.dropLast, true, ((m + 1 : Nat) : Int)) := by unfold stepP; rw [if_neg hx0, if_neg h1, if_pos h2, ← hat]
      rw [e]
      simp only [if_neg h1, if_pos h2]
      by_cases h3 : (N.length : Int) > 0
      · have hw : wrap64 ((N.length : Int) - 1) = ((N.length - 1 : Nat) : Int) := by unfold wrap64; omega
        rw [hw]
        have ht : N.take ((N.length - 1 : Nat) : Int).toNat = N.dropLast := by rw [List.dropLast_eq_take]; rfl
        refine Ev.congr (fun k => ?_) (hrest N.dropLast true (by simp; omega))
        rw [ht, if_pos h3, if_pos (by omega), if_pos (by omega), if_pos (by simp; omega), List.nil_append]
      · obtain rfl : N = [] := List.length_eq_zero_iff.1 (by omega)
        refine Ev.congr (fun k => ?_) (hrest [] true (by simp))
        rw [if_neg h3]
    · have hn := isName_ev x (by rw [hxs]; omega)
      simp only [if_neg h1, if_neg h2]
      refine Ev.bind hn ?_
      unfold nameB
      by_cases h4 : checkE x = 0
      · simp only [h4, decide_true, if_true]
        by_cases h5 : N.length = 32
        · have e : stepP (N, D', (i : Int)) x = .error ((i : Int), 182) := by unfold stepP; rw [if_neg hx0, if_neg h1, if_neg h2, if_neg (fun h => h h4), if_pos h5]
          rw [e]
          refine Ev.congr (fun k => ?_) (Ev.now _)
          rw [if_pos (by omega)]
          rfl
        · have e : stepP (N, D', (i : Int)) x = .ok (N ++ [x], false, ((m + 1 : Nat) : Int)) := by unfold stepP; rw [if_neg hx0, if_neg h1, if_neg h2, if_neg (fun h => h h4), if_neg h5, ← hat]
          rw [e]
          refine Ev.congr (fun k => ?_) (hrest (N ++ [x]) false (by simp; omega))
          rw [if_neg (by omega), if_pos (by simp; omega), if_pos (by simp; omega), List.nil_append]
      · have e : stepP (N, D', (i : Int)) x = .error ((i : Int), checkE x) := by unfold stepP; rw [if_neg hx0, if_neg h1, if_neg h2, if_pos h4]
        have hc : checkE x = 130 := by
          unfold checkE at h4 ⊢
          repeat' split
          all_goals first | rfl | (exfalso; revert h4; simp_all)
        rw [e, hc]
        simp only [show ((130 : Int) = 0) = False from by simp, decide_false, Bool.false_eq_true, if_false]
        exact Ev.now _

theorem parse_loop (s : ByteArray) (hs : s.size ≤ 1024) : ∀ (n i : Nat) (N : List ByteArray) (D D' : Bool), n + i = s.size → 1 ≤ i → s.data.toList[i - 1]? = some 47 → N.length ≤ 32 →
    Ev (fun k => signetref18_Parse.l0 k s (i : Int) N D) (finP (runP (N, D', (i : Int)) ((splitSlash (s.data.toList.drop i)).map ofL))) := by
  intro n
  induction n using Nat.strongRecOn with
  | _ n ih =>
  intro i N D D' hn hi1 hprev hN
  have hsz := Lib.size_eq s
  obtain ⟨u, r, hur, hu, hr⟩ := word_at (s.data.toList.drop i)
  have hlen : u.length + r.length = s.size - i := by
    have := congrArg List.length hur
    rw [List.length_drop, List.length_append] at this
    omega
  have hget : ∀ t, t < u.length → s.data.toList[i + t]? = u[t]? := by
    intro t ht
    rw [← List.getElem?_drop, hur, List.getElem?_append_left ht]
  have hgetr : ∀ t, s.data.toList[i + u.length + t]? = r[t]? := by
    intro t
    rw [Nat.add_assoc, ← List.getElem?_drop, hur, List.getElem?_append_right (by omega)]
    congr 1
    omega
  by_cases hu0 : u = []
  · subst hu0
    rcases hr with rfl | ⟨v, rfl⟩
    · -- the end, behind a slash
      have hi : i = s.size := by simp at hlen; omega
      have hw : wrap64 ((s.size : Int) - 1) = ((i - 1 : Nat) : Int) := by unfold wrap64; omega
      refine Ev.step (f := fun _ => some (N, true, 0, 0)) (fun k => ?_) ?_
      · simp only [signetref18_Parse.l0]
        rw [if_neg (by omega), hw, if_pos (by omega), if_pos (by omega), bt_nat s (i - 1) 47 hprev]
        rfl
      · have e : finP (runP (N, D', (i : Int)) ((splitSlash ([] ++ [])).map ofL)) = (N, true, 0, 0) := by
          rw [List.append_nil, split_word [] (by simp), List.map_cons, runP]
          have : stepP (N, D', (i : Int)) (ofL []) = .ok (N, true, ((i + 1 : Nat) : Int)) := by
            unfold stepP
            rw [if_pos (toList_ofL []), size_ofL]
            simp
          rw [this]
          rfl
        rw [hur, e]
        exact Ev.now _
    · -- one more slash
      have h47 : s.data.toList[i]? = some 47 := by have := hgetr 0; simpa using this
      have hil : i < s.size := by simp at hlen; omega
      have hd : s.data.toList.drop (i + 1) = v := by
        rw [← List.drop_drop, hur]
        rfl
      have H := ih (n - 1) (by omega) (i + 1) N D true (by omega) (by omega) h47 hN
      rw [hd] at H
      have e : finP (runP (N, D', (i : Int)) ((splitSlash ([] ++ 47 :: v)).map ofL)) = finP (runP (N, true, ((i + 1 : Nat) : Int)) ((splitSlash v).map ofL)) := by
        rw [split_word_slash [] v (by simp), List.map_cons, runP]
        have : stepP (N, D', (i : Int)) (ofL []) = .ok (N, true, ((i + 1 : Nat) : Int)) := by
          unfold stepP
          rw [if_pos (toList_ofL []), size_ofL]
          simp
        rw [this]
      rw [hur, e]
      refine Ev.step (fun k => ?_) H
      simp only [signetref18_Parse.l0]
      rw [if_pos (by omega), if_pos (by omega), bt_nat s i 47 h47, wrap_succ (by omega) (by omega)]
      rfl
  · have hul : 0 < u.length := List.length_pos_iff.2 hu0
    have hm : i + u.length ≤ s.size := by omega
    have hx : ofL u = s.extract i (i + u.length) := by
      refine ba_ext ?_
      rw [Lib.extract_data, hur, data_ofL]
      simp
    have hlast : ∃ c, s.data.toList[i + u.length - 1]? = some c ∧ c ≠ 47 := by
      have := hget (u.length - 1) (by omega)
      rw [show i + (u.length - 1) = i + u.length - 1 from by omega] at this
      rw [this, List.getElem?_eq_getElem (by omega)]
      exact ⟨_, rfl, hu _ (List.getElem_mem _)⟩
    have hno : ∀ t, i ≤ t → t < i + u.length → s.data.toList[t]? ≠ some 47 := by
      intro t h1 h2 he
      have := hget (t - i) (by omega)
      rw [show i + (t - i) = t from by omega, he] at this
      exact hu 47 (List.mem_of_getElem? this.symm) rfl
    have hstart : ∀ k, signetref18_Parse.l0 (k + 1) s (i : Int) N D = signetref18_Parse.l1 k s (i : Int) (i : Int) N D := by
      intro k
      obtain ⟨c, hc⟩ := get_some s i (by omega)
      have hne : c ≠ 47 := fun e => hno i (Nat.le_refl _) (by omega) (by rw [hc, e])
      simp only [signetref18_Parse.l0]
      rw [if_pos (by omega), if_pos (by omega), bt_nat s i c hc, if_neg (show ¬ ((c.toNat : Int) = 47) from fun e => hne ((u8_eq (n := 47) (by omega)).1 e))]
    refine Ev.step hstart ?_
    rcases hr with rfl | ⟨v, rfl⟩
    · have hms : i + u.length = s.size := by simp at hlen; omega
      have e : (splitSlash (u ++ [])).map ofL = [ofL u] := by rw [List.append_nil, split_word u hu]; rfl
      rw [hur, e]
      refine l1_ev s hs i (i + u.length) N D _ hm (.inl hms) ?_ u.length i rfl hno
      refine j3_ev s hs i (i + u.length) N D D' hN (ofL u) hx (by omega) hm (by rw [toList_ofL]; exact hu0) (by rw [size_ofL]; omega) [] ?_
      intro N2 D2 hN2
      have hw : wrap64 ((s.size : Int) - 1) = ((i + u.length - 1 : Nat) : Int) := by unfold wrap64; omega
      obtain ⟨c, hc, hne⟩ := hlast
      refine Ev.step (f := fun _ => some (N2, D2, 0, 0)) (fun k => ?_) (Ev.now _)
      simp only [signetref18_Parse.l0]
      rw [if_neg (by omega), hw, if_pos (by omega), if_pos (by omega), bt_nat s _ c hc, if_neg (show ¬ ((c.toNat : Int) = 47) from fun e => hne ((u8_eq (n := 47) (by omega)).1 e))]
    · have h47 : s.data.toList[i + u.length]? = some 47 := by have := hgetr 0; simpa using this
      have hms : i + u.length < s.size := by simp at hlen; omega
      have e : (splitSlash (u ++ 47 :: v)).map ofL = ofL u :: (splitSlash v).map ofL := by rw [split_word_slash u v hu]; rfl
      have hd : s.data.toList.drop (i + u.length + 1) = v := by
        rw [Nat.add_assoc, ← List.drop_drop, hur, show u ++ 47 :: v = (u ++ [47]) ++ v from by simp]
        exact List.drop_left' (by simp)
      rw [hur, e]
      refine l1_ev s hs i (i + u.length) N D _ hm (.inr h47) ?_ u.length i rfl hno
      refine j3_ev s hs i (i + u.length) N D D' hN (ofL u) hx (by omega) hm (by rw [toList_ofL]; exact hu0) (by rw [size_ofL]; omega) _ ?_
      intro N2 D2 hN2
      have H := ih (n - (u.length + 1)) (by omega) (i + u.length + 1) N2 D2 D2 (by omega) (by omega) h47 hN2
      rw [hd] at H
      refine Ev.step (fun k => ?_) H
      simp only [signetref18_Parse.l0]
      rw [if_pos (by omega), if_pos (by omega), bt_nat s _ 47 h47, wrap_succ (by omega) (by omega)]
      rfl

theorem parse_ev (s : ByteArray) : Ev (fun k => signetref18_Parse.f k s) (parseA s) := by
  have hsz := Lib.size_eq s
  unfold parseA
  by_cases h1 : 1024 < s.size
  · rw [if_pos h1]
    refine Ev.congr (fun k => ?_) (Ev.now _)
    unfold signetref18_Parse.f
    rw [if_pos (by omega)]
  · rw [if_neg h1]
    by_cases h2 : s.data.toList = []
    · rw [h2]
      refine Ev.congr (f := fun k => signetref18_Parse.j0 k s true) (fun k => ?_) (Ev.step (f := fun _ => some _) (fun k => ?_) (Ev.now _))
      · unfold signetref18_Parse.f
        rw [if_neg (by omega), if_pos (by rw [Lib.toList_data]; exact h2)]
      · simp [signetref18_Parse.j0]
    · have hpos : 0 < s.size := by rw [hsz]; exact List.length_pos_iff.2 h2
      obtain ⟨c, hc⟩ := get_some s 0 hpos
      have hh : s.data.toList.head? = some c := by rw [List.head?_eq_getElem?]; exact hc
      rw [hh]
      have hf : ∀ k, signetref18_Parse.f k s = signetref18_Parse.j0 k s ((c.toNat : Int) != 47) := by
        intro k
        unfold signetref18_Parse.f
        rw [if_neg (by omega), if_neg (by rw [Lib.toList_data]; exact h2), if_pos (by omega), ← bt_nat s 0 c hc]
        rfl
      refine Ev.congr hf ?_
      by_cases hc47 : c = 47
      · subst hc47
        rw [if_pos rfl]
        have hL := parse_loop s (by omega) (s.size - 1) 1 [] true true (by omega) (by omega) hc (by simp)
        have e : parseR s = finP (runP ([], true, ((1 : Nat) : Int)) ((splitSlash (s.data.toList.drop 1)).map ofL)) := by
          unfold parseR parts
          rw [Lib.extract_to_end]
          rfl
        rw [e]
        refine Ev.step (f := fun k => signetref18_Parse.l0 k s 0 [] true) (fun k => ?_) (Ev.step (fun k => ?_) hL)
        · simp [signetref18_Parse.j0]
        · simp only [signetref18_Parse.l0]
          rw [if_pos (by omega), if_pos (by omega), show bt s 0 = 47 from bt_nat s 0 47 hc, if_pos rfl, show wrap64 (0 + 1) = ((1 : Nat) : Int) from by unfold wrap64; omega]
      · rw [if_neg (by simpa using hc47)]
        have hb : ((c.toNat : Int) != 47) = true := by
          rw [bne_iff_ne]
          exact fun e => hc47 ((u8_eq (n := 47) (by omega)).1 e)
        rw [hb]
        refine Ev.step (f := fun _ => some _) (fun k => ?_) (Ev.now _)
        simp [signetref18_Parse.j0]

end Go.Proofs.YtckpnmghbjimiaaDoor.Pure
