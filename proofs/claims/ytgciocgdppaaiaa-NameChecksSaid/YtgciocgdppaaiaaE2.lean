/- name.Encode: an entry's bytes, or the error. -/
import Derived.Test.YtgciocgdppaaiaaE1
import Derived.Test.YtgciocgdppaaiaaPxNameCheck
import Derived.Test.YtgciocgdppaaiaaShelf
import Derived.Deep.RegionHeld3
import Derived.RegionTactic
import Derived.ChangeAlike
import Derived.Laws.BytesArg
import Derived.Deep.DeepCutAuto

namespace Go.Proofs.Ytgciocgdppaaiaa
open Go.RowKit Go.Shelf

/-- The error of a name. -/
def checkE (x : ByteArray) : Int := if x.toList = [] then 130 else if 56 < x.size then 130 else if hasBad x = true then 130 else if x.toList = [46] then 130 else if x.toList = [46, 46] then 130 else 0

theorem check_any (x : ByteArray) (w : World) : Calls Try.prog 7 #[.string x] w fun e w' => e = .returned (.int .i64 (checkE x)) ∧ Below w.heap.size w w' := by
  refine P.name_Check.calls x _ w ?_
  unfold P.name_Check.f checkE
  by_cases h1 : x.toList = []
  · rw [if_pos h1, if_pos h1]
  · rw [if_neg h1, if_neg h1]
    by_cases h2 : 56 < x.size
    · rw [if_pos (by omega), if_pos h2]
    · rw [if_neg (by omega), if_neg h2]
      have hca : P.strings_ContainsAny.f x (⟨#[0, 47]⟩ : ByteArray) = some (hasBad x) := if_pos ⟨rfl, by omega⟩
      rw [hca]
      simp only [Option.bind_some]
      repeat' split
      all_goals rfl

theorem checkE_size {x : ByteArray} (h : checkE x = 0) : x.size ≤ 56 := by
  refine Classical.byContradiction fun hn => ?_
  unfold checkE at h
  by_cases h1 : x.toList = []
  · rw [if_pos h1] at h; cases h
  · rw [if_neg h1, if_pos (by omega)] at h; cases h


/-- The bytes of an entry. -/
def encB (i : Int) (x : ByteArray) : ByteArray :=
  strOfNums [i % 256, i / 256 % 256, i / 65536 % 256, i / 16777216] ++ strOfNums [(x.size : Int) % 256, (x.size : Int) / 256] ++ (⟨#[0, 0]⟩ : ByteArray) ++ x ++ (⟨(Lib.repeatL [0] (56 - x.size)).toArray⟩ : ByteArray)

theorem alloc_new (w : World) (o : Obj) : (w.alloc o).heap[w.heap.size]? = some o := by
  show (w.heap.push o)[w.heap.size]? = some o
  simp
theorem cells_at {W : World} {b : Nat} {cs : Array Value} {t : TypeId} {fz : Nat × Nat} (h : W.heap[b]? = some (.cells cs t fz)) (j : Nat) (v : Value) (hv : cs[j]? = some v) : W.cell? ⟨b, j, none⟩ = some v := by simp [World.cell?, h, hv]
theorem belowStep {B : Nat} {w W w3 : World} (hs : B ≤ w.heap.size) (h : Below B w W) (k : Below W.heap.size W w3) : Below B w w3 := h.trans (k.mono (Nat.le_trans hs h.size))
theorem belowAlloc {B : Nat} {w W : World} (o : Obj) (hs : B ≤ w.heap.size) (h : Below B w W) : Below B w (W.alloc o) := h.alloc (Nat.le_trans hs h.size) o
theorem alloc_at {w : World} {k : Nat} (o : Obj) (o' : Obj) (h : k = w.heap.size) (e : o = o' := by rfl) : (w.alloc o).heap[k]? = some o' := by subst h; subst e; exact alloc_new w o
theorem alloc_past {w : World} {k : Nat} {x : Obj} (o : Obj) (h : w.heap[k]? = some x) : (w.alloc o).heap[k]? = some x := by
  have hk := (Array.getElem?_eq_some_iff.1 h).1
  exact (Below.heap_alloc w o k hk).trans h
theorem keepS {B : Nat} {i : Int} {x : ByteArray} {W w' : World} (h0 : W.cell? ⟨B, 0, none⟩ = some (.int .i64 i)) (h1 : W.cell? ⟨B, 1, none⟩ = some (.string x)) (hb : Below (B + 1) W w') :
    w'.cell? ⟨B, 0, none⟩ = some (.int .i64 i) ∧ w'.cell? ⟨B, 1, none⟩ = some (.string x) ∧ Below (B + 1) W w' :=
  ⟨(hb.cell (Nat.lt_succ_self B)).trans h0, (hb.cell (Nat.lt_succ_self B)).trans h1, hb⟩

set_option maxRecDepth 100000 in
set_option maxHeartbeats 4000000 in
theorem encode_good (i : Int) (x : ByteArray) (w : World) (h0 : 1 ≤ i) (h1 : i ≤ 4096) (hc : checkE x = 0) :
    Calls Try.prog 14 #[.agg #[.int .i64 i, .string x]] w fun e w' => e = .returned (.tuple #[.string (encB i x), .int .i64 0]) ∧ Below w.heap.size w w' := by
  have hx := checkE_size hc
  go_enter Try.func14, Try.ntmps14
  go_upto_region 6 with (go_at_call 7; refine (check_any _ _).mono ?_; rintro e w' ⟨rfl, hb⟩; rw [hc])
  obtain ⟨W, hW⟩ : ∃ W, w.alloc (Obj.cells #[Value.int IntKind.i64 i, Value.string x] 35) = W := ⟨_, rfl⟩
  have hWs : W.heap.size = w.heap.size + 1 := by rw [← hW]; simp
  have hc0' : W.cell? ⟨w.heap.size, 0, none⟩ = some (.int .i64 i) := by rw [← hW]; exact cells_at (alloc_new w _) 0 _ rfl
  have hc1' : W.cell? ⟨w.heap.size, 1, none⟩ = some (.string x) := by rw [← hW]; exact cells_at (alloc_new w _) 1 _ rfl
  rw [hW, hWs] at hb
  have hc0 : w'.cell? ⟨w.heap.size, 0, none⟩ = some (.int .i64 i) := (hb.cell (Nat.lt_succ_self _)).trans hc0'
  have hc1 : w'.cell? ⟨w.heap.size, 1, none⟩ = some (.string x) := (hb.cell (Nat.lt_succ_self _)).trans hc1'
  have hsz : w.heap.size + 1 ≤ w'.heap.size := by have := hb.size; omega
  clear hc0' hc1'
  obtain ⟨B, hBB⟩ : ∃ B, w.heap.size = B := ⟨_, rfl⟩
  rw [hBB] at hc0 hc1 hsz hb hWs
  simp only [hBB]
  have hw32 : IntKind.u32.wrap i = i := by unfold IntKind.wrap; simp [IntKind.bits, IntKind.signed]; omega
  have hw16 : IntKind.u16.wrap (x.size : Int) = (x.size : Int) := by unfold IntKind.wrap; simp [IntKind.bits, IntKind.signed]; omega
  go_cut [5, 6] (fun n5 n6 wx => ∃ b1 b2, n5 = .pointer (some ⟨b1, 0, none⟩) ∧ n6 = .pointer (some ⟨b2, 0, none⟩) ∧ wx.heap[b1]? = some (.cells #[.int .u8 (i % 256), .int .u8 (i / 256 % 256), .int .u8 (i / 65536 % 256), .int .u8 (i / 16777216)] 44 (0, 0)) ∧ wx.heap[b2]? = some (.cells #[.int .u8 ((x.size : Int) % 256), .int .u8 ((x.size : Int) / 256)] 47 (0, 0)) ∧ Below (B + 1) w' wx)
  case first =>
    go_region_held3 (fun W2 => W2.cell? ⟨B, 0, none⟩ = some (.int .i64 i) ∧ W2.cell? ⟨B, 1, none⟩ = some (.string x) ∧ Below (B + 1) w' W2)
      (first | (refine keepS hc0 hc1 ?_; repeat (first | assumption | exact Below.refl _ _ | (refine Below.drew ?_) | (refine Below.setCell ?_ ?_ _) | (refine belowAlloc _ hsz ?_) | omega | (simp; omega))))
      (first | (go_at_call 22; (try rw [hw32]); refine (bytes32_any i _ ?_ ?_).mono ?_; omega; omega; rintro e w3 ⟨rfl, hw3⟩; rw [hw3]) | (go_at_call 23; (try rw [hw16]); refine (bytes16_any (x.size : Int) _ ?_ ?_).mono ?_; omega; omega; rintro e w4 ⟨rfl, hw4⟩; rw [hw4]))
    all_goals (go_wp2_with fail; go_meet)
    all_goals
      refine ⟨_, _, rfl, rfl, ?_, ?_, ?_⟩
      · repeat (first | (refine alloc_at _ _ ?_; simp; done) | (refine alloc_past _ ?_))
      · repeat (first | (refine alloc_at _ _ ?_; simp; done) | (refine alloc_past _ ?_))
      · repeat (first | exact Below.refl _ _ | (refine Below.drew ?_) | (refine belowAlloc _ hsz ?_))
  case rest =>
    obtain ⟨b1, b2, rfl, rfl, hb1, hb2, hbw⟩ := hcut
    have hd0 := (hbw.cell (p := ⟨B, 0, none⟩) (Nat.lt_succ_self B)).trans hc0
    have hd1 := (hbw.cell (p := ⟨B, 1, none⟩) (Nat.lt_succ_self B)).trans hc1
    have k10 : wc.cell? ⟨b1, 0, none⟩ = some (.int .u8 (i % 256)) := cells_at hb1 0 _ rfl
    have k11 : wc.cell? ⟨b1, 1, none⟩ = some (.int .u8 (i / 256 % 256)) := cells_at hb1 1 _ rfl
    have k12 : wc.cell? ⟨b1, 2, none⟩ = some (.int .u8 (i / 65536 % 256)) := cells_at hb1 2 _ rfl
    have k13 : wc.cell? ⟨b1, 3, none⟩ = some (.int .u8 (i / 16777216)) := cells_at hb1 3 _ rfl
    have k20 : wc.cell? ⟨b2, 0, none⟩ = some (.int .u8 ((x.size : Int) % 256)) := cells_at hb2 0 _ rfl
    have k21 : wc.cell? ⟨b2, 1, none⟩ = some (.int .u8 ((x.size : Int) / 256)) := cells_at hb2 1 _ rfl
    clear hc0 hc1
    have kc1 : (convert 50 9 (.slice (some ⟨b1, 0, none⟩) 4 4)).run Try.prog wc.drew = .ok (.string (strOfNums [i % 256, i / 256 % 256, i / 65536 % 256, i / 16777216])) wc.drew :=
      run_convert_bytes_arg wc.drew 50 5 Try.underlying50 Try.underlying5 b1 0 4 4 _ rfl (fun j hj => by
        match j, hj with
        | 0, _ => exact k10
        | 1, _ => exact k11
        | 2, _ => exact k12
        | 3, _ => exact k13
        | (j + 4), hj => omega) 9 Try.underlying9
    have kc2 : (convert 50 9 (.slice (some ⟨b2, 0, none⟩) 2 2)).run Try.prog wc.drew = .ok (.string (strOfNums [(x.size : Int) % 256, (x.size : Int) / 256])) wc.drew :=
      run_convert_bytes_arg wc.drew 50 5 Try.underlying50 Try.underlying5 b2 0 2 2 _ rfl (fun j hj => by
        match j, hj with
        | 0, _ => exact k20
        | 1, _ => exact k21
        | (j + 2), hj => omega) 9 Try.underlying9
    have ht1 : (strOfNums [i % 256, i / 256 % 256, i / 65536 % 256, i / 16777216]).size = 4 := rfl
    have ht2 : (strOfNums [(x.size : Int) % 256, (x.size : Int) / 256]).size = 2 := rfl
    have hx8 : ¬ (9223372036854775807 < 8 + x.size) := by omega
    obtain ⟨t1, hT1⟩ : ∃ t, strOfNums [i % 256, i / 256 % 256, i / 65536 % 256, i / 16777216] = t := ⟨_, rfl⟩
    obtain ⟨t2, hT2⟩ : ∃ t, strOfNums [(x.size : Int) % 256, (x.size : Int) / 256] = t := ⟨_, rfl⟩
    rw [hT1] at kc1 ht1
    rw [hT2] at kc2 ht2
    go_wp2
    go_region
    have hs8 : (t1 ++ t2 ++ (⟨#[0, 0]⟩ : ByteArray) ++ x).size = 8 + x.size := by
      rw [ByteArray.size_append, ByteArray.size_append, ByteArray.size_append, ht1, ht2]; rfl
    obtain ⟨s, hsdef⟩ : ∃ s, t1 ++ t2 ++ (⟨#[0, 0]⟩ : ByteArray) ++ x = s := ⟨_, rfl⟩
    rw [hsdef] at hs8
    simp only [hsdef]
    have hrep : 64 - (8 + (x.size : Int)) = ((56 - x.size : Nat) : Int) := by omega
    obtain ⟨z, hz⟩ : ∃ z : ByteArray, (⟨(Lib.repeatL [0] (56 - x.size)).toArray⟩ : ByteArray) = z := ⟨_, rfl⟩
    have hzs : z.size = 56 - x.size := by rw [← hz]; show (Lib.repeatL [0] (56 - x.size)).length = _; rw [Lib.repeatL_length]; simp
    have hcat : ¬ (9223372036854775807 < 8 + x.size + z.size) := by omega
    have hR : ∀ W5, Calls Try.prog 24 #[.string ⟨#[0]⟩, .int .i64 ((56 - x.size : Nat) : Int)] W5 fun e w' => e = .returned (.string z) ∧ Below W5.heap.size W5 w' := fun W5 => by
      have := Try.strings_Repeat ⟨#[0]⟩ (56 - x.size) W5 (by omega) (by show 1 * (56 - x.size) ≤ _; omega)
      rw [show (⟨#[0]⟩ : ByteArray).data.toList = [0] from rfl, hz] at this
      exact this
    clear hzs
    clear kc1 kc2 hd0 hd1 k10 k11 k12 k13 k20 k21
    go_wp2_with (go_at_call 24; (try rw [hrep]); refine (hR _).mono ?_; rintro e w5 ⟨rfl, hb5⟩)
    go_ret2
    refine ⟨?_, ?_⟩
    · rw [← hsdef, ← hT1, ← hT2, ← hz]; rfl
    · have hb6 : Below (B + 1) wc.drew w5 := hb5.mono (by have := hbw.size; simp; omega)
      have hb7 : Below B w W := by rw [← hW]; exact (Below.refl _ _).alloc (Nat.le_of_eq hBB.symm) _
      rw [hBB]
      exact hb7.trans (((hb.trans (hbw.drew.trans hb6))).mono (by omega))

theorem checkE_cases (x : ByteArray) : checkE x = 0 ∨ checkE x = 130 := by
  unfold checkE
  repeat' split
  all_goals first | exact .inl rfl | exact .inr rfl

set_option maxRecDepth 100000 in
set_option maxHeartbeats 4000000 in
theorem encode_low (i : Int) (x : ByteArray) (w : World) (h0 : i < 1) :
    Calls Try.prog 14 #[.agg #[.int .i64 i, .string x]] w fun e w' => e = .returned (.tuple #[.string ⟨#[]⟩, .int .i64 1]) ∧ Below w.heap.size w w' := by
  have hd : decide (i < 1) = true := decide_eq_true h0
  go_enter Try.func14, Try.ntmps14
  go_wp2
  go_ret2
  exact ⟨rfl, (Below.refl _ _).alloc (Nat.le_refl _) _⟩

set_option maxRecDepth 100000 in
set_option maxHeartbeats 4000000 in
theorem encode_high (i : Int) (x : ByteArray) (w : World) (h0 : 4096 < i) :
    Calls Try.prog 14 #[.agg #[.int .i64 i, .string x]] w fun e w' => e = .returned (.tuple #[.string ⟨#[]⟩, .int .i64 1]) ∧ Below w.heap.size w w' := by
  have hd : decide (i < 1) = false := decide_eq_false (by omega)
  have hd2 : decide (4096 < i) = true := decide_eq_true h0
  go_enter Try.func14, Try.ntmps14
  go_wp2
  go_ret2
  exact ⟨rfl, (Below.refl _ _).alloc (Nat.le_refl _) _⟩

set_option maxRecDepth 100000 in
set_option maxHeartbeats 4000000 in
theorem encode_name (i : Int) (x : ByteArray) (w : World) (h0 : 1 ≤ i) (h1 : i ≤ 4096) (hc : checkE x = 130) :
    Calls Try.prog 14 #[.agg #[.int .i64 i, .string x]] w fun e w' => e = .returned (.tuple #[.string ⟨#[]⟩, .int .i64 130]) ∧ Below w.heap.size w w' := by
  have hd : decide (i < 1) = false := decide_eq_false (by omega)
  have hd2 : decide (4096 < i) = false := decide_eq_false (by omega)
  go_enter Try.func14, Try.ntmps14
  go_wp2_with (go_at_call 7; refine (check_any _ _).mono ?_; rintro e w' ⟨rfl, hb⟩; rw [hc])
  go_ret2
  refine ⟨rfl, ?_⟩
  have h7 : Below w.heap.size w (w.alloc (Obj.cells #[Value.int IntKind.i64 i, Value.string x] 35)) := (Below.refl _ _).alloc (Nat.le_refl _) _
  exact h7.trans (hb.mono h7.size)

/-- What name.Encode answers. -/
def encA (i : Int) (x : ByteArray) : ByteArray × Int := if i < 1 then (⟨#[]⟩, 1) else if 4096 < i then (⟨#[]⟩, 1) else if checkE x = 0 then (encB i x, 0) else (⟨#[]⟩, 130)

end Go.Proofs.Ytgciocgdppaaiaa

namespace Go.Proofs.Ytgciocgdppaaiaa.P
open Go.RowKit Go.Proofs.Ytgciocgdppaaiaa

def name_Encode.f (a0_0 : Int) (a0_1 : ByteArray) : Option (ByteArray × Int) := some (encA a0_0 a0_1)
theorem name_Encode.calls (a0_0 : Int) (a0_1 : ByteArray) (r1 : ByteArray) (r2 : Int) (w : World) (h : name_Encode.f a0_0 a0_1 = some (r1, r2)) :
    Calls Try.prog 14 #[.agg #[.int .i64 a0_0, .string a0_1]] w fun e w' => e = .returned (.tuple #[.string r1, .int .i64 r2]) ∧ Below w.heap.size w w' := by
  have h' := Option.some.inj h
  unfold encA at h'
  by_cases h1 : a0_0 < 1
  · rw [if_pos h1] at h'
    cases h'
    exact encode_low a0_0 a0_1 w h1
  · rw [if_neg h1] at h'
    by_cases h2 : 4096 < a0_0
    · rw [if_pos h2] at h'
      cases h'
      exact encode_high a0_0 a0_1 w h2
    · rw [if_neg h2] at h'
      by_cases h3 : checkE a0_1 = 0
      · rw [if_pos h3] at h'
        cases h'
        exact encode_good a0_0 a0_1 w (by omega) (by omega) h3
      · rw [if_neg h3] at h'
        cases h'
        exact encode_name a0_0 a0_1 w (by omega) (by omega) ((checkE_cases a0_1).resolve_left h3)

end Go.Proofs.Ytgciocgdppaaiaa.P
