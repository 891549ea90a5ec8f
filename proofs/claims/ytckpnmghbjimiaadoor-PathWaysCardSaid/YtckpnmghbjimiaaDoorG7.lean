/- The contract of slices.Repeat over one string, at most 32 times. -/
import Derived.Test.YtckpnmghbjimiaaDoorG3
import Derived.Test.YtckpnmghbjimiaaDoorPxBitsMul
import Derived.Laws.CopyOwn
import Derived.OwnWalk
import Derived.Laws.OwnMore
import Derived.Test.YtckpnmghbjimiaaDoorPx0
import Derived.Outline
namespace Go.Proofs.YtckpnmghbjimiaaDoor.P
open Go.RowKit Go.Proofs.YtckpnmghbjimiaaDoor Go.Proofs.YtckpnmghbjimiaaDoorW.PrintWords

def slices_Repeat_string_string.f (l0 : List ByteArray) (n : Int) : Option (List ByteArray) :=
  match l0 with
  | [x] => if 0 ≤ n ∧ n ≤ 32 then some (List.replicate n.toNat x) else none
  | _ => none

theorem i64_wrap (x : Int) : IntKind.i64.wrap x = wrap64 x := by first | rfl | exact Go.Proofs.YtckpnmghbjimiaaDoorW.PrintLast.i64_w x

theorem mul_small : ∀ m : Nat, m < 33 → bits_Mul.f 1 (m : Int) = some (0, (m : Int)) := by decide +kernel

theorem step_norm {P : Program} {ops : Array Oper} {o : Oper} {a a' : Act} {w : World} {K : Act → World → Prop} {Q : Exit → Act → World → Prop} (h : a = a')
    (hh : if Region.wanted o (yielded ops a'.tmps) = true then Oper.wp P o a' w K Q else K (a'.put o.dst undef) w) :
    if Region.wanted o (yielded ops a.tmps) = true then Oper.wp P o a w K Q else K (a.put o.dst undef) w := by subst h; exact hh

abbrev S (x : ByteArray) : Value := .string x
abbrev Z : Value := .string ⟨#[]⟩

/-- A row that was just made, whole. -/
theorem made_heap {w : World} {base g m : Nat} (h : w.ownsRow base 9 1 (.slice (some ⟨g, 0, none⟩) m m) m (madeCells Z.cells (m * 1)).toList) : w.heap[g]? = some (.cells (List.replicate m Z).toArray 9 (0, 0)) := by
  obtain ⟨_, h2⟩ := h
  rcases h2 with ⟨hv, _⟩ | ⟨g', cap, cur, hv, _, hh, _, _, hs, ht⟩
  · injection hv with e1 e2 e3; cases e1
  · injection hv with e1 e2 e3
    injection e1 with e1
    injection e1 with e4 e5 e6
    subst e4
    subst e3
    have hc : cur.toList = List.replicate m Z := by
      rw [← List.take_length (l := cur.toList), Array.length_toList, hs, ht, Nat.mul_one]
      exact toList_madeCells_one _ _
    rw [hh, ← hc]

set_option maxRecDepth 100000 in
set_option maxHeartbeats 4000000 in
theorem repeat_walk (b o c0 : Nat) (x : ByteArray) (m : Nat) (hm : m ≤ 32) (w : World) (hc : w.cell? ⟨b, o, none⟩ = some (.string x)) (hb : b < w.heap.size) :
    Calls Tryd.prog 45 #[.slice (some ⟨b, o, none⟩) 1 c0, .int .i64 (m : Int)] w fun e w' => ∃ v0_ : Value, e = .returned v0_ ∧ w'.ownsRow w.heap.size 9 1 v0_ m (List.replicate m (.string x)) ∧ Below w.heap.size w w' := by
  have hmul := mul_small m (by omega)
  have d1 : decide ((m : Int) < 0) = false := decide_eq_false (by omega)
  have d2 : decide ((m : Int) > 9223372036854775807) = false := decide_eq_false (by omega)
  obtain ⟨i0, hi, hz0, hz1, hz2⟩ := info_parts info9
  have hsz : (Tryd.prog.info? 9).map (·.size) = some 1 := by rw [hi]; simp [hz1]
  obtain ⟨m1, hm1⟩ : ∃ m1, m1 = min 1 m := ⟨_, rfl⟩
  obtain ⟨C1, hC1⟩ : ∃ C1 : List Value, C1 = List.replicate m1 (.string x) := ⟨_, rfl⟩
  have hn1 : C1.length = Nat.min 1 m := by rw [hC1, List.length_replicate, hm1]
  have hsrc1 : ∀ w2, Below w.heap.size w w2 → ∀ j v, C1[j]? = some v → w2.cell? (Addr.add ⟨b, o, none⟩ j) = some v := by
    intro w2 hB j v hj
    have hj1 : j < m1 ∧ v = .string x := by
      rw [hC1, List.getElem?_replicate] at hj
      split at hj
      · exact ⟨by assumption, (Option.some.inj hj).symm⟩
      · cases hj
    obtain ⟨hj1, rfl⟩ := hj1
    obtain rfl : j = 0 := by omega
    show w2.cell? ⟨b, o, none⟩ = _
    rw [hB.cell hb, hc]
  have hfit1 : 0 + C1.length ≤ (List.replicate m Z).length := by rw [hC1, List.length_replicate, List.length_replicate, hm1]; omega
  have hone1 : ∀ v ∈ C1, v.oneCell' = true := by
    intro v hv
    rw [hC1] at hv
    rw [(List.mem_replicate.1 hv).2]
    rfl
  go_enter Tryd.func45, Tryd.ntmps45
  go_wp2_with (first
    | (go_at_call 58; refine (bits_Mul.calls 1 (m : Int) 0 (m : Int) _ hmul).mono ?_; rintro e w1 ⟨rfl, hd⟩; have hB1 : Below w.heap.size w w1 := (Drawn0.out hd).elim fun n h => by rw [h]; exact pw_below_drewN (Below.refl _ _) n)
    | (at_make; refine wpList_make_full _ rfl _ _ 22 rfl w.heap.size 9 i0 Z 1 Tryd.underlying22 hi hz0 hz1 .i64 .i64 _ _ m rfl rfl rfl rfl (by rw [hz2]; omega) (by unfold maxLen; omega) hB1.size ?_; intro w2 hown hgrow; have hB2 : Below w.heap.size w w2 := hB1.grown hgrow hB1.size (fun k hk => by cases hk); have hh2 := made_heap hown; obtain ⟨gg, hgg⟩ : ∃ gg, gg = w1.heap.size := ⟨_, rfl⟩; have hgB : w.heap.size ≤ gg := by rw [hgg]; exact hB1.size)
    | (refine wpList_copy_splice rfl (.tmp 31) (.tmp 32) 22 22 rfl 9 Tryd.underlying22 hsz _ _ _ _ _ _ rfl rfl w1.heap.size 0 (List.replicate m Z) 9 hh2 C1 hn1 (fun _ => ⟨rfl, _, rfl, hsrc1 w2 hB2⟩) hfit1 hone1 w.heap.size w hB2 hB1.size ?_; intro w3 hh3 hB3)
    )
  clear hown hgrow hmul hd
  go_loopg [8] m (fun g v8 w' => ∃ i : Nat, v8 = .int .i64 (i : Int) ∧ i ≤ m ∧ (0 < m → 1 ≤ i) ∧ m ≤ i + g ∧ Hid (w'.heap[w1.heap.size]? = some (.cells (List.replicate i (Value.string x) ++ List.replicate (m - i) Z).toArray 9 (0, 0))) ∧ Aside0 (Below w.heap.size w w'))
  case atStart =>
    refine ⟨m1, ?_, by omega, by omega, by omega, ?_, ⟨hB3⟩⟩
    · rw [hm1]
    · have e : splice (List.replicate m Z) 0 C1 = List.replicate m1 (Value.string x) ++ List.replicate (m - m1) Z := by
        rw [hC1]
        simp [splice]
      rw [e] at hh3
      exact hh3
  case round =>
    obtain ⟨i, rfl, him, hi1, hig, hh, hB⟩ := hrel
    by_cases hlt : i < m
    · obtain ⟨g', rfl⟩ : ∃ g', gk = g' + 1 := ⟨gk - 1, by omega⟩
      have d3 : decide ((i : Int) < (m : Int)) = true := decide_eq_true (by omega)
      have d4 : decide ((0 : Int) ≤ (i : Int)) = true := decide_eq_true (by omega)
      have d5 : decide ((i : Int) ≤ (m : Int)) = true := decide_eq_true (by omega)
      have d6 : (i == m) = false := by rw [beq_eq_false_iff_ne]; omega
      have d7 : ((i : Int) == (m : Int)) = false := by rw [beq_eq_false_iff_ne]; omega
      have d8 : decide (i < m) = true := decide_eq_true hlt
      obtain ⟨k2, hk2⟩ : ∃ k2, k2 = min i (m - i) := ⟨_, rfl⟩
      obtain ⟨C2, hC2⟩ : ∃ C2 : List Value, C2 = List.replicate k2 (Value.string x) := ⟨_, rfl⟩
      have hl2 : C2.length = k2 := by rw [hC2, List.length_replicate]
      have hone2 : ∀ v ∈ C2, v.oneCell' = true := by
        intro v hv
        rw [hC2] at hv
        rw [(List.mem_replicate.1 hv).2]
        rfl
      have hsrc2 : ∀ j v, C2[j]? = some v → wr.drew.cell? (Addr.add ⟨w1.heap.size, 0, none⟩ j) = some v := by
        intro j v hj
        have hj1 : j < k2 ∧ v = .string x := by
          rw [hC2, List.getElem?_replicate] at hj
          split at hj
          · exact ⟨by assumption, (Option.some.inj hj).symm⟩
          · cases hj
        obtain ⟨hj1, rfl⟩ := hj1
        have e : Addr.add ⟨w1.heap.size, 0, none⟩ j = ⟨w1.heap.size, j, none⟩ := by
          rw [Addr.add]
          split
          · next e => subst e; rfl
          · simp
        rw [e, World.cell?, show wr.drew.heap[w1.heap.size]? = _ from hh.out]
        simp only [Option.isSome_none, Bool.false_eq_true, if_false]
        rw [List.getElem?_toArray, List.getElem?_append_left (by rw [List.length_replicate]; omega), List.getElem?_replicate, if_pos (by omega)]
      go_wp2
      have d9 : ¬ m = i := by omega
      go_region_law (refine step_norm (a' := ?a1) ?h1 ?h2; (case h1 => first | (go_simp; done) | (go_simp; rfl)); refine step_copy_splice rfl (.tmp 41) (.tmp 44) 22 22 rfl 9 Tryd.underlying22 hsz _ _ _ _ _ _ rfl rfl w1.heap.size i (List.replicate i (Value.string x) ++ List.replicate (m - i) Z) 9 hh.out C2 (by rw [hl2, hk2]) (fun _ => ⟨rfl, _, rfl, hsrc2⟩) (by rw [hl2, List.length_append, List.length_replicate, List.length_replicate]; omega) hone2 w.heap.size w (below_drew1 hB.out) hB1.size ?_; intro w4 hh4 hB4)
      go_wp2
      go_roundg g'
      case measure => omega
      case rel =>
        refine ⟨i + k2, ?_, by omega, by omega, by omega, ?_, ⟨hB4⟩⟩
        · rw [← hk2, show IntKind.i64.wrap ((i : Int) + (k2 : Int)) = wrap64 ((i : Int) + (k2 : Int)) from i64_wrap _]
          congr 1
          unfold wrap64
          push_cast
          omega
        · have e : splice (List.replicate i (Value.string x) ++ List.replicate (m - i) Z) i C2 = List.replicate (i + k2) (Value.string x) ++ List.replicate (m - (i + k2)) Z := by
            rw [splice, hl2, hC2]
            rw [List.take_left' (by simp), List.drop_append, List.drop_of_length_le (by simp), List.length_replicate, List.nil_append, List.drop_replicate, ← List.append_assoc, List.replicate_append_replicate]
            congr 2
            omega
          rw [e] at hh4
          exact hh4
    · obtain rfl : i = m := by omega
      have d3 : decide ((i : Int) < (i : Int)) = false := decide_eq_false (by omega)
      go_wp2
      refine bodyPost_ret (v := .slice (some ⟨w1.heap.size, 0, none⟩) i i) (by simp [results, Tryd.results45, go_sem]) rfl ⟨_, rfl, ⟨by simp, .inr ⟨_, _, _, rfl, hB1.size, hh.out, Nat.le_refl _, by unfold maxLen; omega, by simp, by simp⟩⟩, hB.out⟩

theorem slices_Repeat_string_string.calls (A0 : Option Addr) (c0 : Nat) (l0 : List ByteArray) (n : Int) (r : List ByteArray) (w : World) (hr0 : Kd.C Kd.string w A0 l0.length l0) (_hc0 : l0.length ≤ c0) (h : slices_Repeat_string_string.f l0 n = some r) :
    Calls Tryd.prog 45 #[.slice A0 l0.length c0, .int .i64 n] w fun e w' => ∃ v0_ : Value, e = .returned v0_ ∧ Kd.R Kd.string 9 w' w.heap.size (fun _ => True) v0_ r ∧ Below w.heap.size w w' := by
  unfold slices_Repeat_string_string.f at h
  match l0, h, hr0 with
  | [], h, _ => cases h
  | _ :: _ :: _, h, _ => cases h
  | [x], h, hr0 =>
    simp only at h
    by_cases hn : 0 ≤ n ∧ n ≤ 32
    · rw [if_pos hn] at h
      obtain rfl := Option.some.inj h
      obtain ⟨b, o, rfl, hb, hc⟩ := C_cells hr0 (by simp)
      obtain ⟨m, rfl⟩ : ∃ m : Nat, n = (m : Int) := ⟨n.toNat, by omega⟩
      refine (repeat_walk b o c0 x m (by omega) w (hc 0 x rfl) hb).mono fun e w' hp => ?_
      obtain ⟨v, he, ho, hB⟩ := hp
      refine ⟨v, he, Kd.R_of_own ?_ (fun _ _ => trivial), hB⟩
      have e1 : encs Value.string (List.replicate ((m : Int)).toNat x) = List.replicate m (.string x) := by simp [encs]
      rw [e1]
      simpa using ho
    · rw [if_neg hn] at h
      cases h

end Go.Proofs.YtckpnmghbjimiaaDoor.P
