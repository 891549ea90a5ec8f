/- The contract of path.Within in the printed form. -/
import Derived.Test.YtckpnmghbjimiaaDoorPxSlicesEqualStringString
namespace Go.Proofs.YtckpnmghbjimiaaDoor.P
open Go.RowKit Go.Proofs.YtckpnmghbjimiaaDoorW.PrintWords Go.Proofs.YtckpnmghbjimiaaDoorW.PrintLast Go.Proofs.YtckpnmghbjimiaaDoorW.PrintMore

def path_Within.f (k : Nat) (l0_0 : List ByteArray) (_a0_1 : Bool) (l1_0 : List ByteArray) (_a1_1 : Bool) : Option Bool :=
  if l1_0.length ≤ l0_0.length then slices_Equal_string_string.f k (l0_0.take l1_0.length) l1_0 else some false
theorem path_Within.mono : ∀ a0 a1 a2 a3 k, LeO (path_Within.f k a0 a1 a2 a3) (path_Within.f (k + 1) a0 a1 a2 a3) := by
  intro a0 a1 a2 a3 k
  unfold path_Within.f
  exact LeO.ite (slices_Equal_string_string.mono _ _ _) (LeO.refl _)

theorem C_take {w : World} {A : Option Addr} {l : List ByteArray} (h : Kd.C Kd.string w A l.length l) (n : Nat) (hn : n ≤ l.length) : Kd.C Kd.string w A (l.take n).length (l.take n) := by
  obtain ⟨h1, h2, h3⟩ := h
  have hl : (l.take n).length = n := by simp; omega
  refine ⟨rfl, by omega, fun hp => ?_⟩
  obtain ⟨ad, ha, hc⟩ := h3 (by omega)
  refine ⟨ad, ha, fun j p hj => hc j p ?_⟩
  have := (List.getElem?_eq_some_iff.1 hj).1
  rw [List.getElem?_take_of_lt (by omega)] at hj
  exact hj

theorem equal_quiet (k : Nat) (A0 : Option Addr) (n0 c0 : Nat) (l0 : List ByteArray) (A1 : Option Addr) (c1 : Nat) (l1 : List ByteArray) (r : Bool) (w : World) (hn : n0 = l0.length) (hr0 : Kd.C Kd.string w A0 l0.length l0) (hc0 : l0.length ≤ c0) (hr1 : Kd.C Kd.string w A1 l1.length l1) (hc1 : l1.length ≤ c1) (h : slices_Equal_string_string.f k l0 l1 = some r) :
    Calls Tryd.prog 37 #[.slice A0 n0 c0, .slice A1 l1.length c1] w fun e w' => e = .returned (.bool r) ∧ ∃ m, w' = w.drewN m := by
  subst hn
  exact (slices_Equal_string_string.calls k A0 c0 l0 A1 c1 l1 r w hr0 hc0 hr1 hc1 h).mono fun e w' ⟨he, hd⟩ => ⟨he, hd.out⟩

set_option maxHeartbeats 8000000 in
set_option maxRecDepth 100000 in
theorem path_Within.calls (k : Nat) (A0_0 : Option Addr) (c0_0 : Nat) (l0_0 : List ByteArray) (a0_1 : Bool) (A1_0 : Option Addr) (c1_0 : Nat) (l1_0 : List ByteArray) (a1_1 : Bool) (r : Bool) (w : World) (hr0_0 : Kd.C Kd.string w A0_0 l0_0.length l0_0) (hc0_0 : l0_0.length ≤ c0_0) (hr1_0 : Kd.C Kd.string w A1_0 l1_0.length l1_0) (hc1_0 : l1_0.length ≤ c1_0) (h : path_Within.f k l0_0 a0_1 l1_0 a1_1 = some r) :
    Calls Tryd.prog 14 #[.agg #[.slice A0_0 l0_0.length c0_0, .bool a0_1], .agg #[.slice A1_0 l1_0.length c1_0, .bool a1_1]] w fun e w' => e = .returned (.bool r) ∧ Below w.heap.size w w' := by
  have hu24 := Tryd.underlying24
  have hlb := hr0_0.2.1
  have hla := hr1_0.2.1
  unfold path_Within.f at h
  by_cases hl : l1_0.length ≤ l0_0.length
  · rw [if_pos hl] at h
    have b1 : decide ((l1_0.length : Int) ≤ (l0_0.length : Int)) = true := decide_eq_true (by omega)
    have b2 : decide (l1_0.length ≤ l0_0.length) = true := decide_eq_true hl
    have b3 : (l1_0.length : Int) ≤ (c0_0 : Int) := by omega
    have b4 : (0 : Int) ≤ (l1_0.length : Int) := by omega
    have H := Aside0.mk h
    have H0 := Aside0.mk hr0_0
    have H1 := Aside0.mk hr1_0
    have D0 := Aside0.mk hc0_0
    have D1 := Aside0.mk hc1_0
    have HL := Aside0.mk hl
    clear h hr0_0 hr1_0
    go_enter Tryd.func14, Tryd.ntmps14
    go_wp2
    go_quiet (first | (go_at_call 37; exact Calls.quiet_of (equal_quiet k A0_0 l1_0.length c0_0 (l0_0.take l1_0.length) A1_0 c1_0 l1_0 r _ (by have := HL.out; rw [List.length_take]; omega) (C_take (Kd.C_drewN (Kd.C_alloc (Kd.C_alloc H0.out _) _) _) _ HL.out) (by have := HL.out; have := D0.out; rw [List.length_take]; omega) (Kd.C_drewN (Kd.C_alloc (Kd.C_alloc H1.out _) _) _) D1.out H.out)))
    go_wp2
    go_ret
    exact ⟨rfl, by repeat (first | exact Below.refl _ _ | apply below_alloc | apply pw_below_drewN | apply below_drew1)⟩
  · rw [if_neg hl] at h
    obtain rfl := Option.some.inj h
    have b1 : decide ((l1_0.length : Int) ≤ (l0_0.length : Int)) = false := decide_eq_false (by omega)
    have b2 : decide (l1_0.length ≤ l0_0.length) = false := decide_eq_false hl
    clear h
    go_enter Tryd.func14, Tryd.ntmps14
    go_wp2
    go_quiet (fail)
    go_wp2
    go_ret
    exact ⟨rfl, by repeat (first | exact Below.refl _ _ | apply below_alloc | apply pw_below_drewN | apply below_drew1)⟩

end Go.Proofs.YtckpnmghbjimiaaDoor.P
