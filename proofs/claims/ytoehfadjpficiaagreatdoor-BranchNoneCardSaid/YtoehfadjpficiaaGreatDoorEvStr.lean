/- Calls of the library whose outcome is told: strings.ContainsAny and strings.Repeat at known texts; maps.Clone. -/
import Derived.Test.YtoehfadjpficiaaGreatDoorEvPlain
import Derived.Test.YtoehfadjpficiaaGreatDoorShelf
namespace Go.Proofs.YtoehfadjpficiaaGreatDoor.Ev
open Go Go.RowKit
set_option linter.unusedVariables false
def asciiB (s : ByteArray) : Bool := (s.data.toList.all fun b => decide (b.toNat < 128)) && decide (s.size < 100000)
theorem asciiB_of {s : ByteArray} (h : asciiB s = true) : s.size < 4294967281 ∧ ∀ (j : Nat) b, s.data.toList[j]? = some b → b.toNat < 128 := by
  simp only [asciiB, Bool.and_eq_true, List.all_eq_true, decide_eq_true_eq] at h
  exact ⟨by omega, fun j b hb => h.1 b (List.mem_of_getElem? hb)⟩
def fContains : List EV → Option SV
  | [.a (.s (.str s)), .a (.s (.str t))] => if (asciiB s && asciiB t) = true then some (.bool (Lib.containsAny s.data.toList t.data.toList)) else none
  | _ => none
theorem fContains_ok : PlainOk 103 fContains := by
  intro args r he E vs hargs w
  unfold fContains at he
  split at he
  · split at he
    · rename_i s t hb
      obtain rfl := Option.some.inj he
      rw [Bool.and_eq_true] at hb
      obtain ⟨s1, s2⟩ := asciiB_of hb.1
      obtain ⟨t1, t2⟩ := asciiB_of hb.2
      match vs, hargs with
      | [v, u], hargs =>
        obtain rfl := hargs.1
        obtain rfl := hargs.2.1
        exact (Tryz.strings_ContainsAny_laid s t w s1 t1 s2 t2).mono fun e w' ⟨h1, h2⟩ => ⟨_, h1, rfl, h2⟩
      | [], hargs => exact hargs.elim
      | [_], hargs => exact hargs.2.elim
      | _ :: _ :: _ :: _, hargs => exact hargs.2.2.elim
    · cases he
  · cases he
def fRepeat : List EV → Option SV
  | [.a (.s (.str s)), .a (.s (.int .i64 n))] => if 0 ≤ n ∧ n ≤ 1000 ∧ s.size ≤ 1000 then some (.str ⟨(Lib.repeatL s.data.toList n.toNat).toArray⟩) else none
  | _ => none
theorem fRepeat_ok : PlainOk 66 fRepeat := by
  intro args r he E vs hargs w
  unfold fRepeat at he
  split at he
  · split at he
    · rename_i s n hb
      obtain rfl := Option.some.inj he
      match vs, hargs with
      | [v, u], hargs =>
        obtain rfl := hargs.1
        obtain rfl := hargs.2.1
        obtain ⟨c, rfl⟩ : ∃ c : Nat, n = (c : Int) := ⟨n.toNat, by omega⟩
        rw [Int.toNat_natCast]
        have hle : s.size * c ≤ 1000 * 1000 := Nat.mul_le_mul hb.2.2 (by omega)
        exact (Tryz.strings_Repeat s c w (by omega) (by omega)).mono fun e w' ⟨h1, h2⟩ => ⟨_, h1, rfl, h2⟩
      | [], hargs => exact hargs.elim
      | [_], hargs => exact hargs.2.elim
      | _ :: _ :: _ :: _, hargs => exact hargs.2.2.elim
    · cases he
  · cases he
def fTrim : List EV → Option SV
  | [.a (.s (.str s)), .a (.s (.str t))] =>
    match t.data.toList with
    | [c] => if c.toNat < 128 ∧ s.size ≤ 100000 then some (.str ⟨(Lib.trimB s.data.toList c).toArray⟩) else none
    | _ => none
  | _ => none
theorem fTrim_ok : PlainOk 143 fTrim := by
  intro args r he E vs hargs w
  unfold fTrim at he
  split at he
  · rename_i s t
    split at he
    · rename_i c hc
      split at he
      · rename_i hb
        obtain rfl := Option.some.inj he
        have ht : t = ⟨#[c]⟩ := by
          cases t with
          | mk d =>
            congr 1
            exact Array.toList_inj.1 hc
        match vs, hargs with
        | [v, u], hargs =>
          obtain rfl := hargs.1
          obtain rfl := hargs.2.1
          subst ht
          refine (Tryz.strings_Trim_one s c hb.1 w (by omega)).mono fun e w' ⟨h1, h2⟩ => ⟨_, h1, rfl, ?_⟩
          rcases h2 with rfl | rfl
          · exact Below.refl _ _
          · exact ⟨rfl, rfl, rfl, Nat.le_refl _, fun _ _ => rfl⟩
        | [], hargs => exact hargs.elim
        | [_], hargs => exact hargs.2.elim
        | _ :: _ :: _ :: _, hargs => exact hargs.2.2.elim
      · cases he
    · cases he
  · cases he
end Go.Proofs.YtoehfadjpficiaaGreatDoor.Ev
