/- path.Parse: every text. -/
import Derived.Test.YtckpnmghbjimiaaDoorC3
namespace Go.Proofs.YtckpnmghbjimiaaDoor
open Go.RowKit Go.Shelf

set_option maxRecDepth 100000 in
set_option maxHeartbeats 4000000 in
theorem parse_long (s : ByteArray) (w : World) (h : 1024 < s.size) : Calls Tryd.prog 17 #[.string s] w (parsePost w ([], false, 1024, 181)) := by
  have hd : decide ((1024 : Int) < (s.size : Int)) = true := decide_eq_true (by omega)
  go_enter Tryd.func17, Tryd.ntmps17
  go_wp2
  refine bodyPost_ret (v := .tuple #[.agg #[.slice none 0 0, .bool false], .int .i64 1024, .int .i64 181]) (by simp [results, Tryd.results17, go_sem]) rfl ⟨_, rfl, World.ownsRow_nil _ _ _ _, ?_⟩
  exact (((Below.refl _ _).alloc (Nat.le_refl _) _).alloc (by simp) _).alloc (by simp; omega) _

set_option maxRecDepth 100000 in
set_option maxHeartbeats 4000000 in
theorem parse_empty (s : ByteArray) (w : World) (h : s.size ≤ 1024) (h0 : s.toList.isEmpty = true) : Calls Tryd.prog 17 #[.string s] w (parsePost w ([], false, 0, 180)) := by
  have hd : decide ((1024 : Int) < (s.size : Int)) = false := decide_eq_false (by omega)
  go_enter Tryd.func17, Tryd.ntmps17
  go_wp2
  refine bodyPost_ret (v := .tuple #[.agg #[.slice none 0 0, .bool false], .int .i64 0, .int .i64 180]) (by simp [results, Tryd.results17, go_sem]) rfl ⟨_, rfl, World.ownsRow_nil _ _ _ _, ?_⟩
  exact (((Below.refl _ _).alloc (Nat.le_refl _) _).alloc (by simp) _).alloc (by simp; omega) _

set_option maxRecDepth 100000 in
set_option maxHeartbeats 4000000 in
theorem parse_other (s : ByteArray) (w : World) (h : s.size ≤ 1024) (h0 : s.toList.isEmpty = false) (hp : 0 < s.size) (h47 : (((s[0]'hp).toNat : Int) != 47) = true) : Calls Tryd.prog 17 #[.string s] w (parsePost w ([], false, 0, 180)) := by
  have hd : decide ((1024 : Int) < (s.size : Int)) = false := decide_eq_false (by omega)
  go_enter Tryd.func17, Tryd.ntmps17
  go_wp2
  refine bodyPost_ret (v := .tuple #[.agg #[.slice none 0 0, .bool false], .int .i64 0, .int .i64 180]) (by simp [results, Tryd.results17, go_sem]) rfl ⟨_, rfl, World.ownsRow_nil _ _ _ _, ?_⟩
  exact (((Below.refl _ _).alloc (Nat.le_refl _) _).alloc (by simp) _).alloc (by simp; omega) _

/-- What path.Parse answers. -/
def parseA (s : ByteArray) : List ByteArray × Bool × Int × Int :=
  if 1024 < s.size then ([], false, 1024, 181) else if s.data.toList.head? = some 47 then parseR s else ([], false, 0, 180)

theorem parse_any (s : ByteArray) (w : World) : Calls Tryd.prog 17 #[.string s] w (parsePost w (parseA s)) := by
  unfold parseA
  by_cases h : 1024 < s.size
  · rw [if_pos h]; exact parse_long s w h
  · rw [if_neg h]
    cases he : s.data.toList with
    | nil =>
      rw [if_neg (by simp)]
      exact parse_empty s w (by omega) (by rw [Lib.toList_data, he]; rfl)
    | cons c l =>
      have hp : 0 < s.size := by rw [Lib.size_eq, he]; simp
      have hc : s[0]'hp = c := by
        have := Lib.data_getElem? s 0 hp
        rw [he] at this
        simpa using this.symm
      have h0 : s.toList.isEmpty = false := by rw [Lib.toList_data, he]; rfl
      by_cases hc47 : c = 47
      · subst hc47
        rw [if_pos (by simp)]
        exact parse_good s w (by omega) h0 hp (by rw [hc]; rfl)
      · rw [if_neg (by simpa using hc47)]
        refine parse_other s w (by omega) h0 hp ?_
        rw [hc, bne_iff_ne]
        intro e
        exact hc47 (UInt8.toNat_inj.1 (by simpa using Int.ofNat.inj e))

end Go.Proofs.YtckpnmghbjimiaaDoor
