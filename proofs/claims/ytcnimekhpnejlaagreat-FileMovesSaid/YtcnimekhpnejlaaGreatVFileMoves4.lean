/- Texts of this seat joined into one: Zf. -/
import Derived.Test.YtcnimekhpnejlaaGreatVB10
import Derived.Test.YtcnimekhpnejlaaGreatVB11
import Derived.Deep.RegionHeld
import Derived.Deep.AppendLies
import Derived.WalkKit

/- Files: the function within Zero: zeros are laid. -/
namespace Go.Proofs.YtcnimekhpnejlaaGreat.Ev
open Go Go.RowKit
set_option linter.unusedVariables false
set_option linter.unusedSimpArgs false
set_option maxRecDepth 100000
set_option maxHeartbeats 4000000 in
theorem zero1_any {w : World} {y : Nat} {S : Int → Nd} (h : isD Tryz.prog (.st (.ino S)) y w) {n : Int} (hn : 1 ≤ n ∧ n ≤ 4096) (hk : (S n).kind ≠ 0) {a m : Nat} (hs : a + m ≤ (S n).bytes.length) {st : Int} (hst : 0 ≤ st ∧ st ≤ 18446744073709551615)
    {b1 b2 b3 b4 : Nat} (h1 : w.cell? ⟨b1, 0, none⟩ = some (.int .i64 n)) (h2 : w.cell? ⟨b2, 0, none⟩ = some (.int .i64 a)) (h3 : w.cell? ⟨b3, 0, none⟩ = some (.int .i64 m)) (h4 : w.cell? ⟨b4, 0, none⟩ = some (.int .u64 st))
    (o1 : ¬ ownD Tryz.prog y w b1) (o2 : ¬ ownD Tryz.prog y w b2) (o3 : ¬ ownD Tryz.prog y w b3) (o4 : ¬ ownD Tryz.prog y w b4) :
    Calls Tryz.prog 73 #[.pointer (some ⟨y, 0, none⟩), .pointer (some ⟨b1, 0, none⟩), .pointer (some ⟨b2, 0, none⟩), .pointer (some ⟨b3, 0, none⟩), .pointer (some ⟨b4, 0, none⟩)] w fun e w' => e = .returned (.int .i64 0) ∧ Keeps (updS S n (layN (S n) a (zeros m) st)) y w w' := by
  have hsz : (S n).bytes.length ≤ 1048576 := by obtain ⟨mm, L, hI⟩ := h; exact (hI.ok n).size
  obtain ⟨iu, hiu, hiu2⟩ := Option.map_eq_some_iff.1 info_u8
  have hz0 : iu.zero = some (.int .u8 0) := congrArg (·.1) hiu2
  have hz1 : iu.size = 1 := congrArg (·.2.1) hiu2
  have hz2 : iu.bytes = 1 := congrArg (·.2.2) hiu2
  have l1 : b1 < w.heap.size := World.block_lt_of_cell? _ _ h1
  have l2 : b2 < w.heap.size := World.block_lt_of_cell? _ _ h2
  have l3 : b3 < w.heap.size := World.block_lt_of_cell? _ _ h3
  have l4 : b4 < w.heap.size := World.block_lt_of_cell? _ _ h4
  have K0 : Aside (∀ w2, w.drew.grownBy w2 none → Calls Tryz.prog 36 #[.pointer (some ⟨y, 0, none⟩), .int .i64 n, .int .i64 a, .string ⟨(zeros m).toArray⟩, .int .u64 st] w2 fun e w' => e = .returned (.int .i64 0) ∧ Keeps (updS S n (layN (S n) a (zeros m) st)) y w w' ∧ w'.cell? ⟨b1, 0, none⟩ = some (.int .i64 n) ∧ w'.cell? ⟨b2, 0, none⟩ = some (.int .i64 a) ∧ w'.cell? ⟨b3, 0, none⟩ = some (.int .i64 m) ∧ w'.cell? ⟨b4, 0, none⟩ = some (.int .u64 st)) := by
    intro w2 hg
    have hb : Below w.heap.size w w2 := ⟨hg.os, hg.tape, hg.output, hg.size, fun k hk => hg.block k hk (by simp)⟩
    have hK : Keeps S y w w2 := Keeps.below ⟨h, fun _ h => .inl h, But.refl _ _⟩ hb
    refine Calls.mono (lay_any hK.is hn hk (s := ⟨(zeros m).toArray⟩) (a := a) (by rw [show (⟨(zeros m).toArray⟩ : ByteArray).size = m from by show (zeros m).toArray.size = m; rw [List.size_toArray, zeros_length]]; exact hs) hst) fun en w3 ⟨u, d, q1, ⟨q2, q3⟩, q4, q5, q6⟩ => ?_
    subst q2
    rw [q1, q3]
    have kk := hK.acts q4 q5 q6
    exact ⟨rfl, kk, (World.cell?_of_block (kk.but.block b1 l1 o1)).trans h1, (World.cell?_of_block (kk.but.block b2 l2 o2)).trans h2, (World.cell?_of_block (kk.but.block b3 l3 o3)).trans h3, (World.cell?_of_block (kk.but.block b4 l4 o4)).trans h4⟩
  clear h o1 o2 o3 o4
  go_enter Tryz.func73, Tryz.ntmps73
  go_wp2_with fail
  go_region_held (fun W2 => W2.cell? ⟨b1, 0, none⟩ = some (.int .i64 n) ∧ W2.cell? ⟨b2, 0, none⟩ = some (.int .i64 a) ∧ W2.cell? ⟨b3, 0, none⟩ = some (.int .i64 m) ∧ W2.cell? ⟨b4, 0, none⟩ = some (.int .u64 st))
    (first | (refine ⟨?_, ?_, ?_, ?_⟩ <;> assumption) | go_keep | (refine ⟨?_, ?_, ?_, ?_⟩ <;> (rw [hgrow.cell_far _ (by assumption) (by simp)]; assumption)))
    (first
      | (obtain ⟨w2, hrun, hown, hgrow⟩ := run_make_full (P := Tryz.prog) w.drew w.heap.size 93 5 iu (.int .u8 0) 1 Tryz.underlying93 hiu hz0 hz1 .i64 .i64 m (by rw [hz2]; omega) (by unfold maxLen; omega) (by simp); rw [made_zeros] at hown; have hcv : (convert 93 9 (.slice (some ⟨w.heap.size, 0, none⟩) m m)).run Tryz.prog w2 = .ok (.string ⟨(zeros m).toArray⟩) w2 := conv_own hown; rw [hrun]; go_simp)
      | (go_at_call 36; refine Calls.mono (K0.out _ (by assumption)) ?_; rintro e w3 ⟨rfl, hK3, c1, c2, c3, c4⟩))
  all_goals go_wp2
  go_ret
  exact ⟨rfl, by assumption⟩
end Go.Proofs.YtcnimekhpnejlaaGreat.Ev
