/- word.Bytes32 and word.Bytes16: a number's bytes, the lowest first. -/
import Derived.Test.YtgciocgdppaaiaaDoorProg
import Derived.WalkKit
import Derived.Deep.LoopGhost
import Derived.Deep.QuietTactic
import Derived.BigQuiet
import Derived.Below
import Derived.Test.YtgciocgdppaaiaaDoorWWords

namespace Go.Proofs.YtgciocgdppaaiaaDoor
open Go.RowKit

set_option maxRecDepth 100000 in
set_option maxHeartbeats 4000000 in
theorem bytes16_any (n : Int) (w : World) (h0 : 0 ≤ n) (h1 : n < 65536) :
    Calls Tryd.prog 35 #[.int .u16 n] w fun e w' => e = .returned (.agg #[.int .u8 (n % 256), .int .u8 (n / 256)]) ∧ w' = (w.alloc (.cells #[.int .u8 (n % 256), .int .u8 (n / 256)] 67)).alloc (.cells #[.int .u8 (n % 256), .int .u8 (n / 256)] 67) := by
  go_enter Tryd.func35, Tryd.ntmps35
  go_wp2
  refine wp_loop_rounds 3 ?_
  rw [rounds_succ]
  go_wp2
  rw [rounds_succ]
  go_wp2
  rw [rounds_succ]
  go_wp2
  go_end0
  go_wp2
  refine bodyPost_ret (v := .agg #[.int .u8 (n % 256), .int .u8 (n / 256)]) (by simp [results, Tryd.results35, go_sem]) rfl ⟨rfl, rfl⟩

set_option maxRecDepth 100000 in
set_option maxHeartbeats 4000000 in
theorem bytes32_any (n : Int) (w : World) (h0 : 0 ≤ n) (h1 : n < 4294967296) :
    Calls Tryd.prog 34 #[.int .u32 n] w fun e w' => e = .returned (.agg #[.int .u8 (n % 256), .int .u8 (n / 256 % 256), .int .u8 (n / 65536 % 256), .int .u8 (n / 16777216)]) ∧ w' = (w.alloc (.cells #[.int .u8 (n % 256), .int .u8 (n / 256 % 256), .int .u8 (n / 65536 % 256), .int .u8 (n / 16777216)] 64)).alloc (.cells #[.int .u8 (n % 256), .int .u8 (n / 256 % 256), .int .u8 (n / 65536 % 256), .int .u8 (n / 16777216)] 64) := by
  go_enter Tryd.func34, Tryd.ntmps34
  go_wp2
  refine wp_loop_rounds 5 ?_
  rw [rounds_succ]
  go_wp2
  rw [rounds_succ]
  go_wp2
  rw [rounds_succ]
  go_wp2
  rw [rounds_succ]
  go_wp2
  rw [rounds_succ]
  go_wp2
  go_end0
  go_wp2
  refine bodyPost_ret (v := .agg #[.int .u8 (n % 256), .int .u8 (n / 256 % 256), .int .u8 (n / 65536 % 256), .int .u8 (n / 16777216)]) (by simp [results, Tryd.results34, go_sem]) rfl ⟨rfl, rfl⟩

end Go.Proofs.YtgciocgdppaaiaaDoor
