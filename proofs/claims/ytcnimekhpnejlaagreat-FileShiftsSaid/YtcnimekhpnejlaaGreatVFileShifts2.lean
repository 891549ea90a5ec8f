/- Texts of this seat joined into one: ShT, Shf, Fi, Sh1. -/
import Derived.Test.YtcnimekhpnejlaaGreatVB11
import Derived.Shelf.Small.Bits
import Derived.Shelf.Strconv.Itoa0
import Derived.Shelf.Strings.Search1
import Derived.Shelf.Strings.Search2
import Derived.Shelf.Strings.Search3
import Derived.Shelf.LaysM
import Derived.Shelf.Strings.Shaped
import Derived.Test.YtcnimekhpnejlaaGreatProg
import Derived.Test.YtcnimekhpnejlaaGreatVFileShifts0

/- What calls come to, on all their ways (written by wip/tools/tabs.py). -/
namespace Go.Proofs.YtcnimekhpnejlaaGreat.Ev
open Go
def shfX0 : X := .app 65 (.cons (.va 0) (.cons (.li 2) (.cons (.li 0) (.cons (.va 2) (.li 1)))))
def shfX1 : X := .bin .add .i64 (.len (.va 2)) (.li 1)
def shfX2 : X := .app 66 (.cons shfX0 (.cons (.li 2) (.cons (.li 0) shfX1)))
def shfX3 : X := .app 66 (.cons shfX0 (.cons (.li 2) (.cons (.li 0) (.len (.va 3)))))
def shfX4 : X := .bin .sub .i64 (.app 52 (.cons shfX0 (.li 2))) (.li 0)
def shfX5 : X := .bin .sub .i64 (.li 1048576) (.app 52 (.cons shfX0 (.li 2)))
def shfX6 : X := .app 61 (.cons shfX0 (.cons (.li 2) (.cons (.va 1) (.app 52 (.cons shfX0 (.li 2))))))
def shfX7 : X := .app 65 (.cons shfX0 (.cons (.li 2) (.cons (.va 1) (.cons (.cat (.va 3) shfX6) (.li 2)))))
def shfX8 : X := .bin .sub .i64 (.app 52 (.cons shfX7 (.li 2))) (.va 1)
def shfX9 : X := .bin .sub .i64 (.app 52 (.cons shfX7 (.li 2))) (.mn (.len (.va 3)) shfX8)
def shfX10 : X := .app 56 (.cons shfX7 (.cons (.li 2) (.cons shfX9 (.li 3))))
def shfX11 : X := .bin .add .i64 (.va 1) (.mn (.len (.va 3)) shfX8)
def shfX12 : X := .app 61 (.cons shfX7 (.cons (.li 2) (.cons shfX11 (.app 52 (.cons shfX7 (.li 2))))))
def shfX13 : X := .app 60 (.cons shfX10 (.cons (.li 2) (.cons (.va 1) (.cons shfX12 (.li 3)))))
def shfX14 : X := .app 61 (.cons shfX7 (.cons (.li 2) (.cons (.li 0) (.app 52 (.cons shfX7 (.li 2))))))
def shfX15 : X := .bin .add .i64 (.li 0) (.app 70 (.cons shfX14 (.va 3)))
def shfP0 : List (X × Bool) := [((.lt (.li 20000) (.len (.va 2))), true)]
def shfR0 : EV × List (Option BV) := ((.a (.s (.bool true))), [some (.abs (.va 9))])
def shfP1 : List (X × Bool) := [((.lt (.li 20000) (.len (.va 3))), true), ((.lt (.li 20000) (.len (.va 2))), false)]
def shfR1 : EV × List (Option BV) := ((.a (.s (.bool true))), [some (.abs (.va 9))])
def shfP2 : List (X × Bool) := [((.lt (.va 1) (.li 0)), true), ((.eq (.app 50 (.cons shfX0 (.li 2))) (.li 2)), false), ((.eq (.app 50 (.cons shfX0 (.li 2))) (.li 0)), false), ((.app 57 shfX0), true), ((.app 64 (.cons (.li 0) (.va 2))), true), ((.app 68 (.cons (.va 0) (.li 2))), true), ((.lt (.li 20000) (.len (.va 3))), false), ((.lt (.li 20000) (.len (.va 2))), false)]
def shfR2 : EV × List (Option BV) := ((.a (.s (.xb (.eq (.app 52 (.cons shfX0 (.li 2))) (.len (.va 2)))))), [some (.abs (.va 9))])
def shfP3 : List (X × Bool) := [((.lt (.len (.va 2)) (.va 1)), true), ((.lt (.app 52 (.cons shfX0 (.li 2))) (.va 1)), true), ((.lt (.va 1) (.li 0)), false), ((.eq (.app 50 (.cons shfX0 (.li 2))) (.li 2)), false), ((.eq (.app 50 (.cons shfX0 (.li 2))) (.li 0)), false), ((.app 57 shfX0), true), ((.app 64 (.cons (.li 0) (.va 2))), true), ((.app 68 (.cons (.va 0) (.li 2))), true), ((.lt (.li 20000) (.len (.va 3))), false), ((.lt (.li 20000) (.len (.va 2))), false)]
def shfR3 : EV × List (Option BV) := ((.a (.s (.xb (.eq (.app 52 (.cons shfX0 (.li 2))) (.len (.va 2)))))), [some (.abs (.va 9))])
def shfP4 : List (X × Bool) := [((.seq shfX2 (.va 2)), true), ((.eq (.li 0) (.len (.va 3))), true), ((.lt shfX1 (.li 0)), false), ((.app 902 shfX1), true), ((.eq (.len (.va 3)) (.li 0)), true), ((.lt (.va 1) (.app 52 (.cons shfX0 (.li 2)))), true), ((.seq shfX3 (.va 3)), true), ((.lt (.len (.va 3)) (.li 0)), false), ((.app 902 (.len (.va 3))), true), ((.lt shfX4 (.len (.va 3))), false), ((.lt (.app 52 (.cons shfX0 (.li 2))) (.li 0)), false), ((.seq (.va 3) (.ls ⟨#[]⟩)), true), ((.lt shfX5 (.len (.va 3))), false), ((.lt (.app 52 (.cons shfX0 (.li 2))) (.va 1)), false), ((.lt (.va 1) (.li 0)), false), ((.eq (.app 50 (.cons shfX0 (.li 2))) (.li 2)), false), ((.eq (.app 50 (.cons shfX0 (.li 2))) (.li 0)), false), ((.app 57 shfX0), true), ((.app 64 (.cons (.li 0) (.va 2))), true), ((.app 68 (.cons (.va 0) (.li 2))), true), ((.lt (.li 20000) (.len (.va 3))), false), ((.lt (.li 20000) (.len (.va 2))), false)]
def shfR4 : EV × List (Option BV) := ((.a (.s (.bool true))), [some (.abs (.va 9))])
def shfP5 : List (X × Bool) := [((.seq shfX2 (.va 2)), true), ((.eq (.li 0) (.len (.va 3))), true), ((.lt shfX1 (.li 0)), false), ((.app 902 shfX1), true), ((.lt (.va 1) (.app 52 (.cons shfX0 (.li 2)))), false), ((.seq shfX3 (.va 3)), true), ((.lt (.len (.va 3)) (.li 0)), false), ((.app 902 (.len (.va 3))), true), ((.lt shfX4 (.len (.va 3))), false), ((.lt (.app 52 (.cons shfX0 (.li 2))) (.li 0)), false), ((.seq (.va 3) (.ls ⟨#[]⟩)), true), ((.lt shfX5 (.len (.va 3))), false), ((.lt (.app 52 (.cons shfX0 (.li 2))) (.va 1)), false), ((.lt (.va 1) (.li 0)), false), ((.eq (.app 50 (.cons shfX0 (.li 2))) (.li 2)), false), ((.eq (.app 50 (.cons shfX0 (.li 2))) (.li 0)), false), ((.app 57 shfX0), true), ((.app 64 (.cons (.li 0) (.va 2))), true), ((.app 68 (.cons (.va 0) (.li 2))), true), ((.lt (.li 20000) (.len (.va 3))), false), ((.lt (.li 20000) (.len (.va 2))), false)]
def shfR5 : EV × List (Option BV) := ((.a (.s (.bool true))), [some (.abs (.va 9))])
def shfP6 : List (X × Bool) := [((.seq (.app 66 (.cons shfX13 (.cons (.li 2) (.cons (.li 0) shfX1)))) (.va 2)), true), ((.eq (.mn (.len (.va 3)) shfX8) (.len (.va 3))), true), ((.lt shfX1 (.li 0)), false), ((.app 68 (.cons shfX13 (.li 2))), true), ((.app 902 shfX1), true), ((.app 57 shfX13), true), ((.app 62 (.cons shfX10 (.cons (.li 2) (.cons (.va 1) shfX12)))), true), ((.eq (.app 50 (.cons shfX10 (.li 2))) (.li 0)), false), ((.app 57 shfX10), true), ((.lt (.li 1048576) shfX9), false), ((.lt shfX9 (.li 0)), false), ((.lt shfX11 (.li 0)), false), ((.eq (.len (.va 3)) (.li 0)), false), ((.lt (.va 1) (.app 52 (.cons shfX7 (.li 2)))), true), ((.seq (.app 66 (.cons shfX7 (.cons (.li 2) (.cons shfX15 (.len (.va 3)))))) (.va 3)), true), ((.lt (.va 1) shfX15), false), ((.lt (.len (.va 3)) (.li 0)), false), ((.lt shfX15 (.li 0)), false), ((.app 902 (.len (.va 3))), true), ((.app 902 shfX15), true), ((.lt (.app 70 (.cons shfX14 (.va 3))) (.li 0)), false), ((.lt (.li 1048576) (.len shfX14)), false), ((.app 71 (.va 9)), true), ((.lt (.li 1048576) (.app 52 (.cons shfX7 (.li 2)))), false), ((.lt (.bin .sub .i64 (.app 52 (.cons shfX7 (.li 2))) (.li 0)) (.len (.va 3))), false), ((.lt (.app 52 (.cons shfX7 (.li 2))) (.li 0)), false), ((.eq (.app 50 (.cons shfX7 (.li 2))) (.li 2)), false), ((.eq (.app 50 (.cons shfX7 (.li 2))) (.li 0)), false), ((.app 57 shfX7), true), ((.app 64 (.cons (.va 1) (.cat (.va 3) shfX6))), true), ((.app 902 (.va 1)), true), ((.big (.va 3) shfX6), false), ((.lt (.li 1048576) (.app 52 (.cons shfX0 (.li 2)))), false), ((.seq (.va 3) (.ls ⟨#[]⟩)), false), ((.lt shfX5 (.len (.va 3))), false), ((.lt (.app 52 (.cons shfX0 (.li 2))) (.va 1)), false), ((.lt (.va 1) (.li 0)), false), ((.eq (.app 50 (.cons shfX0 (.li 2))) (.li 2)), false), ((.eq (.app 50 (.cons shfX0 (.li 2))) (.li 0)), false), ((.app 57 shfX0), true), ((.app 64 (.cons (.li 0) (.va 2))), true), ((.app 68 (.cons (.va 0) (.li 2))), true), ((.lt (.li 20000) (.len (.va 3))), false), ((.lt (.li 20000) (.len (.va 2))), false)]
def shfR6 : EV × List (Option BV) := ((.a (.s (.bool true))), [some (.abs (.va 9))])
end Go.Proofs.YtcnimekhpnejlaaGreat.Ev

/-
  DERIVED: THE SHELF's CONTRACTS AT THIS DUMP, IN PLAIN WORDS (tools/lay-plain.mjs out of 'TryzShelf.lean', which tools/lay-shelf.mjs wrote): THE SAME DECLARATIONS UNDER THE SAME NAMES: 'import', 'namespace', 'open', 'def', 'theorem' AND NOTHING ELSE: no command of the shelf's: FOR A HAND-IN. Each laying: the table of numbers ('.._ren') and one theorem, a field a fact of the dump's own or the kernel's comparison; each contract: ONE APPLICATION.
-/
namespace Go.Proofs
open Go.Shelf
def Tryz.lays128_ren : Go.Shelf.Ren := ⟨fun | 128 => 150 | n => n, fun | 51 => 76 | 3 => 3 | 4 => 4 | 46 => 173 | 5 => 5 | 9 => 9 | n => n, fun | n => n⟩
theorem Tryz.lays128 : Go.Proofs.Lays.n128 Tryz.prog Tryz.lays128_ren := {
  mixed := by kernel_rfl
  f128 := Tryz.func150.trans (congrArg some (by kernel_rfl))
  t3 := Tryz.underlying3
  a3 := Tryz.isAgg3
  z3 := Tryz.sizeOf3
  v3 := Tryz.zeroValue3
  t4 := Tryz.underlying4
  a4 := Tryz.isAgg4
  z4 := Tryz.sizeOf4
  v4 := Tryz.zeroValue4
  t5 := Tryz.underlying5
  a5 := Tryz.isAgg5
  z5 := Tryz.sizeOf5
  v5 := Tryz.zeroValue5
  t9 := Tryz.underlying9
  a9 := Tryz.isAgg9
  z9 := Tryz.sizeOf9
  v9 := Tryz.zeroValue9
  t46 := Tryz.underlying173
  a46 := Tryz.isAgg173
  z46 := Tryz.sizeOf173
  v46 := Tryz.zeroValue173
  t51 := Tryz.underlying76
  a51 := Tryz.isAgg76
  z51 := Tryz.sizeOf76
  v51 := Tryz.zeroValue76 }
/-- bits.Len32: "Len32 returns the minimum number of bits required to represent x; the result is 0 for x == 0.": IT RETURNS 'Lib.bitLen x'; the world is as it was. ('h0', 'h1': x is a uint32.) (LAID: no walk: one application.) -/
theorem Tryz.bits_Len32 (x : Int) (w : World) (h0 : 0 ≤ x) (h1 : x ≤ 4294967295) :
    Calls Tryz.prog 150 #[.int .u32 x] w fun e w' => e = .returned (.int .i64 (Lib.bitLen x.toNat)) ∧ w' = w := Any.bits_Len32 Tryz.lays128 x w h0 h1
def Tryz.lays125_ren : Go.Shelf.Ren := ⟨fun | 125 => 132 | 128 => 150 | 129 => 151 | n => n, fun | 46 => 173 | 3 => 3 | 51 => 76 | 53 => 29 | 4 => 4 | 5 => 5 | 9 => 9 | n => n, fun | n => n⟩
theorem Tryz.lays125 : Go.Proofs.Lays.n125 Tryz.prog Tryz.lays125_ren := {
  mixed := by kernel_rfl
  f125 := Tryz.func132.trans (congrArg some (by kernel_rfl))
  f128 := Tryz.func150.trans (congrArg some (by kernel_rfl))
  f129 := Tryz.func151.trans (congrArg some (by kernel_rfl))
  t3 := Tryz.underlying3
  a3 := Tryz.isAgg3
  z3 := Tryz.sizeOf3
  v3 := Tryz.zeroValue3
  t4 := Tryz.underlying4
  a4 := Tryz.isAgg4
  z4 := Tryz.sizeOf4
  v4 := Tryz.zeroValue4
  t5 := Tryz.underlying5
  a5 := Tryz.isAgg5
  z5 := Tryz.sizeOf5
  v5 := Tryz.zeroValue5
  t9 := Tryz.underlying9
  a9 := Tryz.isAgg9
  z9 := Tryz.sizeOf9
  v9 := Tryz.zeroValue9
  t46 := Tryz.underlying173
  a46 := Tryz.isAgg173
  z46 := Tryz.sizeOf173
  v46 := Tryz.zeroValue173
  t51 := Tryz.underlying76
  a51 := Tryz.isAgg76
  z51 := Tryz.sizeOf76
  v51 := Tryz.zeroValue76
  t53 := Tryz.underlying29
  a53 := Tryz.isAgg29
  z53 := Tryz.sizeOf29
  v53 := Tryz.zeroValue29 }
/-- bits.Len: "Len returns the minimum number of bits required to represent x; the result is 0 for x == 0.": IT RETURNS 'Lib.bitLen x'; the world is as it was. (A uint has 64 bits in the model.) ITS CALLEE bits.Len64 IS MET BY ITS OWN CONTRACT OFF THE SHELF (lay that first). (LAID: no walk: one application.) -/
theorem Tryz.bits_Len (x : Int) (w : World) (h0 : 0 ≤ x) (h1 : x ≤ 18446744073709551615) :
    Calls Tryz.prog 132 #[.int .u64 x] w fun e w' => e = .returned (.int .i64 (Lib.bitLen x.toNat)) ∧ w' = w := Any.bits_Len Tryz.lays125 x w h0 h1
def Tryz.lays129_ren : Go.Shelf.Ren := ⟨fun | 129 => 151 | n => n, fun | 53 => 29 | 3 => 3 | 4 => 4 | 46 => 173 | 5 => 5 | 9 => 9 | n => n, fun | n => n⟩
theorem Tryz.lays129 : Go.Proofs.Lays.n129 Tryz.prog Tryz.lays129_ren := {
  mixed := by kernel_rfl
  f129 := Tryz.func151.trans (congrArg some (by kernel_rfl))
  t3 := Tryz.underlying3
  a3 := Tryz.isAgg3
  z3 := Tryz.sizeOf3
  v3 := Tryz.zeroValue3
  t4 := Tryz.underlying4
  a4 := Tryz.isAgg4
  z4 := Tryz.sizeOf4
  v4 := Tryz.zeroValue4
  t5 := Tryz.underlying5
  a5 := Tryz.isAgg5
  z5 := Tryz.sizeOf5
  v5 := Tryz.zeroValue5
  t9 := Tryz.underlying9
  a9 := Tryz.isAgg9
  z9 := Tryz.sizeOf9
  v9 := Tryz.zeroValue9
  t46 := Tryz.underlying173
  a46 := Tryz.isAgg173
  z46 := Tryz.sizeOf173
  v46 := Tryz.zeroValue173
  t53 := Tryz.underlying29
  a53 := Tryz.isAgg29
  z53 := Tryz.sizeOf29
  v53 := Tryz.zeroValue29 }
/-- bits.Len64: "Len64 returns the minimum number of bits required to represent x; the result is 0 for x == 0.": IT RETURNS 'Lib.bitLen x'; the world is as it was. ('h0', 'h1': x is a uint64.) (LAID: no walk: one application.) -/
theorem Tryz.bits_Len64 (x : Int) (w : World) (h0 : 0 ≤ x) (h1 : x ≤ 18446744073709551615) :
    Calls Tryz.prog 151 #[.int .u64 x] w fun e w' => e = .returned (.int .i64 (Lib.bitLen x.toNat)) ∧ w' = w := Any.bits_Len64 Tryz.lays129 x w h0 h1
def Tryz.lays217_ren : Go.Shelf.Ren := ⟨fun | 217 => 85 | 266 => 93 | n => n, fun | 9 => 9 | 5 => 5 | 3 => 3 | n => n, fun | n => n⟩
theorem Tryz.lays217 : Go.Proofs.Lays.n217 Tryz.prog Tryz.lays217_ren := {
  mixed := by kernel_rfl
  f217 := Tryz.func85.trans (congrArg some (by kernel_rfl))
  f266 := Tryz.func93.trans (congrArg some (by kernel_rfl))
  t3 := Tryz.underlying3
  a3 := Tryz.isAgg3
  z3 := Tryz.sizeOf3
  v3 := Tryz.zeroValue3
  t5 := Tryz.underlying5
  a5 := Tryz.isAgg5
  z5 := Tryz.sizeOf5
  v5 := Tryz.zeroValue5
  t9 := Tryz.underlying9
  a9 := Tryz.isAgg9
  z9 := Tryz.sizeOf9
  v9 := Tryz.zeroValue9 }
open Go.RowKit Go.Lib in
/-- internal/stringslite.IndexByte (what strings.IndexByte calls): IT RETURNS 'Lib.indexByte s c'; the world is as it was. (LAID: no walk: one application.) -/
theorem Tryz.stringslite_IndexByte (s : ByteArray) (c : Int) (w : World) :
    Calls Tryz.prog 85 #[.string s, .int .u8 c] w fun e w' => e = .returned (.int .i64 (Lib.indexByte s.data.toList c.toNat.toUInt8)) ∧ w' = w := Any.stringslite_IndexByte Tryz.lays217 s c w
def Tryz.lays224_ren : Go.Shelf.Ren := ⟨fun | 224 => 87 | n => n, fun | 3 => 3 | n => n, fun | n => n⟩
theorem Tryz.lays224 : Go.Proofs.Lays.n224 Tryz.prog Tryz.lays224_ren := {
  mixed := by kernel_rfl
  f224 := Tryz.func87.trans (congrArg some (by kernel_rfl))
  t3 := Tryz.underlying3
  a3 := Tryz.isAgg3
  z3 := Tryz.sizeOf3
  v3 := Tryz.zeroValue3 }
open Go.RowKit Go.Lib in
/-- internal/bytealg.Cutover: "Cutover reports the number of failures of IndexByte we should tolerate before switching over to Index. n is the number of bytes processed so far.": on amd64: (n + 16) / 8. (LAID: no walk: one application.) -/
theorem Tryz.bytealg_Cutover (n : Int) (h0 : 0 ≤ n) (h1 : n < 4611686018427387904) (w : World) :
    Calls Tryz.prog 87 #[.int .i64 n] w fun e w' => e = .returned (.int .i64 ((n + 16) / 8)) ∧ w' = w := Any.bytealg_Cutover Tryz.lays224 n h0 h1 w
def Tryz.lays314_ren : Go.Shelf.Ren := ⟨fun | 314 => 94 | n => n, fun | 9 => 9 | 51 => 76 | 3 => 3 | 4 => 4 | 5 => 5 | 46 => 173 | n => n, fun | n => n⟩
theorem Tryz.lays314 : Go.Proofs.Lays.n314 Tryz.prog Tryz.lays314_ren := {
  mixed := by kernel_rfl
  f314 := Tryz.func94.trans (congrArg some (by kernel_rfl))
  t3 := Tryz.underlying3
  a3 := Tryz.isAgg3
  z3 := Tryz.sizeOf3
  v3 := Tryz.zeroValue3
  t4 := Tryz.underlying4
  a4 := Tryz.isAgg4
  z4 := Tryz.sizeOf4
  v4 := Tryz.zeroValue4
  t5 := Tryz.underlying5
  a5 := Tryz.isAgg5
  z5 := Tryz.sizeOf5
  v5 := Tryz.zeroValue5
  t9 := Tryz.underlying9
  a9 := Tryz.isAgg9
  z9 := Tryz.sizeOf9
  v9 := Tryz.zeroValue9
  t46 := Tryz.underlying173
  a46 := Tryz.isAgg173
  z46 := Tryz.sizeOf173
  v46 := Tryz.zeroValue173
  t51 := Tryz.underlying76
  a51 := Tryz.isAgg76
  z51 := Tryz.sizeOf76
  v51 := Tryz.zeroValue76 }
open Go.RowKit Go.Lib in
/-- hashStr: "returns the hash and the appropriate multiplicative factor for use in Rabin-Karp algorithm": THE HASH OF ALL OF sep, AND 16777619 ^ len(sep), both in uint32. (LAID: no walk: one application.) -/
theorem Tryz.bytealg_hashStr (sep : ByteArray) (hs : sep.size < 4294967281) (w : World) :
    Calls Tryz.prog 94 #[.string sep] w fun e w' => e = .returned (.tuple #[.int .u32 (RK.H sep.data.toList % 4294967296), .int .u32 (16777619 ^ sep.size % 4294967296)]) ∧ w' = w := Any.bytealg_hashStr Tryz.lays314 sep hs w
def Tryz.lays267_ren : Go.Shelf.Ren := ⟨fun | 267 => 88 | 314 => 94 | n => n, fun | 9 => 9 | 3 => 3 | 146 => 180 | 51 => 76 | 4 => 4 | 5 => 5 | 46 => 173 | n => n, fun | n => n⟩
theorem Tryz.lays267 : Go.Proofs.Lays.n267 Tryz.prog Tryz.lays267_ren := {
  mixed := by kernel_rfl
  f267 := Tryz.func88.trans (congrArg some (by kernel_rfl))
  f314 := Tryz.func94.trans (congrArg some (by kernel_rfl))
  t3 := Tryz.underlying3
  a3 := Tryz.isAgg3
  z3 := Tryz.sizeOf3
  v3 := Tryz.zeroValue3
  t4 := Tryz.underlying4
  a4 := Tryz.isAgg4
  z4 := Tryz.sizeOf4
  v4 := Tryz.zeroValue4
  t5 := Tryz.underlying5
  a5 := Tryz.isAgg5
  z5 := Tryz.sizeOf5
  v5 := Tryz.zeroValue5
  t9 := Tryz.underlying9
  a9 := Tryz.isAgg9
  z9 := Tryz.sizeOf9
  v9 := Tryz.zeroValue9
  t46 := Tryz.underlying173
  a46 := Tryz.isAgg173
  z46 := Tryz.sizeOf173
  v46 := Tryz.zeroValue173
  t51 := Tryz.underlying76
  a51 := Tryz.isAgg76
  z51 := Tryz.sizeOf76
  v51 := Tryz.zeroValue76
  t146 := Tryz.underlying180
  a146 := Tryz.isAgg180
  z146 := Tryz.sizeOf180
  v146 := Tryz.zeroValue180 }
open Go.RowKit Go.Lib in
theorem Tryz.bytealg_IndexRabinKarp (s sep : ByteArray) (h1 : 1 ≤ sep.size) (h2 : sep.size ≤ s.size) (hs : s.size < 4294967281) (w : World) :
    Calls Tryz.prog 88 #[.string s, .string sep] w fun e w' => e = .returned (.int .i64 (Lib.index s.data.toList sep.data.toList)) ∧ w' = w := Any.bytealg_IndexRabinKarp Tryz.lays267 s sep h1 h2 hs w
def Tryz.lays219_ren : Go.Shelf.Ren := ⟨fun | 219 => 75 | 217 => 85 | 225 => 86 | 224 => 87 | 267 => 88 | 266 => 93 | 314 => 94 | n => n, fun | 9 => 9 | 3 => 3 | 4 => 4 | 5 => 5 | 46 => 173 | 146 => 180 | 51 => 76 | n => n, fun | 1 => 0 | n => n⟩
theorem Tryz.lays219 : Go.Proofs.Lays.n219 Tryz.prog Tryz.lays219_ren := {
  mixed := by kernel_rfl
  f217 := Tryz.func85.trans (congrArg some (by kernel_rfl))
  f219 := Tryz.func75.trans (congrArg some (by kernel_rfl))
  f224 := Tryz.func87.trans (congrArg some (by kernel_rfl))
  f225 := Tryz.func86.trans (congrArg some (by kernel_rfl))
  f266 := Tryz.func93.trans (congrArg some (by kernel_rfl))
  f267 := Tryz.func88.trans (congrArg some (by kernel_rfl))
  f314 := Tryz.func94.trans (congrArg some (by kernel_rfl))
  t3 := Tryz.underlying3
  a3 := Tryz.isAgg3
  z3 := Tryz.sizeOf3
  v3 := Tryz.zeroValue3
  t4 := Tryz.underlying4
  a4 := Tryz.isAgg4
  z4 := Tryz.sizeOf4
  v4 := Tryz.zeroValue4
  t5 := Tryz.underlying5
  a5 := Tryz.isAgg5
  z5 := Tryz.sizeOf5
  v5 := Tryz.zeroValue5
  t9 := Tryz.underlying9
  a9 := Tryz.isAgg9
  z9 := Tryz.sizeOf9
  v9 := Tryz.zeroValue9
  t46 := Tryz.underlying173
  a46 := Tryz.isAgg173
  z46 := Tryz.sizeOf173
  v46 := Tryz.zeroValue173
  t51 := Tryz.underlying76
  a51 := Tryz.isAgg76
  z51 := Tryz.sizeOf76
  v51 := Tryz.zeroValue76
  t146 := Tryz.underlying180
  a146 := Tryz.isAgg180
  z146 := Tryz.sizeOf180
  v146 := Tryz.zeroValue180
  g1 := by kernel_rfl }
open Go.RowKit Go.Lib in
/-- internal/stringslite.Index (what strings.Index calls) AT A substr OF ONE BYTE c: IT RETURNS 'Lib.indexByte s c'; the world is as it was. (LAID: no walk: one application.) -/
theorem Tryz.stringslite_Index_one (s : ByteArray) (c : UInt8) (w : World) :
    Calls Tryz.prog 75 #[.string s, .string ⟨#[c]⟩] w fun e w' => e = .returned (.int .i64 (Lib.indexByte s.data.toList c)) ∧ w' = w := Any.stringslite_Index_one Tryz.lays219 s c w
open Go.RowKit Go.Lib in
/-- internal/stringslite.Index (what strings.Index calls) AT A substr OF WHATEVER LENGTH: IT RETURNS 'Lib.index s substr'; the world is as it was. 'm': what internal/bytealg.MaxLen holds: whatever. (LAID: no walk: one application.) -/
theorem Tryz.stringslite_Index (s sub : ByteArray) (m : Int) (w : World) (hs : s.size < 4294967281) (hm : w.cell? ⟨0, 0, none⟩ = some (.int .i64 m)) :
    Calls Tryz.prog 75 #[.string s, .string sub] w fun e w' => e = .returned (.int .i64 (Lib.index s.data.toList sub.data.toList)) ∧ w' = w := Any.stringslite_Index Tryz.lays219 s sub m w hs hm
def Tryz.lays143_ren : Go.Shelf.Ren := ⟨fun | 143 => 50 | 219 => 75 | 217 => 85 | 225 => 86 | 224 => 87 | 267 => 88 | 266 => 93 | 314 => 94 | n => n, fun | 9 => 9 | 3 => 3 | 4 => 4 | 5 => 5 | 46 => 173 | 146 => 180 | 51 => 76 | n => n, fun | 1 => 0 | n => n⟩
theorem Tryz.lays143 : Go.Proofs.Lays.n143 Tryz.prog Tryz.lays143_ren := {
  mixed := by kernel_rfl
  f143 := Tryz.func50.trans (congrArg some (by kernel_rfl))
  f217 := Tryz.func85.trans (congrArg some (by kernel_rfl))
  f219 := Tryz.func75.trans (congrArg some (by kernel_rfl))
  f224 := Tryz.func87.trans (congrArg some (by kernel_rfl))
  f225 := Tryz.func86.trans (congrArg some (by kernel_rfl))
  f266 := Tryz.func93.trans (congrArg some (by kernel_rfl))
  f267 := Tryz.func88.trans (congrArg some (by kernel_rfl))
  f314 := Tryz.func94.trans (congrArg some (by kernel_rfl))
  t3 := Tryz.underlying3
  a3 := Tryz.isAgg3
  z3 := Tryz.sizeOf3
  v3 := Tryz.zeroValue3
  t4 := Tryz.underlying4
  a4 := Tryz.isAgg4
  z4 := Tryz.sizeOf4
  v4 := Tryz.zeroValue4
  t5 := Tryz.underlying5
  a5 := Tryz.isAgg5
  z5 := Tryz.sizeOf5
  v5 := Tryz.zeroValue5
  t9 := Tryz.underlying9
  a9 := Tryz.isAgg9
  z9 := Tryz.sizeOf9
  v9 := Tryz.zeroValue9
  t46 := Tryz.underlying173
  a46 := Tryz.isAgg173
  z46 := Tryz.sizeOf173
  v46 := Tryz.zeroValue173
  t51 := Tryz.underlying76
  a51 := Tryz.isAgg76
  z51 := Tryz.sizeOf76
  v51 := Tryz.zeroValue76
  t146 := Tryz.underlying180
  a146 := Tryz.isAgg180
  z146 := Tryz.sizeOf180
  v146 := Tryz.zeroValue180
  g1 := by kernel_rfl }
open Go.RowKit Go.Lib in
/-- strings.Index: "Index returns the index of the first instance of substr in s, or -1 if substr is not present in s.": AT A substr OF ONE BYTE c: IT RETURNS 'Lib.indexByte s c'; the world is as it was. (LAID: no walk: one application.) -/
theorem Tryz.strings_Index_one (s : ByteArray) (c : UInt8) (w : World) :
    Calls Tryz.prog 50 #[.string s, .string ⟨#[c]⟩] w fun e w' => e = .returned (.int .i64 (Lib.indexByte s.data.toList c)) ∧ w' = w := Any.strings_Index_one Tryz.lays143 s c w
open Go.RowKit Go.Lib in
/-- strings.Index: "Index returns the index of the first instance of substr in s, or -1 if substr is not present in s.": IT RETURNS 'Lib.index s substr'; the world is as it was. (LAID: no walk: one application.) -/
theorem Tryz.strings_Index (s sub : ByteArray) (m : Int) (w : World) (hs : s.size < 4294967281) (hm : w.cell? ⟨0, 0, none⟩ = some (.int .i64 m)) :
    Calls Tryz.prog 50 #[.string s, .string sub] w fun e w' => e = .returned (.int .i64 (Lib.index s.data.toList sub.data.toList)) ∧ w' = w := Any.strings_Index Tryz.lays143 s sub m w hs hm
def Tryz.laysM219_ren : Go.Shelf.Ren := ⟨fun | 219 => 75 | 217 => 85 | 225 => 86 | 224 => 87 | 267 => 88 | 266 => 93 | 314 => 94 | n => n, fun | 9 => 9 | 3 => 3 | 4 => 4 | 5 => 5 | 46 => 173 | 146 => 180 | 51 => 76 | n => n, fun | 1 => 0 | n => n⟩
theorem Tryz.laysM219 : Go.Proofs.LaysM.n219 Tryz.prog Tryz.laysM219_ren := {
  mixed := by kernel_rfl
  f217 := Tryz.func85.trans (congrArg some (by kernel_rfl))
  f219 := Tryz.func75.trans (congrArg some (by kernel_rfl))
  f224 := Tryz.func87.trans (congrArg some (by kernel_rfl))
  f225 := Tryz.func86.trans (congrArg some (by kernel_rfl))
  f266 := Tryz.func93.trans (congrArg some (by kernel_rfl))
  f267 := Tryz.func88.trans (congrArg some (by kernel_rfl))
  f314 := Tryz.func94.trans (congrArg some (by kernel_rfl))
  t3 := Tryz.underlying3
  a3 := Tryz.isAgg3
  z3 := Tryz.sizeOf3
  v3 := Tryz.zeroValue3
  t4 := Tryz.underlying4
  a4 := Tryz.isAgg4
  z4 := Tryz.sizeOf4
  v4 := Tryz.zeroValue4
  t5 := Tryz.underlying5
  a5 := Tryz.isAgg5
  z5 := Tryz.sizeOf5
  v5 := Tryz.zeroValue5
  t9 := Tryz.underlying9
  a9 := Tryz.isAgg9
  z9 := Tryz.sizeOf9
  v9 := Tryz.zeroValue9
  t46 := Tryz.underlying173
  a46 := Tryz.isAgg173
  z46 := Tryz.sizeOf173
  v46 := Tryz.zeroValue173
  t51 := Tryz.underlying76
  a51 := Tryz.isAgg76
  z51 := Tryz.sizeOf76
  v51 := Tryz.zeroValue76
  t146 := Tryz.underlying180
  a146 := Tryz.isAgg180
  z146 := Tryz.sizeOf180
  v146 := Tryz.zeroValue180
  g1 := by kernel_rfl
  i3 := by kernel_rfl
  i4 := by kernel_rfl
  i5 := by kernel_rfl
  i9 := by kernel_rfl
  i46 := by kernel_rfl
  i51 := by kernel_rfl
  i146 := by kernel_rfl
  m1 := by kernel_rfl
  s1_3 := fun w h => Go.Proofs.cell_of_shapedOpen_int (zero := #[.int .i64 0]) (t := 3) h (of_decide_eq_true (by kernel_rfl)) (by kernel_rfl) rfl (by kernel_rfl) (by kernel_rfl) Tryz.underlying3 }
open Go.RowKit Go.Lib in
theorem Tryz.stringslite_Index_shaped (s sub : ByteArray) (w : World) (h : w.ShapedOpen Tryz.prog) (hs : s.size < 4294967281) :
    Calls Tryz.prog 75 #[.string s, .string sub] w fun e w' => e = .returned (.int .i64 (Lib.index s.data.toList sub.data.toList)) ∧ w' = w := Any.stringslite_Index_shaped Tryz.laysM219 s sub w h hs
def Tryz.laysM143_ren : Go.Shelf.Ren := ⟨fun | 143 => 50 | 219 => 75 | 217 => 85 | 225 => 86 | 224 => 87 | 267 => 88 | 266 => 93 | 314 => 94 | n => n, fun | 9 => 9 | 3 => 3 | 4 => 4 | 5 => 5 | 46 => 173 | 146 => 180 | 51 => 76 | n => n, fun | 1 => 0 | n => n⟩
theorem Tryz.laysM143 : Go.Proofs.LaysM.n143 Tryz.prog Tryz.laysM143_ren := {
  mixed := by kernel_rfl
  f143 := Tryz.func50.trans (congrArg some (by kernel_rfl))
  f217 := Tryz.func85.trans (congrArg some (by kernel_rfl))
  f219 := Tryz.func75.trans (congrArg some (by kernel_rfl))
  f224 := Tryz.func87.trans (congrArg some (by kernel_rfl))
  f225 := Tryz.func86.trans (congrArg some (by kernel_rfl))
  f266 := Tryz.func93.trans (congrArg some (by kernel_rfl))
  f267 := Tryz.func88.trans (congrArg some (by kernel_rfl))
  f314 := Tryz.func94.trans (congrArg some (by kernel_rfl))
  t3 := Tryz.underlying3
  a3 := Tryz.isAgg3
  z3 := Tryz.sizeOf3
  v3 := Tryz.zeroValue3
  t4 := Tryz.underlying4
  a4 := Tryz.isAgg4
  z4 := Tryz.sizeOf4
  v4 := Tryz.zeroValue4
  t5 := Tryz.underlying5
  a5 := Tryz.isAgg5
  z5 := Tryz.sizeOf5
  v5 := Tryz.zeroValue5
  t9 := Tryz.underlying9
  a9 := Tryz.isAgg9
  z9 := Tryz.sizeOf9
  v9 := Tryz.zeroValue9
  t46 := Tryz.underlying173
  a46 := Tryz.isAgg173
  z46 := Tryz.sizeOf173
  v46 := Tryz.zeroValue173
  t51 := Tryz.underlying76
  a51 := Tryz.isAgg76
  z51 := Tryz.sizeOf76
  v51 := Tryz.zeroValue76
  t146 := Tryz.underlying180
  a146 := Tryz.isAgg180
  z146 := Tryz.sizeOf180
  v146 := Tryz.zeroValue180
  g1 := by kernel_rfl
  i3 := by kernel_rfl
  i4 := by kernel_rfl
  i5 := by kernel_rfl
  i9 := by kernel_rfl
  i46 := by kernel_rfl
  i51 := by kernel_rfl
  i146 := by kernel_rfl
  m1 := by kernel_rfl
  s1_3 := fun w h => Go.Proofs.cell_of_shapedOpen_int (zero := #[.int .i64 0]) (t := 3) h (of_decide_eq_true (by kernel_rfl)) (by kernel_rfl) rfl (by kernel_rfl) (by kernel_rfl) Tryz.underlying3 }
open Go.RowKit Go.Lib in
theorem Tryz.strings_Index_shaped (s sub : ByteArray) (w : World) (h : w.ShapedOpen Tryz.prog) (hs : s.size < 4294967281) :
    Calls Tryz.prog 50 #[.string s, .string sub] w fun e w' => e = .returned (.int .i64 (Lib.index s.data.toList sub.data.toList)) ∧ w' = w := Any.strings_Index_shaped Tryz.laysM143 s sub w h hs
end Go.Proofs

/- Searching in files: the rule holds; the variable that it reads, opened and closed again. -/
namespace Go.Proofs.YtcnimekhpnejlaaGreat.Ev
open Go Go.RowKit
set_option linter.unusedVariables false
set_option linter.unusedSimpArgs false
set_option maxRecDepth 10000
theorem told71 {v : Nat → D} {o : Nat → Value} {pc : List (X × Bool)} (hpc : Told (rhoI v o) pc) {e : X} (h : truL pc (.app 71 e) = some true) : ∃ m, e.val (rhoI v o) = .p (.i 0) (.i m) := by
  have h1 : (FNi 71 (e.val (rhoI v o))).bool = true := truL_ok hpc h
  generalize e.val (rhoI v o) = d at h1 ⊢
  cases d with
  | p a b =>
    cases a with
    | i g =>
      cases b with
      | i m =>
        have h1 : decide (g = 0) = true := h1
        obtain rfl := of_decide_eq_true h1
        exact ⟨m, rfl⟩
      | _ => cases h1
    | _ => cases h1
  | _ => cases h1
theorem glob_cell {m : Int} {a : Nat} {w : World} (h : isGlob 0 m a w) : a = 0 ∧ w.cell? ⟨0, 0, none⟩ = some (.int .i64 m) := by
  obtain ⟨h1, h2⟩ := h
  obtain rfl : a = 0 := by omega
  exact ⟨rfl, by simp [World.cell?, h2]⟩
theorem sumIdx_ok {v : Nat → D} {o : Nat → Value} {pc : List (X × Bool)} (hpc : Told (rhoI v o) pc) {R : Rules} : CallOk (ctx R (rhoI v o) pc) (sumIdx pc) := by
  intro g args h nx r he E w vs hr hρ hf hargs
  replace hρ : E.ρ = rhoI v o := hρ
  unfold sumIdx at he
  split at he
  · rename_i hg
    subst hg
    split at he
    · rename_i y z
      obtain ⟨s, hs, he⟩ := Option.bind_eq_some_iff.1 he
      obtain ⟨t, ht, he⟩ := Option.bind_eq_some_iff.1 he
      split at he
      · rename_i e hi
        split at he
        · rename_i hc
          obtain ⟨c1, c2⟩ := hc
          obtain rfl := Option.some.inj he
          obtain ⟨m, hm⟩ := told71 hpc c1
          obtain ⟨p, ob, hp, _, _⟩ := hr.at_ 0 _ hi
          have his := hr.abs.ab 0 e p hi hp
          have his2 : isD Tryz.prog (e.val (rhoI v o)) p.blk w := by rw [hρ] at his; exact his
          rw [hm] at his2
          obtain ⟨_, hcell⟩ := glob_cell his2
          have c2 : decide ((1048576 : Int) < (((s.str (rhoI v o)).size : Nat) : Int)) = false := truL_ok hpc c2
          have c2 := of_decide_eq_false c2
          match vs, hargs with
          | [u1, u2], hargs =>
            have h1 : u1 = .string (s.str (rhoI v o)) := by rw [← hρ]; exact asS_rel hs hargs.1
            have h2 : u2 = .string (t.str (rhoI v o)) := by rw [← hρ]; exact asS_rel ht hargs.2.1
            subst h1
            subst h2
            refine (Tryz.strings_Index (s.str (rhoI v o)) (t.str (rhoI v o)) m w (by omega) hcell).mono fun en w' ⟨he, hw⟩ => ?_
            subst hw
            refine ⟨_, E, he, Goes.below hr (Below.refl _ _), ?_⟩
            show _ = Value.int .i64 ((E.ρ.f 70 (.p (s.val E.ρ) (t.val E.ρ))).int)
            rw [hρ]
            rfl
        · cases he
      · cases he
    · cases he
  · cases he
theorem sumF_ok {v : Nat → D} {o : Nat → Value} {pc : List (X × Bool)} (hpc : Told (rhoI v o) pc) {R : Rules} {call : Call} (hcall : CallOk (ctx R (rhoI v o) pc) call) (h0 : v 0 = .st (.ino S0)) : CallOk (ctx R (rhoI v o) pc) (sumF (fun f => (funT.get f).isSome) pc call) :=
  sumOr_ok (sumBeg_ok h0) (sumOr_ok (sumIdx_ok hpc) (sumOr_ok (sumWhole_ok hpc hcall) (sumOr_ok (sumA_ok (rLaw_ok hpc)) (sumOr_ok (sumP_ok (rZer_ok hpc)) (sumFi_ok hpc)))))
/-- What the statements of files call. -/
noncomputable def sumS (ρ : Rho) (pc : List (X × Bool)) : Call := sumOr (sumTru [9]) (sumF (fun f => (funT.get f).isSome) pc (evCall (ctx rules0 ρ pc) funT.get (sumFi pc) 100000 1000))
theorem sumS_ok {v : Nat → D} {o : Nat → Value} {pc : List (X × Bool)} (hpc : Told (rhoI v o) pc) (h0 : v 0 = .st (.ino S0)) : CallOk (ctx rules0 (rhoI v o) pc) (sumS (rhoI v o) pc) :=
  sumOr_ok (sumTru_ok rfl fun g hg => by obtain rfl := List.mem_singleton.1 hg; exact awake_true) (sumF_ok hpc (evCall_ok (rules0_ok _ pc hpc) (show (ctx rules0 (rhoI v o) pc).P.follows .mixedOrders = true from mixed) (funs_ok (C := ctx rules0 (rhoI v o) pc) rfl) (sumFi_ok hpc) 1000) h0)
def globM : T Blk := memL [.abs (.va 9)]
theorem glob_open {v : Nat → D} {o : Nat → Value} {w : World} {m : Int} (h : isGlob 0 m 0 w) (h9 : v 9 = .p (.i 0) (.i m)) : HRel (envL [0] (rhoI v o)) globM w :=
  hrel_mk rfl (fun i b B hi hB => by
    match i, hi, hB with
    | 0, hi, hB =>
      obtain rfl := Option.some.inj hi
      obtain rfl := Option.some.inj hB
      show isD Tryz.prog (v 9) 0 w
      rw [h9]
      exact h
    | i + 1, hi, _ => simp at hi) (fun i j b c B C hi hj hB hC hij k h1 h2 => by
    match i, j, hi, hj with
    | 0, 0, _, _ => exact hij rfl
    | i + 1, _, hi, _ => simp at hi
    | 0, j + 1, _, hj => simp at hj)
theorem glob_came {v : Nat → D} {o : Nat → Value} {w : World} {m : Int} (h : isGlob 0 m 0 w) (h9 : v 9 = .p (.i 0) (.i m)) {g nx : Nat} {vs : Array Value} {r : EV} (hc : Came Tryz.prog g vs (envL [0] (rhoI v o)) globM nx w [0] (r, [some (.abs (.va 9))])) {b : Value} (hb : ∀ E u, E.ρ = rhoI v o → r.rel E u → u = b) :
    Calls Tryz.prog g vs w fun e w' => e = .returned b ∧ Below w.heap.size w w' :=
  Calls.mono hc fun en w' ⟨u, E', h', nx', he, hg, hv, hview⟩ => by
    have hρ : E'.ρ = rhoI v o := hg.ext.ρ
    have v0 : (h'.get 0).map Blk.view = some (.abs (.va 9)) := (List.cons.inj hview).1.symm
    have m0 : E'.m 0 = some ⟨0, 0, 0⟩ := hg.ext.m _ _ (envL_at rfl)
    have his := abs_of_view hg.rel v0 m0
    rw [hρ] at his
    have his2 : isD Tryz.prog (v 9) 0 w' := his
    rw [h9] at his2
    have his2 : isGlob 0 m 0 w' := his2
    refine ⟨by rw [he, hb E' u hρ hv], hg.frame.os, hg.frame.tape, hg.frame.output, hg.frame.size, fun k hk => ?_⟩
    by_cases hk0 : k = 0
    · rw [hk0, his2.2, h.2]
    · refine hg.frame.block k hk fun ho => hk0 ?_
      have hb : ∀ j B, globM.get j = some B → j = 0 ∧ B = .abs (.va 9) := fun j B hB => by
        have := memL_get hB
        match j, this with
        | 0, h => exact ⟨rfl, (Option.some.inj h).symm⟩
        | j + 1, h => simp at h
      rcases ho with ⟨j, B, q, hB, hq, rfl⟩ | ⟨j, e, q, hB, hq, ho⟩
      · obtain ⟨rfl, rfl⟩ := hb j B hB
        have e1 := Option.some.inj (envL_inv hq).1
        exact e1.symm
      · obtain ⟨rfl, _⟩ := hb j _ hB
        have e1 := Option.some.inj (envL_inv hq).1
        rw [← e1] at ho
        exact (ownD_glob h k).1 ho
end Go.Proofs.YtcnimekhpnejlaaGreat.Ev

/- The statements of files: what was put in and is taken out again. -/
namespace Go.Proofs.YtcnimekhpnejlaaGreat.Ev
open Go Go.RowKit
set_option linter.unusedVariables false
set_option linter.unusedSimpArgs false
set_option maxRecDepth 10000
theorem shf_ev0 (ρ : Rho) : (evCall (ctx rules0 ρ shfP0) funT.get (sumS ρ shfP0) 100000 1000 7 [.a (.s (.xs (.va 2))), .a (.s (.xi .i64 (.va 1))), .a (.s (.xs (.va 3)))] globM 1).map (view [0]) = some shfR0 := by kernel_rfl
theorem shf_ev1 (ρ : Rho) : (evCall (ctx rules0 ρ shfP1) funT.get (sumS ρ shfP1) 100000 1000 7 [.a (.s (.xs (.va 2))), .a (.s (.xi .i64 (.va 1))), .a (.s (.xs (.va 3)))] globM 1).map (view [0]) = some shfR1 := by kernel_rfl
theorem shf_ev2 (ρ : Rho) : (evCall (ctx rules0 ρ shfP2) funT.get (sumS ρ shfP2) 100000 1000 7 [.a (.s (.xs (.va 2))), .a (.s (.xi .i64 (.va 1))), .a (.s (.xs (.va 3)))] globM 1).map (view [0]) = some shfR2 := by kernel_rfl
theorem shf_ev3 (ρ : Rho) : (evCall (ctx rules0 ρ shfP3) funT.get (sumS ρ shfP3) 100000 1000 7 [.a (.s (.xs (.va 2))), .a (.s (.xi .i64 (.va 1))), .a (.s (.xs (.va 3)))] globM 1).map (view [0]) = some shfR3 := by kernel_rfl
theorem shf_ev4 (ρ : Rho) : (evCall (ctx rules0 ρ shfP4) funT.get (sumS ρ shfP4) 100000 1000 7 [.a (.s (.xs (.va 2))), .a (.s (.xi .i64 (.va 1))), .a (.s (.xs (.va 3)))] globM 1).map (view [0]) = some shfR4 := by kernel_rfl
theorem shf_ev5 (ρ : Rho) : (evCall (ctx rules0 ρ shfP5) funT.get (sumS ρ shfP5) 100000 1000 7 [.a (.s (.xs (.va 2))), .a (.s (.xi .i64 (.va 1))), .a (.s (.xs (.va 3)))] globM 1).map (view [0]) = some shfR5 := by kernel_rfl
theorem shf_ev6 (ρ : Rho) : (evCall (ctx rules0 ρ shfP6) funT.get (sumS ρ shfP6) 100000 1000 7 [.a (.s (.xs (.va 2))), .a (.s (.xi .i64 (.va 1))), .a (.s (.xs (.va 3)))] globM 1).map (view [0]) = some shfR6 := by kernel_rfl
set_option maxHeartbeats 4000000 in
theorem shifts_true (n : Int) (hn : i64 n) (s t : ByteArray) (m : Int) (W : World) (hg : isGlob 0 m 0 W) : Calls Tryz.prog 7 #[.string s, .int .i64 n, .string t] W fun e w' => e = .returned (.bool true) ∧ Below W.heap.size W w' := by
  unfold i64 at hn
  have go : ∀ (pc : List (X × Bool)) (r : EV), Told (rhoI (ofL [.st (.ino S0), .i n, .s s, .s t, .z, .z, .z, .z, .z, .p (.i 0) (.i m)]) fun _ => undef) pc → (∀ ρ, (evCall (ctx rules0 ρ pc) funT.get (sumS ρ pc) 100000 1000 7 [.a (.s (.xs (.va 2))), .a (.s (.xi .i64 (.va 1))), .a (.s (.xs (.va 3)))] globM 1).map (view [0]) = some (r, [some (.abs (.va 9))])) →
      (∀ E u, E.ρ = (rhoI (ofL [.st (.ino S0), .i n, .s s, .s t, .z, .z, .z, .z, .z, .p (.i 0) (.i m)]) fun _ => undef) → r.rel E u → u = .bool true) → Calls Tryz.prog 7 #[.string s, .int .i64 n, .string t] W fun e w' => e = .returned (.bool true) ∧ Below W.heap.size W w' := fun pc r hpc hev hb =>
    glob_came hg rfl (call_at (rules0_ok _) hpc (sumS_ok hpc rfl) (hev _) (glob_open hg rfl) rfl (envL_fresh _ _) (vs := [.string s, .int .i64 n, .string t]) ⟨rfl, rfl, rfl, trivial⟩) hb
  obtain ⟨v, hv⟩ : ∃ v, v = ofL [.st (.ino S0), .i n, .s s, .s t, .z, .z, .z, .z, .z, .p (.i 0) (.i m)] := ⟨_, rfl⟩
  obtain ⟨o, ho⟩ : ∃ o : Nat → Value, o = fun _ => undef := ⟨_, rfl⟩
  rw [← hv, ← ho] at go
  have ls := ba_size s
  have lt := ba_size t
  have h0 : X.val (rhoI v o) (.va 0) = .st (.ino S0) := by rw [hv]; rfl
  have h1 : X.int (rhoI v o) (.va 1) = n := by rw [hv]; rfl
  have s2 : X.str (rhoI v o) (.va 2) = s := by rw [hv]; rfl
  have s3 : X.str (rhoI v o) (.va 3) = t := by rw [hv]; rfl
  have l2 : X.int (rhoI v o) (.len (.va 2)) = (s.size : Nat) := by rw [len_int, s2]
  have l3 : X.int (rhoI v o) (.len (.va 3)) = (t.size : Nat) := by rw [len_int, s3]
  have q71 : X.bool (rhoI v o) (.app 71 (.va 9)) = true := by rw [hv]; rfl
  have q68 : X.bool (rhoI v o) (.app 68 (.cons (.va 0) (.li 2))) = true := by
    rw [b68 h0, li_int]
    exact decide_eq_true ⟨by decide, by decide, rfl⟩
  have b902 := fun e => b902 (v := v) (o := o) (e := e)
  by_cases c1 : 20000 < s.size
  · exact go shfP0 _ (by simp only [shfP0, told_cons, told_nil, lt_true, lt_false, l2, l3, li_int, and_true]; omega) shf_ev0 fun E u _ h => h
  by_cases c2 : 20000 < t.size
  · exact go shfP1 _ (by simp only [shfP1, told_cons, told_nil, lt_true, lt_false, l2, l3, li_int, and_true]; omega) shf_ev1 fun E u _ h => h
  have x1 : X.int (rhoI v o) shfX1 = (s.size : Nat) + 1 := by
    unfold shfX1
    rw [add_int, l2, li_int, wrap_i (by omega) (by omega)]
  -- what was written
  obtain ⟨S1, e1, B1, K1⟩ : ∃ S1, X.val (rhoI v o) shfX0 = .st (.ino S1) ∧ (S1 2).bytes = s.data.toList ∧ (S1 2).kind = 1 := by
    refine ⟨_, v65 h0, ?_, ?_⟩
    · rw [li_int, updS_at, wrN_bytes, s2, li_int]
      exact writeB_nil _
    · rw [li_int, updS_at, wrN_kind]
      rfl
  have i0 : X.int (rhoI v o) (.app 52 (.cons shfX0 (.li 2))) = (s.size : Nat) := by rw [i52 e1, li_int, B1, ls]
  have k0 : X.int (rhoI v o) (.app 50 (.cons shfX0 (.li 2))) = 1 := by rw [i50 e1, li_int, K1]
  have q57 := b57 e1
  have q64 : X.bool (rhoI v o) (.app 64 (.cons (.li 0) (.va 2))) = true := by
    rw [b64, s2, li_int]
    exact decide_eq_true (by omega)
  by_cases c3 : n < 0
  · refine go shfP2 _ (by simp only [shfP2, told_cons, told_nil, lt_true, lt_false, eq_true, eq_false, l2, l3, li_int, and_true, true_and, i0, k0, h1, q57, q64, q68]; omega) shf_ev2 fun E u hE h => ?_
    have h : u = .bool (X.bool E.ρ (.eq (.app 52 (.cons shfX0 (.li 2))) (.len (.va 2)))) := h
    rw [h, hE, eq_true.2 (i0.trans l2.symm)]
  by_cases c4 : (s.size : Nat) < n
  · refine go shfP3 _ (by simp only [shfP3, told_cons, told_nil, lt_true, lt_false, eq_true, eq_false, l2, l3, li_int, and_true, true_and, i0, k0, h1, q57, q64, q68]; omega) shf_ev3 fun E u hE h => ?_
    have h : u = .bool (X.bool E.ρ (.eq (.app 52 (.cons shfX0 (.li 2))) (.len (.va 2)))) := h
    rw [h, hE, eq_true.2 (i0.trans l2.symm)]
  obtain ⟨a, rfl⟩ : ∃ a : Nat, n = a := ⟨n.toNat, by omega⟩
  have hsqT : X.bool (rhoI v o) (.seq (.va 3) (.ls ⟨#[]⟩)) = true ↔ t.size = 0 := by
    rw [seq_bool s3 rfl, decide_eq_true_eq, ← lt]
    exact ⟨fun e => by rw [e]; rfl, fun e => List.eq_nil_of_length_eq_zero e⟩
  have hsqF : X.bool (rhoI v o) (.seq (.va 3) (.ls ⟨#[]⟩)) = false ↔ t.size ≠ 0 := by
    rw [← Bool.not_eq_true, hsqT]
  have r2 : X.bool (rhoI v o) (.seq shfX2 (.va 2)) = true := by
    refine bool_ls ?_
    unfold shfX2
    rw [s66 e1, li_int, B1, li_int, x1, s2]
    refine (tl_eq ?_).trans (byt s)
    exact List.take_of_length_le (by first | omega | (simp; done) | (simp; omega))
  have x4 : X.int (rhoI v o) shfX4 = (s.size : Nat) := by
    unfold shfX4
    rw [sub_int, i0, li_int, wrap_i (by omega) (by omega)]
    omega
  have x5 : X.int (rhoI v o) shfX5 = 1048576 - (s.size : Nat) := by
    unfold shfX5
    rw [sub_int, i0, li_int, wrap_i (by omega) (by omega)]
  by_cases c5 : t.size = 0
  · have r3 : X.bool (rhoI v o) (.seq shfX3 (.va 3)) = true := by
      refine bool_ls ?_
      unfold shfX3
      rw [s66 e1, l3, s3, c5]
      refine (tl_eq ?_).trans (byt t)
      rw [List.eq_nil_of_length_eq_zero (lt.trans c5)]
      rfl
    by_cases c6 : (a : Int) < (s.size : Nat)
    · refine go shfP4 _ (by simp only [shfP4, told_cons, told_nil, lt_true, lt_false, eq_true, eq_false, l2, l3, li_int, and_true, true_and, i0, k0, h1, q57, q64, q68, x1, x4, x5, hsqT, hsqF, r2, r3, b902, decide_eq_true_eq]; omega) shf_ev4 fun E u _ h => h
    · refine go shfP5 _ (by simp only [shfP5, told_cons, told_nil, lt_true, lt_false, eq_true, eq_false, l2, l3, li_int, and_true, true_and, i0, k0, h1, q57, q64, q68, x1, x4, x5, hsqT, hsqF, r2, r3, b902, decide_eq_true_eq]; omega) shf_ev5 fun E u _ h => h
  have hal : a ≤ s.data.toList.length := by omega
  have x6 : X.str (rhoI v o) shfX6 = ⟨(rdB s.data.toList a s.data.toList.length).toArray⟩ := by
    unfold shfX6
    rw [s61 e1, li_int, B1, h1, i0, Int.toNat_natCast, Int.toNat_natCast, ls]
  have y6 : (X.str (rhoI v o) shfX6).size = s.size - a := by
    rw [x6]
    show (rdB s.data.toList a s.data.toList.length).toArray.size = _
    rw [List.size_toArray, rdB_length, ls]
  have xc : X.str (rhoI v o) (.cat (.va 3) shfX6) = ⟨(t.data.toList ++ rdB s.data.toList a s.data.toList.length).toArray⟩ := by
    rw [cat_str, s3, x6]
    apply ByteArray.ext
    simp
  have yc : (X.str (rhoI v o) (.cat (.va 3) shfX6)).size = t.size + (s.size - a) := by
    rw [xc]
    show (t.data.toList ++ rdB s.data.toList a s.data.toList.length).toArray.size = _
    rw [List.size_toArray, List.length_append, rdB_length, ls, lt]
  have qbig : X.bool (rhoI v o) (.big (.va 3) shfX6) = false := by
    show decide ((((X.str (rhoI v o) (.va 3)).size + (X.str (rhoI v o) shfX6).size : Nat) : Int) > IntKind.i64.max) = false
    rw [s3, y6]
    exact decide_eq_false (show ¬ ((t.size + (s.size - a) : Nat) : Int) > 9223372036854775807 by omega)
  have q64b : X.bool (rhoI v o) (.app 64 (.cons (.va 1) (.cat (.va 3) shfX6))) = true := by
    rw [b64, h1, yc]
    exact decide_eq_true (by omega)
  obtain ⟨S2, e7, B2, K2⟩ : ∃ S2, X.val (rhoI v o) shfX7 = .st (.ino S2) ∧ (S2 2).bytes = insB s.data.toList a t.data.toList ∧ (S2 2).kind = 1 := by
    refine ⟨_, v65 e1, ?_, ?_⟩
    · rw [li_int, updS_at, wrN_bytes, B1, h1, xc, Int.toNat_natCast]
      exact ins_write hal
    · rw [li_int, updS_at, wrN_kind]
      exact K1
  have il := ins_length (t := t.data.toList) hal
  have i7 : X.int (rhoI v o) (.app 52 (.cons shfX7 (.li 2))) = ((s.size + t.size : Nat) : Int) := by rw [i52 e7, li_int, B2, il, ls, lt]
  have k7 : X.int (rhoI v o) (.app 50 (.cons shfX7 (.li 2))) = 1 := by rw [i50 e7, li_int, K2]
  have q57b := b57 e7
  have x14 : X.str (rhoI v o) shfX14 = ⟨(insB s.data.toList a t.data.toList).toArray⟩ := by
    unfold shfX14
    rw [s61 e7, li_int, B2, li_int, i7, Int.toNat_natCast, ← ls, ← lt, ← il]
    exact tl_eq (rdB_all _)
  have y14 : X.int (rhoI v o) (.len shfX14) = ((s.size + t.size : Nat) : Int) := by
    rw [len_int, x14]
    show (((insB s.data.toList a t.data.toList).toArray.size : Nat) : Int) = _
    rw [List.size_toArray, il, ls, lt]
  obtain ⟨j, hj1, hj2, hj3⟩ := find_at (s := insB s.data.toList a t.data.toList) (t := t.data.toList) (a := a) (by omega) (ins_read hal)
  have x70 : X.int (rhoI v o) (.app 70 (.cons shfX14 (.va 3))) = (j : Int) := by rw [i70, x14, s3]; exact hj1
  have x15 : X.int (rhoI v o) shfX15 = (j : Int) := by
    unfold shfX15
    rw [add_int, x70, li_int, wrap_i (by omega) (by omega)]
    omega
  have r4 : X.bool (rhoI v o) (.seq (.app 66 (.cons shfX7 (.cons (.li 2) (.cons shfX15 (.len (.va 3)))))) (.va 3)) = true := by
    refine bool_ls ?_
    rw [s66 e7, li_int, B2, x15, l3, s3, Int.toNat_natCast, Int.toNat_natCast, ← lt]
    exact (tl_eq hj3).trans (byt t)
  have x8 : X.int (rhoI v o) shfX8 = ((s.size + t.size - a : Nat) : Int) := by
    unfold shfX8
    rw [sub_int, i7, h1, wrap_i (by omega) (by omega)]
    omega
  have xm : X.int (rhoI v o) (.mn (.len (.va 3)) shfX8) = (t.size : Nat) := by
    rw [mn_int, l3, x8, if_neg (by omega)]
  have x9 : X.int (rhoI v o) shfX9 = (s.size : Nat) := by
    unfold shfX9
    rw [sub_int, i7, xm, wrap_i (by omega) (by omega)]
    omega
  have x9b : X.int (rhoI v o) (.bin .sub .i64 (.app 52 (.cons shfX7 (.li 2))) (.li 0)) = ((s.size + t.size : Nat) : Int) := by
    rw [sub_int, i7, li_int, wrap_i (by omega) (by omega)]
    omega
  have x11 : X.int (rhoI v o) shfX11 = ((a + t.size : Nat) : Int) := by
    unfold shfX11
    rw [add_int, h1, xm, wrap_i (by omega) (by omega)]
    omega
  obtain ⟨S3, e10, B3, K3⟩ : ∃ S3, X.val (rhoI v o) shfX10 = .st (.ino S3) ∧ (S3 2).bytes = resizeB (insB s.data.toList a t.data.toList) s.data.toList.length ∧ (S3 2).kind = 1 := by
    refine ⟨_, v56 e7, ?_, ?_⟩
    · rw [li_int, updS_at, x9, Int.toNat_natCast, ls]
      show resizeB (S2 2).bytes s.size = _
      rw [B2]
    · rw [li_int, updS_at]
      exact K2
  have k10 : X.int (rhoI v o) (.app 50 (.cons shfX10 (.li 2))) = 1 := by rw [i50 e10, li_int, K3]
  have q57c := b57 e10
  have x12 : X.str (rhoI v o) shfX12 = ⟨(rdB (insB s.data.toList a t.data.toList) (a + t.data.toList.length) (s.data.toList.length + t.data.toList.length)).toArray⟩ := by
    unfold shfX12
    rw [s61 e7, li_int, B2, x11, i7, Int.toNat_natCast, Int.toNat_natCast, ls, lt]
  have y12 : (X.str (rhoI v o) shfX12).size = s.size - a := by
    rw [x12]
    show (rdB (insB s.data.toList a t.data.toList) (a + t.data.toList.length) (s.data.toList.length + t.data.toList.length)).toArray.size = _
    rw [List.size_toArray, rdB_length]
    omega
  have q62 : X.bool (rhoI v o) (.app 62 (.cons shfX10 (.cons (.li 2) (.cons (.va 1) shfX12)))) = true := by
    rw [b62 e10, h1, y12, li_int, B3, resizeB_length, ls]
    exact decide_eq_true (by omega)
  obtain ⟨S4, e13, B4, K4⟩ : ∃ S4, X.val (rhoI v o) shfX13 = .st (.ino S4) ∧ (S4 2).bytes = s.data.toList ∧ (S4 2).kind = 1 := by
    refine ⟨_, v60 e10, ?_, ?_⟩
    · rw [li_int, updS_at, layN_bytes, B3, h1, x12, Int.toNat_natCast]
      exact ins_back hal
    · rw [li_int, updS_at, layN_kind]
      exact K3
  have q57d := b57 e13
  have q68d : X.bool (rhoI v o) (.app 68 (.cons shfX13 (.li 2))) = true := by
    rw [b68 e13, li_int]
    exact decide_eq_true ⟨by decide, by decide, K4⟩
  have r5 : X.bool (rhoI v o) (.seq (.app 66 (.cons shfX13 (.cons (.li 2) (.cons (.li 0) shfX1)))) (.va 2)) = true := by
    refine bool_ls ?_
    rw [s66 e13, li_int, B4, li_int, x1, s2]
    refine (tl_eq ?_).trans (byt s)
    exact List.take_of_length_le (by first | omega | (simp; done) | (simp; omega))
  clear hj1 hj3 x14 x12 xc x6 B1 B2 B3 B4 hal il
  refine go shfP6 _ (by simp only [shfP6, told_cons, told_nil, lt_true, lt_false, eq_true, eq_false, l2, l3, li_int, and_true, true_and, i0, k0, h1, q57, q64, q68, x1, x5, hsqT, hsqF, b902, decide_eq_true_eq, q71, qbig, q64b, i7, k7, q57b, y14, x70, x15, r4, x9b, xm, x9, x11, k10, q57c, q62, q57d, q68d, r5]; omega) shf_ev6 fun E u _ h => h
end Go.Proofs.YtcnimekhpnejlaaGreat.Ev
