/- Texts of this seat joined into one: Shelf, G1, PxNameCheck, E2, PxSignetlaw13Awake, S0, B1, B2, B3, E3, PxWordTake16, PxWordTake32, QEnc, B4, E4. -/
import Derived.Shelf.Strings.Builder1
import Derived.Shelf.Strings.Builder2
import Derived.Shelf.Strings.Trim
import Derived.Shelf.Small.Utf8
import Derived.Shelf.Small.Strs
import Derived.Shelf.Small.Wraps
import Derived.Shelf.Strings.BuilderF
import Derived.Shelf.Strings.Search1
import Derived.Shelf.Strings.Prefix
import Derived.Shelf.Strings.Runes
import Derived.Shelf.Strings.IndexAny
import Derived.Shelf.Strings.AsciiSet
import Derived.Shelf.Strings.IndexAnyAll
import Derived.Shelf.Bits.Mul64
import Derived.Shelf.Strings.Repeat
import Derived.Shelf.Unicode.DecodeSlow
import Derived.Shelf.Unicode.DecodeAny
import Derived.Shelf.Unicode.DecodeLast
import Derived.Test.YtgciocgdppaaiaaDoorProg
import Derived.WalkKit
import Derived.Deep.LoopGhost
import Derived.Laws.RangeString
import Derived.Lib.OthersKept
import Derived.Deep.QuietTactic
import Derived.BigQuiet
import Derived.Outline
import Derived.Lib.DecodeN
import Derived.Lib.TrimU
import Derived.Lib.Hide
import Derived.Lib.FieldsU
import Derived.Test.YtgciocgdppaaiaaDoorVNameLeaves0
import Derived.Test.YtgciocgdppaaiaaDoorVNameLeaves3
import Derived.Deep.RegionHeld3
import Derived.RegionTactic
import Derived.ChangeAlike
import Derived.Laws.BytesArg
import Derived.Deep.DeepCutAuto
import Derived.Deep.MidRow
import Derived.Lib.BufferWrite
import Derived.Laws.CopyOwn
import Derived.Lib.ConvBytes
import Derived.Laws.AppendOwn

/-
  DERIVED: THE SHELF's CONTRACTS AT THIS DUMP, IN PLAIN WORDS (tools/lay-plain.mjs out of 'YtgciocgdppaaiaaDoorShelf.lean', which tools/lay-shelf.mjs wrote): THE SAME DECLARATIONS UNDER THE SAME NAMES: 'import', 'namespace', 'open', 'def', 'theorem' AND NOTHING ELSE: no command of the shelf's: FOR A HAND-IN. Each laying: the table of numbers ('.._ren') and one theorem, a field a fact of the dump's own or the kernel's comparison; each contract: ONE APPLICATION.
-/
namespace Go.Proofs
open Go.Shelf
def Tryd.lays170_ren : Go.Shelf.Ren := ⟨fun | 170 => 61 | n => n, fun | 70 => 97 | 3 => 3 | 0 => 0 | 72 => 99 | 37 => 70 | 5 => 5 | n => n, fun | n => n⟩
theorem Tryd.lays170 : Go.Proofs.Lays.n170 Tryd.prog Tryd.lays170_ren := {
  mixed := by kernel_rfl
  f170 := Tryd.func61.trans (congrArg some (by kernel_rfl))
  t0 := Tryd.underlying0
  a0 := Tryd.isAgg0
  z0 := Tryd.sizeOf0
  v0 := Tryd.zeroValue0
  t3 := Tryd.underlying3
  a3 := Tryd.isAgg3
  z3 := Tryd.sizeOf3
  v3 := Tryd.zeroValue3
  t37 := Tryd.underlying70
  a37 := Tryd.isAgg70
  z37 := Tryd.sizeOf70
  v37 := Tryd.zeroValue70
  t70 := Tryd.underlying97
  a70 := Tryd.isAgg97
  z70 := Tryd.sizeOf97
  v70 := Tryd.zeroValue97
  t72 := Tryd.underlying99
  a72 := Tryd.isAgg99
  z72 := Tryd.sizeOf99
  v72 := Tryd.zeroValue99 }
open Go.RowKit in
/-- (*strings.Builder).Len: "Len returns the number of accumulated bytes; b.Len() == len(b.String()).": the world is as it was. (LAID: no walk: one application.) -/
theorem Tryd.Builder_Len (B b : Nat) (bs : List Value) (w : World) (h : Lib.IsBuilder 99 5 B b bs w) :
    Calls Tryd.prog 61 #[.pointer (some ⟨b, 0, none⟩)] w fun e w' => e = .returned (.int .i64 bs.length) ∧ w' = w := Any.Builder_Len Tryd.lays170 B b bs w h
def Tryd.lays169_ren : Go.Shelf.Ren := ⟨fun | 169 => 62 | n => n, fun | 70 => 97 | 9 => 9 | 0 => 0 | 72 => 99 | 37 => 70 | 127 => 116 | 3 => 3 | 5 => 5 | n => n, fun | n => n⟩
theorem Tryd.lays169 : Go.Proofs.Lays.n169 Tryd.prog Tryd.lays169_ren := {
  mixed := by kernel_rfl
  f169 := Tryd.func62.trans (congrArg some (by kernel_rfl))
  t0 := Tryd.underlying0
  a0 := Tryd.isAgg0
  z0 := Tryd.sizeOf0
  v0 := Tryd.zeroValue0
  t3 := Tryd.underlying3
  a3 := Tryd.isAgg3
  z3 := Tryd.sizeOf3
  v3 := Tryd.zeroValue3
  t9 := Tryd.underlying9
  a9 := Tryd.isAgg9
  z9 := Tryd.sizeOf9
  v9 := Tryd.zeroValue9
  t37 := Tryd.underlying70
  a37 := Tryd.isAgg70
  z37 := Tryd.sizeOf70
  v37 := Tryd.zeroValue70
  t70 := Tryd.underlying97
  a70 := Tryd.isAgg97
  z70 := Tryd.sizeOf97
  v70 := Tryd.zeroValue97
  t72 := Tryd.underlying99
  a72 := Tryd.isAgg99
  z72 := Tryd.sizeOf99
  v72 := Tryd.zeroValue99
  t127 := Tryd.underlying116
  a127 := Tryd.isAgg116
  z127 := Tryd.sizeOf116
  v127 := Tryd.zeroValue116 }
theorem Tryd.Builder_Extra_169 : Builder.Extra Tryd.prog Tryd.lays169_ren := {
  sizeBuilder := by kernel_rfl
  liesBuilder := by kernel_rfl
  t5 := Tryd.underlying5
  a5 := Tryd.isAgg5
  z5 := Tryd.sizeOf5
  v5 := Tryd.zeroValue5
  infoByte := by kernel_rfl
  cellsByte := by kernel_rfl
  sizeByte := by kernel_rfl
  neB5 := by decide }
open Go.RowKit in
/-- (*strings.Builder).String: "String returns the accumulated string.": OF A BUILDER THAT HOLDS AT LEAST ONE BYTE. ✋ THE MODEL FREEZES THOSE BYTES IN THE BUFFER (unsafe.String): a later write INTO them ends the model's run without an answer; a later append BEHIND them goes on. The statement's order of evaluation is drawn: one draw. (LAID: no walk: one application.) -/
theorem Tryd.Builder_String (B b : Nat) (l : List UInt8) (w : World) (h : Lib.IsBuilder 99 5 B b (Lib.byteCells l) w) (h0 : l ≠ []) :
    Calls Tryd.prog 62 #[.pointer (some ⟨b, 0, none⟩)] w fun e w' => e = .returned (.string ⟨l.toArray⟩) ∧ Below B w w' := Any.Builder_String Tryd.lays169 Tryd.Builder_Extra_169 B b l w h h0
open Go.RowKit in
/-- (*strings.Builder).String OF A BUILDER THAT HOLDS NO BYTE: the empty string. (Its buffer is nil, or a row of which it has taken nothing yet; where that row has NO capacity the model lays one new block for unsafe.SliceData's 'some address'.) One draw. (LAID: no walk: one application.) -/
theorem Tryd.Builder_String_empty (B b : Nat) (w : World) (h : Lib.IsBuilder 99 5 B b [] w) (hBw : B ≤ w.heap.size) :
    Calls Tryd.prog 62 #[.pointer (some ⟨b, 0, none⟩)] w fun e w' => e = .returned (.string ⟨#[]⟩) ∧ Below B w w' := Any.Builder_String_empty Tryd.lays169 Tryd.Builder_Extra_169 B b w h hBw
open Go.RowKit in
/-- (*strings.Builder).String: "String returns the accumulated string.": WHATEVER THE BUILDER HOLDS. (LAID: no walk: one application.) -/
theorem Tryd.Builder_String_any (B b : Nat) (l : List UInt8) (w : World) (h : Lib.IsBuilder 99 5 B b (Lib.byteCells l) w) (hBw : B ≤ w.heap.size) :
    Calls Tryd.prog 62 #[.pointer (some ⟨b, 0, none⟩)] w fun e w' => e = .returned (.string ⟨l.toArray⟩) ∧ Below B w w' := Any.Builder_String_any Tryd.lays169 Tryd.Builder_Extra_169 B b l w h hBw
def Tryd.lays241_ren : Go.Shelf.Ren := ⟨fun | 241 => 76 | 277 => 84 | n => n, fun | 70 => 97 | 3 => 3 | 0 => 0 | 72 => 99 | 37 => 70 | 5 => 5 | n => n, fun | n => n⟩
theorem Tryd.lays241 : Go.Proofs.Lays.n241 Tryd.prog Tryd.lays241_ren := {
  mixed := by kernel_rfl
  f241 := Tryd.func76.trans (congrArg some (by kernel_rfl))
  f277 := Tryd.func84.trans (congrArg some (by kernel_rfl))
  t0 := Tryd.underlying0
  a0 := Tryd.isAgg0
  z0 := Tryd.sizeOf0
  v0 := Tryd.zeroValue0
  t3 := Tryd.underlying3
  a3 := Tryd.isAgg3
  z3 := Tryd.sizeOf3
  v3 := Tryd.zeroValue3
  t37 := Tryd.underlying70
  a37 := Tryd.isAgg70
  z37 := Tryd.sizeOf70
  v37 := Tryd.zeroValue70
  t70 := Tryd.underlying97
  a70 := Tryd.isAgg97
  z70 := Tryd.sizeOf97
  v70 := Tryd.zeroValue97
  t72 := Tryd.underlying99
  a72 := Tryd.isAgg99
  z72 := Tryd.sizeOf99
  v72 := Tryd.zeroValue99 }
theorem Tryd.Builder_Extra_241 : Builder.Extra Tryd.prog Tryd.lays241_ren := {
  sizeBuilder := by kernel_rfl
  liesBuilder := by kernel_rfl
  t5 := Tryd.underlying5
  a5 := Tryd.isAgg5
  z5 := Tryd.sizeOf5
  v5 := Tryd.zeroValue5
  infoByte := by kernel_rfl
  cellsByte := by kernel_rfl
  sizeByte := by kernel_rfl
  neB5 := by decide }
open Go.RowKit in
/-- (*strings.Builder).grow (no doc but "grow copies the buffer to a new, larger buffer so that there are at least n bytes of capacity beyond len(b.buf)."): AT A BUILDER WITHOUT A BUFFER: a new row of whatever bytes for its buffer, none of them its own yet. Three draws. (LAID: no walk: one application.) -/
theorem Tryd.Builder_grow_fresh (B b n : Nat) (w : World) (hB : B ≤ b) (hbk : w.heap[b]? = some (.cells #[.pointer (some ⟨b, 0, none⟩), .slice none 0 0] 99 (0, 0))) (hBw : B ≤ w.heap.size) (hn : n ≤ 281474976710656) :
    Calls Tryd.prog 76 #[.pointer (some ⟨b, 0, none⟩), .int .i64 n] w fun e w' => e = .returned (.tuple #[]) ∧ (Lib.BuilderAt 99 5 B b (.pointer (some ⟨b, 0, none⟩)) [] w' ∧ Below B w w') := Any.Builder_grow_fresh Tryd.lays241 Tryd.Builder_Extra_241 B b n w hB hbk hBw hn
def Tryd.lays165_ren : Go.Shelf.Ren := ⟨fun | 165 => 59 | 240 => 75 | 241 => 76 | 276 => 83 | 277 => 84 | n => n, fun | 70 => 97 | 3 => 3 | 0 => 0 | 4 => 4 | 9 => 9 | 20 => 20 | 72 => 99 | 37 => 70 | 164 => 118 | 5 => 5 | n => n, fun | n => n⟩
theorem Tryd.lays165 : Go.Proofs.Lays.n165 Tryd.prog Tryd.lays165_ren := {
  mixed := by kernel_rfl
  f165 := Tryd.func59.trans (congrArg some (by kernel_rfl))
  f240 := Tryd.func75.trans (congrArg some (by kernel_rfl))
  f241 := Tryd.func76.trans (congrArg some (by kernel_rfl))
  f276 := Tryd.func83.trans (congrArg some (by kernel_rfl))
  f277 := Tryd.func84.trans (congrArg some (by kernel_rfl))
  t0 := Tryd.underlying0
  a0 := Tryd.isAgg0
  z0 := Tryd.sizeOf0
  v0 := Tryd.zeroValue0
  t3 := Tryd.underlying3
  a3 := Tryd.isAgg3
  z3 := Tryd.sizeOf3
  v3 := Tryd.zeroValue3
  t4 := Tryd.underlying4
  a4 := Tryd.isAgg4
  z4 := Tryd.sizeOf4
  v4 := Tryd.zeroValue4
  t9 := Tryd.underlying9
  a9 := Tryd.isAgg9
  z9 := Tryd.sizeOf9
  v9 := Tryd.zeroValue9
  t20 := Tryd.underlying20
  a20 := Tryd.isAgg20
  z20 := Tryd.sizeOf20
  v20 := Tryd.zeroValue20
  t37 := Tryd.underlying70
  a37 := Tryd.isAgg70
  z37 := Tryd.sizeOf70
  v37 := Tryd.zeroValue70
  t70 := Tryd.underlying97
  a70 := Tryd.isAgg97
  z70 := Tryd.sizeOf97
  v70 := Tryd.zeroValue97
  t72 := Tryd.underlying99
  a72 := Tryd.isAgg99
  z72 := Tryd.sizeOf99
  v72 := Tryd.zeroValue99
  t164 := Tryd.underlying118
  a164 := Tryd.isAgg118
  z164 := Tryd.sizeOf118
  v164 := Tryd.zeroValue118 }
theorem Tryd.Builder_Extra_165 : Builder.Extra Tryd.prog Tryd.lays165_ren := {
  sizeBuilder := by kernel_rfl
  liesBuilder := by kernel_rfl
  t5 := Tryd.underlying5
  a5 := Tryd.isAgg5
  z5 := Tryd.sizeOf5
  v5 := Tryd.zeroValue5
  infoByte := by kernel_rfl
  cellsByte := by kernel_rfl
  sizeByte := by kernel_rfl
  neB5 := by decide }
open Go.RowKit in
/-- (*strings.Builder).Grow AT A BUILDER THAT HAS NOT BEEN WRITTEN ('var b strings.Builder; b.Grow(n)'): "Grow grows b's capacity, if necessary, to guarantee space for another n bytes.": it holds no byte behind it as before it. (LAID: no walk: one application.) -/
theorem Tryd.Builder_Grow_fresh (B b n : Nat) (w : World) (hB : B ≤ b) (hbk : w.heap[b]? = some (.cells #[.pointer none, .slice none 0 0] 99 (0, 0))) (hBw : B ≤ w.heap.size) (hn : n ≤ 281474976710656) :
    Calls Tryd.prog 59 #[.pointer (some ⟨b, 0, none⟩), .int .i64 n] w fun e w' => e = .returned (.tuple #[]) ∧ (Lib.BuilderAt 99 5 B b (.pointer (some ⟨b, 0, none⟩)) [] w' ∧ Below B w w') := Any.Builder_Grow_fresh Tryd.lays165 Tryd.Builder_Extra_165 B b n w hB hbk hBw hn
def Tryd.lays231_ren : Go.Shelf.Ren := ⟨fun | 231 => 49 | n => n, fun | 9 => 9 | 5 => 5 | 3 => 3 | 4 => 4 | n => n, fun | n => n⟩
theorem Tryd.lays231 : Go.Proofs.Lays.n231 Tryd.prog Tryd.lays231_ren := {
  mixed := by kernel_rfl
  f231 := Tryd.func49.trans (congrArg some (by kernel_rfl))
  t3 := Tryd.underlying3
  a3 := Tryd.isAgg3
  z3 := Tryd.sizeOf3
  v3 := Tryd.zeroValue3
  t4 := Tryd.underlying4
  a4 := Tryd.isAgg4
  z4 := Tryd.sizeOf4
  v4 := Tryd.zeroValue4
  t5 := Tryd.underlying5
  a5 := Tryd.isAgg5
  z5 := Tryd.sizeOf5
  v5 := Tryd.zeroValue5
  t9 := Tryd.underlying9
  a9 := Tryd.isAgg9
  z9 := Tryd.sizeOf9
  v9 := Tryd.zeroValue9 }
open Go.RowKit in
/-- strings.trimLeftByte (no doc; what TrimLeft and Trim call at a cutset of one ASCII byte): the leading bytes that are c are cut off. The world is as it was. (LAID: no walk: one application.) -/
theorem Tryd.strings_trimLeftByte (s : ByteArray) (c : UInt8) (w : World) :
    Calls Tryd.prog 49 #[.string s, .int .u8 c.toNat] w fun e w' => e = .returned (.string ⟨(Lib.trimLeftB s.data.toList c).toArray⟩) ∧ w' = w := Any.strings_trimLeftByte Tryd.lays231 s c w
def Tryd.lays232_ren : Go.Shelf.Ren := ⟨fun | 232 => 50 | n => n, fun | 9 => 9 | 5 => 5 | 3 => 3 | 4 => 4 | n => n, fun | n => n⟩
theorem Tryd.lays232 : Go.Proofs.Lays.n232 Tryd.prog Tryd.lays232_ren := {
  mixed := by kernel_rfl
  f232 := Tryd.func50.trans (congrArg some (by kernel_rfl))
  t3 := Tryd.underlying3
  a3 := Tryd.isAgg3
  z3 := Tryd.sizeOf3
  v3 := Tryd.zeroValue3
  t4 := Tryd.underlying4
  a4 := Tryd.isAgg4
  z4 := Tryd.sizeOf4
  v4 := Tryd.zeroValue4
  t5 := Tryd.underlying5
  a5 := Tryd.isAgg5
  z5 := Tryd.sizeOf5
  v5 := Tryd.zeroValue5
  t9 := Tryd.underlying9
  a9 := Tryd.isAgg9
  z9 := Tryd.sizeOf9
  v9 := Tryd.zeroValue9 }
open Go.RowKit in
/-- strings.trimRightByte (no doc; what TrimRight and Trim call at a cutset of one ASCII byte): the trailing bytes that are c are cut off. The world is as it was. ('hs': a string's length is a number that an int holds.) (LAID: no walk: one application.) -/
theorem Tryd.strings_trimRightByte (s : ByteArray) (c : UInt8) (w : World) (hs : s.size ≤ 9223372036854775807) :
    Calls Tryd.prog 50 #[.string s, .int .u8 c.toNat] w fun e w' => e = .returned (.string ⟨(Lib.trimRightB s.data.toList c).toArray⟩) ∧ w' = w := Any.strings_trimRightByte Tryd.lays232 s c w hs
def Tryd.lays161_ren : Go.Shelf.Ren := ⟨fun | 161 => 45 | 231 => 49 | 227 => 51 | 233 => 52 | 235 => 54 | 228 => 68 | 197 => 69 | 151 => 70 | 260 => 81 | 152 => 79 | 137 => 85 | 119 => 86 | 224 => 87 | 225 => 88 | 217 => 89 | 266 => 90 | n => n, fun | 9 => 9 | 4 => 4 | 3 => 3 | 5 => 5 | 117 => 89 | 116 => 88 | 0 => 0 | 124 => 92 | 105 => 109 | 21 => 21 | 119 => 42 | 46 => 94 | 139 => 126 | 138 => 125 | n => n, fun | 3 => 1 | 4 => 2 | n => n⟩
theorem Tryd.lays161 : Go.Proofs.Lays.n161 Tryd.prog Tryd.lays161_ren := {
  mixed := by kernel_rfl
  f119 := Tryd.func86.trans (congrArg some (by kernel_rfl))
  f137 := Tryd.func85.trans (congrArg some (by kernel_rfl))
  f151 := Tryd.func70.trans (congrArg some (by kernel_rfl))
  f152 := Tryd.func79.trans (congrArg some (by kernel_rfl))
  f161 := Tryd.func45.trans (congrArg some (by kernel_rfl))
  f197 := Tryd.func69.trans (congrArg some (by kernel_rfl))
  f217 := Tryd.func89.trans (congrArg some (by kernel_rfl))
  f224 := Tryd.func87.trans (congrArg some (by kernel_rfl))
  f225 := Tryd.func88.trans (congrArg some (by kernel_rfl))
  f227 := Tryd.func51.trans (congrArg some (by kernel_rfl))
  f228 := Tryd.func68.trans (congrArg some (by kernel_rfl))
  f231 := Tryd.func49.trans (congrArg some (by kernel_rfl))
  f233 := Tryd.func52.trans (congrArg some (by kernel_rfl))
  f235 := Tryd.func54.trans (congrArg some (by kernel_rfl))
  f260 := Tryd.func81.trans (congrArg some (by kernel_rfl))
  f266 := Tryd.func90.trans (congrArg some (by kernel_rfl))
  t0 := Tryd.underlying0
  a0 := Tryd.isAgg0
  z0 := Tryd.sizeOf0
  v0 := Tryd.zeroValue0
  t3 := Tryd.underlying3
  a3 := Tryd.isAgg3
  z3 := Tryd.sizeOf3
  v3 := Tryd.zeroValue3
  t4 := Tryd.underlying4
  a4 := Tryd.isAgg4
  z4 := Tryd.sizeOf4
  v4 := Tryd.zeroValue4
  t5 := Tryd.underlying5
  a5 := Tryd.isAgg5
  z5 := Tryd.sizeOf5
  v5 := Tryd.zeroValue5
  t9 := Tryd.underlying9
  a9 := Tryd.isAgg9
  z9 := Tryd.sizeOf9
  v9 := Tryd.zeroValue9
  t21 := Tryd.underlying21
  a21 := Tryd.isAgg21
  z21 := Tryd.sizeOf21
  v21 := Tryd.zeroValue21
  t46 := Tryd.underlying94
  a46 := Tryd.isAgg94
  z46 := Tryd.sizeOf94
  v46 := Tryd.zeroValue94
  t105 := Tryd.underlying109
  a105 := Tryd.isAgg109
  z105 := Tryd.sizeOf109
  v105 := Tryd.zeroValue109
  t116 := Tryd.underlying88
  a116 := Tryd.isAgg88
  z116 := Tryd.sizeOf88
  t117 := Tryd.underlying89
  a117 := Tryd.isAgg89
  z117 := Tryd.sizeOf89
  v117 := Tryd.zeroValue89
  t119 := Tryd.underlying42
  a119 := Tryd.isAgg42
  z119 := Tryd.sizeOf42
  t124 := Tryd.underlying92
  a124 := Tryd.isAgg92
  z124 := Tryd.sizeOf92
  v124 := Tryd.zeroValue92
  t138 := Tryd.underlying125
  a138 := Tryd.isAgg125
  z138 := Tryd.sizeOf125
  v138 := Tryd.zeroValue125
  t139 := Tryd.underlying126
  a139 := Tryd.isAgg126
  z139 := Tryd.sizeOf126
  v139 := Tryd.zeroValue126
  g3 := by kernel_rfl
  g4 := by kernel_rfl }
open Go.RowKit in
/-- strings.TrimLeft: "TrimLeft returns a slice of the string s with all leading Unicode code points contained in cutset removed.": AT A cutset OF ONE ASCII BYTE. The world is as it was. (LAID: no walk: one application.) -/
theorem Tryd.strings_TrimLeft_one (s : ByteArray) (c : UInt8) (hc : c.toNat < 128) (w : World) :
    Calls Tryd.prog 45 #[.string s, .string ⟨#[c]⟩] w fun e w' => e = .returned (.string ⟨(Lib.trimLeftB s.data.toList c).toArray⟩) ∧ w' = w := Any.strings_TrimLeft_one Tryd.lays161 s c hc w
def Tryd.lays160_ren : Go.Shelf.Ren := ⟨fun | 160 => 33 | 232 => 50 | 231 => 49 | 227 => 51 | 234 => 53 | 233 => 52 | 236 => 55 | 235 => 54 | 228 => 68 | 271 => 71 | 151 => 70 | 197 => 69 | 120 => 82 | 152 => 79 | 260 => 81 | 137 => 85 | 119 => 86 | 224 => 87 | 225 => 88 | 217 => 89 | 266 => 90 | n => n, fun | 9 => 9 | 4 => 4 | 3 => 3 | 5 => 5 | 117 => 89 | 116 => 88 | 0 => 0 | 124 => 92 | 21 => 21 | 105 => 109 | 46 => 94 | 119 => 42 | 139 => 126 | 138 => 125 | n => n, fun | 3 => 1 | 4 => 2 | n => n⟩
theorem Tryd.lays160 : Go.Proofs.Lays.n160 Tryd.prog Tryd.lays160_ren := {
  mixed := by kernel_rfl
  f119 := Tryd.func86.trans (congrArg some (by kernel_rfl))
  f120 := Tryd.func82.trans (congrArg some (by kernel_rfl))
  f137 := Tryd.func85.trans (congrArg some (by kernel_rfl))
  f151 := Tryd.func70.trans (congrArg some (by kernel_rfl))
  f152 := Tryd.func79.trans (congrArg some (by kernel_rfl))
  f160 := Tryd.func33.trans (congrArg some (by kernel_rfl))
  f197 := Tryd.func69.trans (congrArg some (by kernel_rfl))
  f217 := Tryd.func89.trans (congrArg some (by kernel_rfl))
  f224 := Tryd.func87.trans (congrArg some (by kernel_rfl))
  f225 := Tryd.func88.trans (congrArg some (by kernel_rfl))
  f227 := Tryd.func51.trans (congrArg some (by kernel_rfl))
  f228 := Tryd.func68.trans (congrArg some (by kernel_rfl))
  f231 := Tryd.func49.trans (congrArg some (by kernel_rfl))
  f232 := Tryd.func50.trans (congrArg some (by kernel_rfl))
  f233 := Tryd.func52.trans (congrArg some (by kernel_rfl))
  f234 := Tryd.func53.trans (congrArg some (by kernel_rfl))
  f235 := Tryd.func54.trans (congrArg some (by kernel_rfl))
  f236 := Tryd.func55.trans (congrArg some (by kernel_rfl))
  f260 := Tryd.func81.trans (congrArg some (by kernel_rfl))
  f266 := Tryd.func90.trans (congrArg some (by kernel_rfl))
  f271 := Tryd.func71.trans (congrArg some (by kernel_rfl))
  t0 := Tryd.underlying0
  a0 := Tryd.isAgg0
  z0 := Tryd.sizeOf0
  v0 := Tryd.zeroValue0
  t3 := Tryd.underlying3
  a3 := Tryd.isAgg3
  z3 := Tryd.sizeOf3
  v3 := Tryd.zeroValue3
  t4 := Tryd.underlying4
  a4 := Tryd.isAgg4
  z4 := Tryd.sizeOf4
  v4 := Tryd.zeroValue4
  t5 := Tryd.underlying5
  a5 := Tryd.isAgg5
  z5 := Tryd.sizeOf5
  v5 := Tryd.zeroValue5
  t9 := Tryd.underlying9
  a9 := Tryd.isAgg9
  z9 := Tryd.sizeOf9
  v9 := Tryd.zeroValue9
  t21 := Tryd.underlying21
  a21 := Tryd.isAgg21
  z21 := Tryd.sizeOf21
  v21 := Tryd.zeroValue21
  t46 := Tryd.underlying94
  a46 := Tryd.isAgg94
  z46 := Tryd.sizeOf94
  v46 := Tryd.zeroValue94
  t105 := Tryd.underlying109
  a105 := Tryd.isAgg109
  z105 := Tryd.sizeOf109
  v105 := Tryd.zeroValue109
  t116 := Tryd.underlying88
  a116 := Tryd.isAgg88
  z116 := Tryd.sizeOf88
  t117 := Tryd.underlying89
  a117 := Tryd.isAgg89
  z117 := Tryd.sizeOf89
  v117 := Tryd.zeroValue89
  t119 := Tryd.underlying42
  a119 := Tryd.isAgg42
  z119 := Tryd.sizeOf42
  t124 := Tryd.underlying92
  a124 := Tryd.isAgg92
  z124 := Tryd.sizeOf92
  v124 := Tryd.zeroValue92
  t138 := Tryd.underlying125
  a138 := Tryd.isAgg125
  z138 := Tryd.sizeOf125
  v138 := Tryd.zeroValue125
  t139 := Tryd.underlying126
  a139 := Tryd.isAgg126
  z139 := Tryd.sizeOf126
  v139 := Tryd.zeroValue126
  g3 := by kernel_rfl
  g4 := by kernel_rfl }
open Go.RowKit in
/-- strings.Trim: "Trim returns a slice of the string s with all leading and trailing Unicode code points contained in cutset removed.": AT A cutset OF ONE ASCII BYTE. THE WORLD BEHIND IT: as it was, or (where s is not empty) with ONE DRAW MORE off the tape: the statement 'return trimLeftByte(trimRightByte(s, c), c)' draws its order of evaluation. (LAID: no walk: one application.) -/
theorem Tryd.strings_Trim_one (s : ByteArray) (c : UInt8) (hc : c.toNat < 128) (w : World) (hs : s.size ≤ 9223372036854775807) :
    Calls Tryd.prog 33 #[.string s, .string ⟨#[c]⟩] w fun e w' => e = .returned (.string ⟨(Lib.trimB s.data.toList c).toArray⟩) ∧ (w' = w ∨ w' = w.drew) := Any.strings_Trim_one Tryd.lays160 s c hc w hs
def Tryd.lays119_ren : Go.Shelf.Ren := ⟨fun | 119 => 86 | n => n, fun | 21 => 21 | 4 => 4 | n => n, fun | n => n⟩
theorem Tryd.lays119 : Go.Proofs.Lays.n119 Tryd.prog Tryd.lays119_ren := {
  mixed := by kernel_rfl
  f119 := Tryd.func86.trans (congrArg some (by kernel_rfl))
  t4 := Tryd.underlying4
  a4 := Tryd.isAgg4
  z4 := Tryd.sizeOf4
  v4 := Tryd.zeroValue4
  t21 := Tryd.underlying21
  a21 := Tryd.isAgg21
  z21 := Tryd.sizeOf21
  v21 := Tryd.zeroValue21 }
/-- utf8.ValidRune: "ValidRune reports whether r can be legally encoded as UTF-8. Code points that are out of range or a surrogate half are illegal.": IT RETURNS 'Lib.validRune r'; the world is as it was. (LAID: no walk: one application.) -/
theorem Tryd.utf8_ValidRune (r : Int) (w : World) :
    Calls Tryd.prog 86 #[.int .i32 r] w fun e w' => e = .returned (.bool (Lib.validRune r)) ∧ w' = w := Any.utf8_ValidRune Tryd.lays119 r w
def Tryd.lays120_ren : Go.Shelf.Ren := ⟨fun | 120 => 82 | n => n, fun | 5 => 5 | 4 => 4 | n => n, fun | n => n⟩
theorem Tryd.lays120 : Go.Proofs.Lays.n120 Tryd.prog Tryd.lays120_ren := {
  mixed := by kernel_rfl
  f120 := Tryd.func82.trans (congrArg some (by kernel_rfl))
  t4 := Tryd.underlying4
  a4 := Tryd.isAgg4
  z4 := Tryd.sizeOf4
  v4 := Tryd.zeroValue4
  t5 := Tryd.underlying5
  a5 := Tryd.isAgg5
  z5 := Tryd.sizeOf5
  v5 := Tryd.zeroValue5 }
/-- utf8.RuneStart: "RuneStart reports whether the byte could be the first byte of an encoded, possibly invalid rune. Second and subsequent bytes always have the top two bits set to 10.": IT RETURNS 'Lib.runeStart b'; the world is as it was. ('h0', 'h1': b is a byte: a caller has it of every byte that it was handed.) (LAID: no walk: one application.) -/
theorem Tryd.utf8_RuneStart (b : Int) (w : World) (h0 : 0 ≤ b) (h1 : b < 256) :
    Calls Tryd.prog 82 #[.int .u8 b] w fun e w' => e = .returned (.bool (Lib.runeStart b)) ∧ w' = w := Any.utf8_RuneStart Tryd.lays120 b w h0 h1
def Tryd.lays213_ren : Go.Shelf.Ren := ⟨fun | 213 => 66 | 265 => 78 | n => n, fun | 9 => 9 | 3 => 3 | n => n, fun | n => n⟩
theorem Tryd.lays213 : Go.Proofs.Lays.n213 Tryd.prog Tryd.lays213_ren := {
  mixed := by kernel_rfl
  f213 := Tryd.func66.trans (congrArg some (by kernel_rfl))
  f265 := Tryd.func78.trans (congrArg some (by kernel_rfl))
  t3 := Tryd.underlying3
  a3 := Tryd.isAgg3
  z3 := Tryd.sizeOf3
  v3 := Tryd.zeroValue3
  t9 := Tryd.underlying9
  a9 := Tryd.isAgg9
  z9 := Tryd.sizeOf9
  v9 := Tryd.zeroValue9 }
open Go.RowKit in
/-- internal/bytealg.CompareString (what strings.Compare calls): IT RETURNS 'Lib.compareBytes a b'; the world is as it was. (LAID: no walk: one application.) -/
theorem Tryd.bytealg_CompareString (a b : ByteArray) (w : World) :
    Calls Tryd.prog 66 #[.string a, .string b] w fun e w' => e = .returned (.int .i64 (Lib.compareBytes a.data.toList b.data.toList)) ∧ w' = w := Any.bytealg_CompareString Tryd.lays213 a b w
def Tryd.lays106_ren : Go.Shelf.Ren := ⟨fun | 106 => 46 | 213 => 66 | 265 => 78 | n => n, fun | 9 => 9 | 3 => 3 | n => n, fun | n => n⟩
theorem Tryd.lays106 : Go.Proofs.Lays.n106 Tryd.prog Tryd.lays106_ren := {
  mixed := by kernel_rfl
  f106 := Tryd.func46.trans (congrArg some (by kernel_rfl))
  f213 := Tryd.func66.trans (congrArg some (by kernel_rfl))
  f265 := Tryd.func78.trans (congrArg some (by kernel_rfl))
  t3 := Tryd.underlying3
  a3 := Tryd.isAgg3
  z3 := Tryd.sizeOf3
  v3 := Tryd.zeroValue3
  t9 := Tryd.underlying9
  a9 := Tryd.isAgg9
  z9 := Tryd.sizeOf9
  v9 := Tryd.zeroValue9 }
open Go.RowKit in
/-- strings.Compare: "Compare returns an integer comparing two strings lexicographically. The result will be 0 if a == b, -1 if a < b, and +1 if a > b.": IT RETURNS 'Lib.compareBytes a b'; the world is as it was. (LAID: no walk: one application.) -/
theorem Tryd.strings_Compare (a b : ByteArray) (w : World) :
    Calls Tryd.prog 46 #[.string a, .string b] w fun e w' => e = .returned (.int .i64 (Lib.compareBytes a.data.toList b.data.toList)) ∧ w' = w := Any.strings_Compare Tryd.lays106 a b w
def Tryd.lays137_ren : Go.Shelf.Ren := ⟨fun | 137 => 85 | 217 => 89 | 266 => 90 | n => n, fun | 9 => 9 | 5 => 5 | 3 => 3 | n => n, fun | n => n⟩
theorem Tryd.lays137 : Go.Proofs.Lays.n137 Tryd.prog Tryd.lays137_ren := {
  mixed := by kernel_rfl
  f137 := Tryd.func85.trans (congrArg some (by kernel_rfl))
  f217 := Tryd.func89.trans (congrArg some (by kernel_rfl))
  f266 := Tryd.func90.trans (congrArg some (by kernel_rfl))
  t3 := Tryd.underlying3
  a3 := Tryd.isAgg3
  z3 := Tryd.sizeOf3
  v3 := Tryd.zeroValue3
  t5 := Tryd.underlying5
  a5 := Tryd.isAgg5
  z5 := Tryd.sizeOf5
  v5 := Tryd.zeroValue5
  t9 := Tryd.underlying9
  a9 := Tryd.isAgg9
  z9 := Tryd.sizeOf9
  v9 := Tryd.zeroValue9 }
open Go.RowKit in
/-- strings.IndexByte: "IndexByte returns the index of the first instance of c in s, or -1 if c is not present in s.": IT RETURNS 'Lib.indexByte s c'; the world is as it was. (LAID: no walk: one application.) -/
theorem Tryd.strings_IndexByte (s : ByteArray) (c : Int) (w : World) :
    Calls Tryd.prog 85 #[.string s, .int .u8 c] w fun e w' => e = .returned (.int .i64 (Lib.indexByte s.data.toList c.toNat.toUInt8)) ∧ w' = w := Any.strings_IndexByte Tryd.lays137 s c w
def Tryd.lays215_ren : Go.Shelf.Ren := ⟨fun | 215 => 47 | n => n, fun | 3 => 3 | 4 => 4 | n => n, fun | n => n⟩
theorem Tryd.lays215 : Go.Proofs.Lays.n215 Tryd.prog Tryd.lays215_ren := {
  mixed := by kernel_rfl
  f215 := Tryd.func47.trans (congrArg some (by kernel_rfl))
  t3 := Tryd.underlying3
  a3 := Tryd.isAgg3
  z3 := Tryd.sizeOf3
  v3 := Tryd.zeroValue3
  t4 := Tryd.underlying4
  a4 := Tryd.isAgg4
  z4 := Tryd.sizeOf4
  v4 := Tryd.zeroValue4 }
open Go.RowKit in
/-- cmp.isNaN at int: 'x != x': false. (LAID: no walk: one application.) -/
theorem Tryd.cmp_isNaN_int (x : Int) (w : World) :
    Calls Tryd.prog 47 #[.int .i64 x] w fun e w' => e = .returned (.bool false) ∧ w' = w := Any.cmp_isNaN_int Tryd.lays215 x w
def Tryd.lays122_ren : Go.Shelf.Ren := ⟨fun | 122 => 27 | 215 => 47 | n => n, fun | 3 => 3 | 4 => 4 | n => n, fun | n => n⟩
theorem Tryd.lays122 : Go.Proofs.Lays.n122 Tryd.prog Tryd.lays122_ren := {
  mixed := by kernel_rfl
  f122 := Tryd.func27.trans (congrArg some (by kernel_rfl))
  f215 := Tryd.func47.trans (congrArg some (by kernel_rfl))
  t3 := Tryd.underlying3
  a3 := Tryd.isAgg3
  z3 := Tryd.sizeOf3
  v3 := Tryd.zeroValue3
  t4 := Tryd.underlying4
  a4 := Tryd.isAgg4
  z4 := Tryd.sizeOf4
  v4 := Tryd.zeroValue4 }
open Go.RowKit in
/-- cmp.Compare at int: "Compare returns -1 if x is less than y, 0 if x equals y, +1 if x is greater than y.": IT RETURNS 'Lib.compareInt x y'; the world is as it was. (LAID: no walk: one application.) -/
theorem Tryd.cmp_Compare_int (x y : Int) (w : World) :
    Calls Tryd.prog 27 #[.int .i64 x, .int .i64 y] w fun e w' => e = .returned (.int .i64 (Lib.compareInt x y)) ∧ w' = w := Any.cmp_Compare_int Tryd.lays122 x y w
open Go.RowKit in
/-- (*strings.Builder).Len: "Len returns the number of accumulated bytes; b.Len() == len(b.String()).": the world is as it was. (THE FORM '_f': 'Lib.IsBuilderF'.) (LAID: no walk: one application.) -/
theorem Tryd.Builder_Len_f (B b : Nat) (bs : List Value) (w : World) (h : Lib.IsBuilderF 99 5 B b bs w) :
    Calls Tryd.prog 61 #[.pointer (some ⟨b, 0, none⟩)] w fun e w' => e = .returned (.int .i64 bs.length) ∧ w' = w := Any.Builder_Len_f Tryd.lays170 B b bs w h
open Go.RowKit in
/-- (*strings.Builder).String: "String returns the accumulated string.": OF A BUILDER THAT HOLDS AT LEAST ONE BYTE. ✋ THE MODEL FREEZES THOSE BYTES IN THE BUFFER (unsafe.String): a later write INTO them ends the model's run without an answer; a later append BEHIND them goes on. The statement's order of evaluation is drawn: one draw. THE FORM '_f': IT SAYS BESIDES THAT THE BUILDER IS A BUILDER STILL ('Lib.IsBuilderF', the same bytes): SO IT CAN BE WRITTEN ON: 'b.WriteString(b.String()[:k])'. (LAID: no walk: one application.) -/
theorem Tryd.Builder_String_f (B b : Nat) (l : List UInt8) (w : World) (h : Lib.IsBuilderF 99 5 B b (Lib.byteCells l) w) (h0 : l ≠ []) :
    Calls Tryd.prog 62 #[.pointer (some ⟨b, 0, none⟩)] w fun e w' => e = .returned (.string ⟨l.toArray⟩) ∧ (Lib.IsBuilderF 99 5 B b (Lib.byteCells l) w' ∧ Below B w w') := Any.Builder_String_f Tryd.lays169 Tryd.Builder_Extra_169 B b l w h h0
open Go.RowKit in
/-- (*strings.Builder).String OF A BUILDER THAT HOLDS NO BYTE: the empty string; THE FORM '_f': a builder still. (LAID: no walk: one application.) -/
theorem Tryd.Builder_String_empty_f (B b : Nat) (w : World) (h : Lib.IsBuilderF 99 5 B b [] w) (hBw : B ≤ w.heap.size) :
    Calls Tryd.prog 62 #[.pointer (some ⟨b, 0, none⟩)] w fun e w' => e = .returned (.string ⟨#[]⟩) ∧ (Lib.IsBuilderF 99 5 B b [] w' ∧ Below B w w') := Any.Builder_String_empty_f Tryd.lays169 Tryd.Builder_Extra_169 B b w h hBw
open Go.RowKit in
/-- (*strings.Builder).String: "String returns the accumulated string.": WHATEVER THE BUILDER HOLDS; THE FORM '_f': OF A BUILDER THAT MAY HAVE BEEN READ BEFORE; AND IT IS A BUILDER STILL, holding the same bytes: it can be written on. (LAID: no walk: one application.) -/
theorem Tryd.Builder_String_any_f (B b : Nat) (l : List UInt8) (w : World) (h : Lib.IsBuilderF 99 5 B b (Lib.byteCells l) w) (hBw : B ≤ w.heap.size) :
    Calls Tryd.prog 62 #[.pointer (some ⟨b, 0, none⟩)] w fun e w' => e = .returned (.string ⟨l.toArray⟩) ∧ (Lib.IsBuilderF 99 5 B b (Lib.byteCells l) w' ∧ Below B w w') := Any.Builder_String_any_f Tryd.lays169 Tryd.Builder_Extra_169 B b l w h hBw
def Tryd.lays217_ren : Go.Shelf.Ren := ⟨fun | 217 => 89 | 266 => 90 | n => n, fun | 9 => 9 | 5 => 5 | 3 => 3 | n => n, fun | n => n⟩
theorem Tryd.lays217 : Go.Proofs.Lays.n217 Tryd.prog Tryd.lays217_ren := {
  mixed := by kernel_rfl
  f217 := Tryd.func89.trans (congrArg some (by kernel_rfl))
  f266 := Tryd.func90.trans (congrArg some (by kernel_rfl))
  t3 := Tryd.underlying3
  a3 := Tryd.isAgg3
  z3 := Tryd.sizeOf3
  v3 := Tryd.zeroValue3
  t5 := Tryd.underlying5
  a5 := Tryd.isAgg5
  z5 := Tryd.sizeOf5
  v5 := Tryd.zeroValue5
  t9 := Tryd.underlying9
  a9 := Tryd.isAgg9
  z9 := Tryd.sizeOf9
  v9 := Tryd.zeroValue9 }
open Go.RowKit Go.Lib in
/-- internal/stringslite.IndexByte (what strings.IndexByte calls): IT RETURNS 'Lib.indexByte s c'; the world is as it was. (LAID: no walk: one application.) -/
theorem Tryd.stringslite_IndexByte (s : ByteArray) (c : Int) (w : World) :
    Calls Tryd.prog 89 #[.string s, .int .u8 c] w fun e w' => e = .returned (.int .i64 (Lib.indexByte s.data.toList c.toNat.toUInt8)) ∧ w' = w := Any.stringslite_IndexByte Tryd.lays217 s c w
def Tryd.lays224_ren : Go.Shelf.Ren := ⟨fun | 224 => 87 | n => n, fun | 3 => 3 | n => n, fun | n => n⟩
theorem Tryd.lays224 : Go.Proofs.Lays.n224 Tryd.prog Tryd.lays224_ren := {
  mixed := by kernel_rfl
  f224 := Tryd.func87.trans (congrArg some (by kernel_rfl))
  t3 := Tryd.underlying3
  a3 := Tryd.isAgg3
  z3 := Tryd.sizeOf3
  v3 := Tryd.zeroValue3 }
open Go.RowKit Go.Lib in
/-- internal/bytealg.Cutover: "Cutover reports the number of failures of IndexByte we should tolerate before switching over to Index. n is the number of bytes processed so far.": on amd64: (n + 16) / 8. (LAID: no walk: one application.) -/
theorem Tryd.bytealg_Cutover (n : Int) (h0 : 0 ≤ n) (h1 : n < 4611686018427387904) (w : World) :
    Calls Tryd.prog 87 #[.int .i64 n] w fun e w' => e = .returned (.int .i64 ((n + 16) / 8)) ∧ w' = w := Any.bytealg_Cutover Tryd.lays224 n h0 h1 w
def Tryd.lays206_ren : Go.Shelf.Ren := ⟨fun | 206 => 74 | n => n, fun | 9 => 9 | 4 => 4 | 3 => 3 | n => n, fun | n => n⟩
theorem Tryd.lays206 : Go.Proofs.Lays.n206 Tryd.prog Tryd.lays206_ren := {
  mixed := by kernel_rfl
  f206 := Tryd.func74.trans (congrArg some (by kernel_rfl))
  t3 := Tryd.underlying3
  a3 := Tryd.isAgg3
  z3 := Tryd.sizeOf3
  v3 := Tryd.zeroValue3
  t4 := Tryd.underlying4
  a4 := Tryd.isAgg4
  z4 := Tryd.sizeOf4
  v4 := Tryd.zeroValue4
  t9 := Tryd.underlying9
  a9 := Tryd.isAgg9
  z9 := Tryd.sizeOf9
  v9 := Tryd.zeroValue9 }
open Go.RowKit Go.Lib in
/-- internal/stringslite.HasPrefix (what strings.HasPrefix calls). (LAID: no walk: one application.) -/
theorem Tryd.stringslite_HasPrefix (s p : ByteArray) (w : World) :
    Calls Tryd.prog 74 #[.string s, .string p] w fun e w' => e = .returned (.bool (Lib.hasPrefix s.data.toList p.data.toList)) ∧ w' = w := Any.stringslite_HasPrefix Tryd.lays206 s p w
def Tryd.lays99_ren : Go.Shelf.Ren := ⟨fun | 99 => 58 | 206 => 74 | n => n, fun | 9 => 9 | 4 => 4 | 3 => 3 | n => n, fun | n => n⟩
theorem Tryd.lays99 : Go.Proofs.Lays.n99 Tryd.prog Tryd.lays99_ren := {
  mixed := by kernel_rfl
  f99 := Tryd.func58.trans (congrArg some (by kernel_rfl))
  f206 := Tryd.func74.trans (congrArg some (by kernel_rfl))
  t3 := Tryd.underlying3
  a3 := Tryd.isAgg3
  z3 := Tryd.sizeOf3
  v3 := Tryd.zeroValue3
  t4 := Tryd.underlying4
  a4 := Tryd.isAgg4
  z4 := Tryd.sizeOf4
  v4 := Tryd.zeroValue4
  t9 := Tryd.underlying9
  a9 := Tryd.isAgg9
  z9 := Tryd.sizeOf9
  v9 := Tryd.zeroValue9 }
open Go.RowKit Go.Lib in
/-- strings.HasPrefix: "HasPrefix reports whether the string s begins with prefix.": IT RETURNS 'Lib.hasPrefix s prefix'; the world is as it was. (LAID: no walk: one application.) -/
theorem Tryd.strings_HasPrefix (s p : ByteArray) (w : World) :
    Calls Tryd.prog 58 #[.string s, .string p] w fun e w' => e = .returned (.bool (Lib.hasPrefix s.data.toList p.data.toList)) ∧ w' = w := Any.strings_HasPrefix Tryd.lays99 s p w
def Tryd.lays152_ren : Go.Shelf.Ren := ⟨fun | 152 => 79 | 137 => 85 | 119 => 86 | 224 => 87 | 225 => 88 | 217 => 89 | 266 => 90 | n => n, fun | 9 => 9 | 21 => 21 | 3 => 3 | 4 => 4 | 5 => 5 | 0 => 0 | 46 => 94 | n => n, fun | n => n⟩
theorem Tryd.lays152 : Go.Proofs.Lays.n152 Tryd.prog Tryd.lays152_ren := {
  mixed := by kernel_rfl
  f119 := Tryd.func86.trans (congrArg some (by kernel_rfl))
  f137 := Tryd.func85.trans (congrArg some (by kernel_rfl))
  f152 := Tryd.func79.trans (congrArg some (by kernel_rfl))
  f217 := Tryd.func89.trans (congrArg some (by kernel_rfl))
  f224 := Tryd.func87.trans (congrArg some (by kernel_rfl))
  f225 := Tryd.func88.trans (congrArg some (by kernel_rfl))
  f266 := Tryd.func90.trans (congrArg some (by kernel_rfl))
  t0 := Tryd.underlying0
  a0 := Tryd.isAgg0
  z0 := Tryd.sizeOf0
  v0 := Tryd.zeroValue0
  t3 := Tryd.underlying3
  a3 := Tryd.isAgg3
  z3 := Tryd.sizeOf3
  v3 := Tryd.zeroValue3
  t4 := Tryd.underlying4
  a4 := Tryd.isAgg4
  z4 := Tryd.sizeOf4
  v4 := Tryd.zeroValue4
  t5 := Tryd.underlying5
  a5 := Tryd.isAgg5
  z5 := Tryd.sizeOf5
  v5 := Tryd.zeroValue5
  t9 := Tryd.underlying9
  a9 := Tryd.isAgg9
  z9 := Tryd.sizeOf9
  v9 := Tryd.zeroValue9
  t21 := Tryd.underlying21
  a21 := Tryd.isAgg21
  z21 := Tryd.sizeOf21
  v21 := Tryd.zeroValue21
  t46 := Tryd.underlying94
  a46 := Tryd.isAgg94
  z46 := Tryd.sizeOf94
  v46 := Tryd.zeroValue94 }
open Go.RowKit Go.Lib in
theorem Tryd.strings_IndexRune_ascii (s : ByteArray) (r : Int) (w : World) (h0 : 0 ≤ r) (h1 : r < 128) :
    Calls Tryd.prog 79 #[.string s, .int .i32 r] w fun e w' => e = .returned (.int .i64 (Lib.indexByte s.data.toList r.toNat.toUInt8)) ∧ w' = w := Any.strings_IndexRune_ascii Tryd.lays152 s r w h0 h1
def Tryd.lays151_ren : Go.Shelf.Ren := ⟨fun | 151 => 70 | 152 => 79 | 137 => 85 | 119 => 86 | 224 => 87 | 225 => 88 | 217 => 89 | 266 => 90 | n => n, fun | 9 => 9 | 21 => 21 | 4 => 4 | 3 => 3 | 5 => 5 | 0 => 0 | 46 => 94 | n => n, fun | n => n⟩
theorem Tryd.lays151 : Go.Proofs.Lays.n151 Tryd.prog Tryd.lays151_ren := {
  mixed := by kernel_rfl
  f119 := Tryd.func86.trans (congrArg some (by kernel_rfl))
  f137 := Tryd.func85.trans (congrArg some (by kernel_rfl))
  f151 := Tryd.func70.trans (congrArg some (by kernel_rfl))
  f152 := Tryd.func79.trans (congrArg some (by kernel_rfl))
  f217 := Tryd.func89.trans (congrArg some (by kernel_rfl))
  f224 := Tryd.func87.trans (congrArg some (by kernel_rfl))
  f225 := Tryd.func88.trans (congrArg some (by kernel_rfl))
  f266 := Tryd.func90.trans (congrArg some (by kernel_rfl))
  t0 := Tryd.underlying0
  a0 := Tryd.isAgg0
  z0 := Tryd.sizeOf0
  v0 := Tryd.zeroValue0
  t3 := Tryd.underlying3
  a3 := Tryd.isAgg3
  z3 := Tryd.sizeOf3
  v3 := Tryd.zeroValue3
  t4 := Tryd.underlying4
  a4 := Tryd.isAgg4
  z4 := Tryd.sizeOf4
  v4 := Tryd.zeroValue4
  t5 := Tryd.underlying5
  a5 := Tryd.isAgg5
  z5 := Tryd.sizeOf5
  v5 := Tryd.zeroValue5
  t9 := Tryd.underlying9
  a9 := Tryd.isAgg9
  z9 := Tryd.sizeOf9
  v9 := Tryd.zeroValue9
  t21 := Tryd.underlying21
  a21 := Tryd.isAgg21
  z21 := Tryd.sizeOf21
  v21 := Tryd.zeroValue21
  t46 := Tryd.underlying94
  a46 := Tryd.isAgg94
  z46 := Tryd.sizeOf94
  v46 := Tryd.zeroValue94 }
open Go.RowKit Go.Lib in
theorem Tryd.strings_ContainsRune_ascii (s : ByteArray) (r : Int) (w : World) (h0 : 0 ≤ r) (h1 : r < 128) :
    Calls Tryd.prog 70 #[.string s, .int .i32 r] w fun e w' => e = .returned (.bool (decide (0 ≤ Lib.indexByte s.data.toList r.toNat.toUInt8))) ∧ w' = w := Any.strings_ContainsRune_ascii Tryd.lays151 s r w h0 h1
def Tryd.lays226_ren : Go.Shelf.Ren := ⟨fun | 226 => 80 | n => n, fun | 3 => 3 | 4 => 4 | n => n, fun | n => n⟩
theorem Tryd.lays226 : Go.Proofs.Lays.n226 Tryd.prog Tryd.lays226_ren := {
  mixed := by kernel_rfl
  f226 := Tryd.func80.trans (congrArg some (by kernel_rfl))
  t3 := Tryd.underlying3
  a3 := Tryd.isAgg3
  z3 := Tryd.sizeOf3
  v3 := Tryd.zeroValue3
  t4 := Tryd.underlying4
  a4 := Tryd.isAgg4
  z4 := Tryd.sizeOf4
  v4 := Tryd.zeroValue4 }
open Go.RowKit Go.Lib in
theorem Tryd.strings_shouldUseASCIISet (n : Int) (w : World) :
    Calls Tryd.prog 80 #[.int .i64 n] w fun e w' => e = .returned (.bool (decide (8 < n))) ∧ w' = w := Any.strings_shouldUseASCIISet Tryd.lays226 n w
def Tryd.lays153_ren : Go.Shelf.Ren := ⟨fun | 153 => 67 | 152 => 79 | 226 => 80 | 227 => 51 | 228 => 68 | 137 => 85 | 119 => 86 | 224 => 87 | 225 => 88 | 217 => 89 | 266 => 90 | n => n, fun | 9 => 9 | 3 => 3 | 4 => 4 | 5 => 5 | 21 => 21 | 117 => 89 | 116 => 88 | 0 => 0 | 46 => 94 | 124 => 92 | n => n, fun | n => n⟩
theorem Tryd.lays153 : Go.Proofs.Lays.n153 Tryd.prog Tryd.lays153_ren := {
  mixed := by kernel_rfl
  f119 := Tryd.func86.trans (congrArg some (by kernel_rfl))
  f137 := Tryd.func85.trans (congrArg some (by kernel_rfl))
  f152 := Tryd.func79.trans (congrArg some (by kernel_rfl))
  f153 := Tryd.func67.trans (congrArg some (by kernel_rfl))
  f217 := Tryd.func89.trans (congrArg some (by kernel_rfl))
  f224 := Tryd.func87.trans (congrArg some (by kernel_rfl))
  f225 := Tryd.func88.trans (congrArg some (by kernel_rfl))
  f226 := Tryd.func80.trans (congrArg some (by kernel_rfl))
  f227 := Tryd.func51.trans (congrArg some (by kernel_rfl))
  f228 := Tryd.func68.trans (congrArg some (by kernel_rfl))
  f266 := Tryd.func90.trans (congrArg some (by kernel_rfl))
  t0 := Tryd.underlying0
  a0 := Tryd.isAgg0
  z0 := Tryd.sizeOf0
  v0 := Tryd.zeroValue0
  t3 := Tryd.underlying3
  a3 := Tryd.isAgg3
  z3 := Tryd.sizeOf3
  v3 := Tryd.zeroValue3
  t4 := Tryd.underlying4
  a4 := Tryd.isAgg4
  z4 := Tryd.sizeOf4
  v4 := Tryd.zeroValue4
  t5 := Tryd.underlying5
  a5 := Tryd.isAgg5
  z5 := Tryd.sizeOf5
  v5 := Tryd.zeroValue5
  t9 := Tryd.underlying9
  a9 := Tryd.isAgg9
  z9 := Tryd.sizeOf9
  v9 := Tryd.zeroValue9
  t21 := Tryd.underlying21
  a21 := Tryd.isAgg21
  z21 := Tryd.sizeOf21
  v21 := Tryd.zeroValue21
  t46 := Tryd.underlying94
  a46 := Tryd.isAgg94
  z46 := Tryd.sizeOf94
  v46 := Tryd.zeroValue94
  t116 := Tryd.underlying88
  a116 := Tryd.isAgg88
  z116 := Tryd.sizeOf88
  t117 := Tryd.underlying89
  a117 := Tryd.isAgg89
  z117 := Tryd.sizeOf89
  v117 := Tryd.zeroValue89
  t124 := Tryd.underlying92
  a124 := Tryd.isAgg92
  z124 := Tryd.sizeOf92
  v124 := Tryd.zeroValue92 }
open Go.RowKit Go.Lib in
/-- chars is empty. (LAID: no walk: one application.) -/
theorem Tryd.strings_IndexAny_none (s chars : ByteArray) (w : World) (h0 : chars.size = 0) :
    Calls Tryd.prog 67 #[.string s, .string chars] w fun e w' => e = .returned (.int .i64 (Lib.indexAny s.data.toList chars.data.toList)) ∧ w' = w := Any.strings_IndexAny_none Tryd.lays153 s chars w h0
open Go.RowKit Go.Lib in
/-- chars is one ASCII byte. (LAID: no walk: one application.) -/
theorem Tryd.strings_IndexAny_one (s chars : ByteArray) (w : World) (h1 : chars.size = 1) (hascii : ∀ (j : Nat) b, chars.data.toList[j]? = some b → b.toNat < 128) :
    Calls Tryd.prog 67 #[.string s, .string chars] w fun e w' => e = .returned (.int .i64 (Lib.indexAny s.data.toList chars.data.toList)) ∧ w' = w := Any.strings_IndexAny_one Tryd.lays153 s chars w h1 hascii
open Go.RowKit Go.Lib in
/-- s of at most 8 bytes; chars of two or more: 'for i, c := range s { if IndexRune(chars, c) >= 0 { return i } }'. One block more: the model's iterator over s. (LAID: no walk: one application.) -/
theorem Tryd.strings_IndexAny_short (s chars : ByteArray) (w : World) (h2 : 2 ≤ chars.size) (h8 : s.size ≤ 8) (hascii : ∀ (j : Nat) b, s.data.toList[j]? = some b → b.toNat < 128) :
    Calls Tryd.prog 67 #[.string s, .string chars] w fun e w' => e = .returned (.int .i64 (Lib.indexAny s.data.toList chars.data.toList)) ∧ ∃ pos, w' = w.iter s pos := Any.strings_IndexAny_short Tryd.lays153 s chars w h2 h8 hascii
def Tryd.lays227_ren : Go.Shelf.Ren := ⟨fun | 227 => 51 | n => n, fun | 9 => 9 | 116 => 88 | 4 => 4 | 0 => 0 | 3 => 3 | 5 => 5 | n => n, fun | n => n⟩
theorem Tryd.lays227 : Go.Proofs.Lays.n227 Tryd.prog Tryd.lays227_ren := {
  mixed := by kernel_rfl
  f227 := Tryd.func51.trans (congrArg some (by kernel_rfl))
  t0 := Tryd.underlying0
  a0 := Tryd.isAgg0
  z0 := Tryd.sizeOf0
  v0 := Tryd.zeroValue0
  t3 := Tryd.underlying3
  a3 := Tryd.isAgg3
  z3 := Tryd.sizeOf3
  v3 := Tryd.zeroValue3
  t4 := Tryd.underlying4
  a4 := Tryd.isAgg4
  z4 := Tryd.sizeOf4
  v4 := Tryd.zeroValue4
  t5 := Tryd.underlying5
  a5 := Tryd.isAgg5
  z5 := Tryd.sizeOf5
  v5 := Tryd.zeroValue5
  t9 := Tryd.underlying9
  a9 := Tryd.isAgg9
  z9 := Tryd.sizeOf9
  v9 := Tryd.zeroValue9
  t116 := Tryd.underlying88
  a116 := Tryd.isAgg88
  z116 := Tryd.sizeOf88 }
open Go.RowKit Go.Lib in
theorem Tryd.strings_makeASCIISet (hv116 : ∀ w, (zeroValue 88).run Tryd.prog w = .ok (.agg (Array.replicate 256 (.bool false))) w) (chars : ByteArray) (w : World) (hs : chars.size < 4294967281) (hascii : ∀ (j : Nat) b, chars.data.toList[j]? = some b → b.toNat < 128) :
    Calls Tryd.prog 51 #[.string chars] w fun e w' => e = .returned (.tuple #[.agg (Lib.setCells chars.data.toList), .bool true]) ∧ w' = w.alloc (.cells (Lib.setCells chars.data.toList) 88) := Any.strings_makeASCIISet Tryd.lays227 hv116 (by kernel_rfl) chars w hs hascii
def Tryd.lays228_ren : Go.Shelf.Ren := ⟨fun | 228 => 68 | n => n, fun | 124 => 92 | 5 => 5 | 4 => 4 | 0 => 0 | 116 => 88 | n => n, fun | n => n⟩
theorem Tryd.lays228 : Go.Proofs.Lays.n228 Tryd.prog Tryd.lays228_ren := {
  mixed := by kernel_rfl
  f228 := Tryd.func68.trans (congrArg some (by kernel_rfl))
  t0 := Tryd.underlying0
  a0 := Tryd.isAgg0
  z0 := Tryd.sizeOf0
  v0 := Tryd.zeroValue0
  t4 := Tryd.underlying4
  a4 := Tryd.isAgg4
  z4 := Tryd.sizeOf4
  v4 := Tryd.zeroValue4
  t5 := Tryd.underlying5
  a5 := Tryd.isAgg5
  z5 := Tryd.sizeOf5
  v5 := Tryd.zeroValue5
  t116 := Tryd.underlying88
  a116 := Tryd.isAgg88
  z116 := Tryd.sizeOf88
  t124 := Tryd.underlying92
  a124 := Tryd.isAgg92
  z124 := Tryd.sizeOf92
  v124 := Tryd.zeroValue92 }
open Go.RowKit Go.Lib in
/-- '(as *asciiSet) contains(c)': 'as[c]': the set lies at block b, whole. (LAID: no walk: one application.) -/
theorem Tryd.asciiSet_contains (b : Nat) (x : UInt8) (v : Bool) (w : World) (hc : w.cell? ⟨b, x.toNat, none⟩ = some (.bool v)) :
    Calls Tryd.prog 68 #[.pointer (some ⟨b, 0, none⟩), .int .u8 x.toNat] w fun e w' => e = .returned (.bool v) ∧ w' = w := Any.asciiSet_contains Tryd.lays228 b x v w hc
open Go.RowKit Go.Lib in
theorem Tryd.strings_IndexAny_long (hv116 : ∀ w, (zeroValue 88).run Tryd.prog w = .ok (.agg (Array.replicate 256 (.bool false))) w) (s chars : ByteArray) (w : World) (h2 : 2 ≤ chars.size) (h8 : 8 < s.size) (hs : s.size < 4294967281) (hcs : chars.size < 4294967281) (hascii : ∀ (j : Nat) b, chars.data.toList[j]? = some b → b.toNat < 128) :
    Calls Tryd.prog 67 #[.string s, .string chars] w fun e w' => e = .returned (.int .i64 (Lib.indexAny s.data.toList chars.data.toList)) ∧ w' = ((w.alloc (.cells (Lib.setCells chars.data.toList) 88)).alloc (.cells (Lib.setCells chars.data.toList) 88)) := Any.strings_IndexAny_long Tryd.lays153 hv116 (by kernel_rfl) s chars w h2 h8 hs hcs hascii
open Go.RowKit Go.Lib in
/-- strings.IndexAny ON ASCII BYTES: the four roads under one statement. (LAID: no walk: one application.) -/
theorem Tryd.strings_IndexAny (hv116 : ∀ w, (zeroValue 88).run Tryd.prog w = .ok (.agg (Array.replicate 256 (.bool false))) w) (s chars : ByteArray) (w : World) (hs : s.size < 4294967281) (hcs : chars.size < 4294967281) (has : ∀ (j : Nat) b, s.data.toList[j]? = some b → b.toNat < 128) (hac : ∀ (j : Nat) b, chars.data.toList[j]? = some b → b.toNat < 128) :
    Calls Tryd.prog 67 #[.string s, .string chars] w fun e w' => e = .returned (.int .i64 (Lib.indexAny s.data.toList chars.data.toList)) ∧ Below w.heap.size w w' := Any.strings_IndexAny Tryd.lays153 hv116 (by kernel_rfl) s chars w hs hcs has hac
def Tryd.lays150_ren : Go.Shelf.Ren := ⟨fun | 150 => 48 | 153 => 67 | 152 => 79 | 226 => 80 | 227 => 51 | 228 => 68 | 137 => 85 | 119 => 86 | 224 => 87 | 225 => 88 | 217 => 89 | 266 => 90 | n => n, fun | 9 => 9 | 4 => 4 | 3 => 3 | 5 => 5 | 21 => 21 | 117 => 89 | 116 => 88 | 0 => 0 | 46 => 94 | 124 => 92 | n => n, fun | n => n⟩
theorem Tryd.lays150 : Go.Proofs.Lays.n150 Tryd.prog Tryd.lays150_ren := {
  mixed := by kernel_rfl
  f119 := Tryd.func86.trans (congrArg some (by kernel_rfl))
  f137 := Tryd.func85.trans (congrArg some (by kernel_rfl))
  f150 := Tryd.func48.trans (congrArg some (by kernel_rfl))
  f152 := Tryd.func79.trans (congrArg some (by kernel_rfl))
  f153 := Tryd.func67.trans (congrArg some (by kernel_rfl))
  f217 := Tryd.func89.trans (congrArg some (by kernel_rfl))
  f224 := Tryd.func87.trans (congrArg some (by kernel_rfl))
  f225 := Tryd.func88.trans (congrArg some (by kernel_rfl))
  f226 := Tryd.func80.trans (congrArg some (by kernel_rfl))
  f227 := Tryd.func51.trans (congrArg some (by kernel_rfl))
  f228 := Tryd.func68.trans (congrArg some (by kernel_rfl))
  f266 := Tryd.func90.trans (congrArg some (by kernel_rfl))
  t0 := Tryd.underlying0
  a0 := Tryd.isAgg0
  z0 := Tryd.sizeOf0
  v0 := Tryd.zeroValue0
  t3 := Tryd.underlying3
  a3 := Tryd.isAgg3
  z3 := Tryd.sizeOf3
  v3 := Tryd.zeroValue3
  t4 := Tryd.underlying4
  a4 := Tryd.isAgg4
  z4 := Tryd.sizeOf4
  v4 := Tryd.zeroValue4
  t5 := Tryd.underlying5
  a5 := Tryd.isAgg5
  z5 := Tryd.sizeOf5
  v5 := Tryd.zeroValue5
  t9 := Tryd.underlying9
  a9 := Tryd.isAgg9
  z9 := Tryd.sizeOf9
  v9 := Tryd.zeroValue9
  t21 := Tryd.underlying21
  a21 := Tryd.isAgg21
  z21 := Tryd.sizeOf21
  v21 := Tryd.zeroValue21
  t46 := Tryd.underlying94
  a46 := Tryd.isAgg94
  z46 := Tryd.sizeOf94
  v46 := Tryd.zeroValue94
  t116 := Tryd.underlying88
  a116 := Tryd.isAgg88
  z116 := Tryd.sizeOf88
  t117 := Tryd.underlying89
  a117 := Tryd.isAgg89
  z117 := Tryd.sizeOf89
  v117 := Tryd.zeroValue89
  t124 := Tryd.underlying92
  a124 := Tryd.isAgg92
  z124 := Tryd.sizeOf92
  v124 := Tryd.zeroValue92 }
open Go.RowKit Go.Lib in
/-- strings.ContainsAny ON ASCII BYTES. (LAID: no walk: one application.) -/
theorem Tryd.strings_ContainsAny (hv116 : ∀ w, (zeroValue 88).run Tryd.prog w = .ok (.agg (Array.replicate 256 (.bool false))) w) (s chars : ByteArray) (w : World) (hs : s.size < 4294967281) (hcs : chars.size < 4294967281) (has : ∀ (j : Nat) b, s.data.toList[j]? = some b → b.toNat < 128) (hac : ∀ (j : Nat) b, chars.data.toList[j]? = some b → b.toNat < 128) :
    Calls Tryd.prog 48 #[.string s, .string chars] w fun e w' => e = .returned (.bool (Lib.containsAny s.data.toList chars.data.toList)) ∧ Below w.heap.size w w' := Any.strings_ContainsAny Tryd.lays150 hv116 (by kernel_rfl) s chars w hs hcs has hac
open Go.RowKit Go.Lib in
theorem Tryd.strings_IndexAny_laid (s chars : ByteArray) (w : World) (hs : s.size < 4294967281) (hcs : chars.size < 4294967281) (has : ∀ (j : Nat) b, s.data.toList[j]? = some b → b.toNat < 128) (hac : ∀ (j : Nat) b, chars.data.toList[j]? = some b → b.toNat < 128) :
    Calls Tryd.prog 67 #[.string s, .string chars] w fun e w' => e = .returned (.int .i64 (Lib.indexAny s.data.toList chars.data.toList)) ∧ Below w.heap.size w w' := Any.strings_IndexAny_laid Tryd.lays153 (by kernel_rfl) s chars w hs hcs has hac
open Go.RowKit Go.Lib in
theorem Tryd.strings_ContainsAny_laid (s chars : ByteArray) (w : World) (hs : s.size < 4294967281) (hcs : chars.size < 4294967281) (has : ∀ (j : Nat) b, s.data.toList[j]? = some b → b.toNat < 128) (hac : ∀ (j : Nat) b, chars.data.toList[j]? = some b → b.toNat < 128) :
    Calls Tryd.prog 48 #[.string s, .string chars] w fun e w' => e = .returned (.bool (Lib.containsAny s.data.toList chars.data.toList)) ∧ Below w.heap.size w w' := Any.strings_ContainsAny_laid Tryd.lays150 (by kernel_rfl) s chars w hs hcs has hac
def Tryd.lays264_ren : Go.Shelf.Ren := ⟨fun | 264 => 73 | n => n, fun | 53 => 74 | 46 => 94 | n => n, fun | n => n⟩
theorem Tryd.lays264 : Go.Proofs.Lays.n264 Tryd.prog Tryd.lays264_ren := {
  mixed := by kernel_rfl
  f264 := Tryd.func73.trans (congrArg some (by kernel_rfl))
  t46 := Tryd.underlying94
  a46 := Tryd.isAgg94
  z46 := Tryd.sizeOf94
  v46 := Tryd.zeroValue94
  t53 := Tryd.underlying74
  a53 := Tryd.isAgg74
  z53 := Tryd.sizeOf74
  v53 := Tryd.zeroValue74 }
open Go.RowKit Go.Lib in
theorem Tryd.bits_Mul64 (x y : Nat) (hx : x < 18446744073709551616) (hy : y < 18446744073709551616) (w : World) :
    Calls Tryd.prog 73 #[.int .u64 x, .int .u64 y] w fun e w' => e = .returned (.tuple #[.int .u64 ((x * y / 18446744073709551616 : Nat) : Int), .int .u64 ((x * y % 18446744073709551616 : Nat) : Int)]) ∧ w' = w := Any.bits_Mul64 Tryd.lays264 x y hx hy w
def Tryd.lays212_ren : Go.Shelf.Ren := ⟨fun | 212 => 57 | 263 => 72 | 264 => 73 | n => n, fun | 46 => 94 | 51 => 66 | 146 => 112 | 53 => 74 | 148 => 114 | n => n, fun | n => n⟩
theorem Tryd.lays212 : Go.Proofs.Lays.n212 Tryd.prog Tryd.lays212_ren := {
  mixed := by kernel_rfl
  f212 := Tryd.func57.trans (congrArg some (by kernel_rfl))
  f263 := Tryd.func72.trans (congrArg some (by kernel_rfl))
  f264 := Tryd.func73.trans (congrArg some (by kernel_rfl))
  t46 := Tryd.underlying94
  a46 := Tryd.isAgg94
  z46 := Tryd.sizeOf94
  v46 := Tryd.zeroValue94
  t51 := Tryd.underlying66
  a51 := Tryd.isAgg66
  z51 := Tryd.sizeOf66
  v51 := Tryd.zeroValue66
  t53 := Tryd.underlying74
  a53 := Tryd.isAgg74
  z53 := Tryd.sizeOf74
  v53 := Tryd.zeroValue74
  t146 := Tryd.underlying112
  a146 := Tryd.isAgg112
  z146 := Tryd.sizeOf112
  v146 := Tryd.zeroValue112
  t148 := Tryd.underlying114
  a148 := Tryd.isAgg114
  z148 := Tryd.sizeOf114
  v148 := Tryd.zeroValue114 }
open Go.RowKit Go.Lib in
/-- math/bits.Mul: "Mul returns the full-width product of x and y": on a machine of 64 bits: Mul64's. (LAID: no walk: one application.) -/
theorem Tryd.bits_Mul (x y : Nat) (hx : x < 18446744073709551616) (hy : y < 18446744073709551616) (w : World) :
    Calls Tryd.prog 57 #[.int .u64 x, .int .u64 y] w fun e w' => e = .returned (.tuple #[.int .u64 ((x * y / 18446744073709551616 : Nat) : Int), .int .u64 ((x * y % 18446744073709551616 : Nat) : Int)]) ∧ w' = w := Any.bits_Mul Tryd.lays212 x y hx hy w
def Tryd.lays105_ren : Go.Shelf.Ren := ⟨fun | 105 => 36 | 212 => 57 | 99 => 58 | 165 => 59 | 166 => 60 | 170 => 61 | 169 => 62 | 263 => 72 | 264 => 73 | 206 => 74 | 240 => 75 | 241 => 76 | 276 => 83 | 277 => 84 | n => n, fun | 9 => 9 | 3 => 3 | 4 => 4 | 20 => 20 | 0 => 0 | 46 => 94 | 109 => 95 | 5 => 5 | 72 => 99 | 76 => 103 | 51 => 66 | 146 => 112 | 53 => 74 | 148 => 114 | 70 => 97 | 37 => 70 | 75 => 102 | 127 => 116 | 164 => 118 | 80 => 106 | n => n, fun | n => n⟩
theorem Tryd.lays105 : Go.Proofs.Lays.n105 Tryd.prog Tryd.lays105_ren := {
  mixed := by kernel_rfl
  f99 := Tryd.func58.trans (congrArg some (by kernel_rfl))
  f105 := Tryd.func36.trans (congrArg some (by kernel_rfl))
  f165 := Tryd.func59.trans (congrArg some (by kernel_rfl))
  f166 := Tryd.func60.trans (congrArg some (by kernel_rfl))
  f169 := Tryd.func62.trans (congrArg some (by kernel_rfl))
  f170 := Tryd.func61.trans (congrArg some (by kernel_rfl))
  f206 := Tryd.func74.trans (congrArg some (by kernel_rfl))
  f212 := Tryd.func57.trans (congrArg some (by kernel_rfl))
  f240 := Tryd.func75.trans (congrArg some (by kernel_rfl))
  f241 := Tryd.func76.trans (congrArg some (by kernel_rfl))
  f263 := Tryd.func72.trans (congrArg some (by kernel_rfl))
  f264 := Tryd.func73.trans (congrArg some (by kernel_rfl))
  f276 := Tryd.func83.trans (congrArg some (by kernel_rfl))
  f277 := Tryd.func84.trans (congrArg some (by kernel_rfl))
  t0 := Tryd.underlying0
  a0 := Tryd.isAgg0
  z0 := Tryd.sizeOf0
  v0 := Tryd.zeroValue0
  t3 := Tryd.underlying3
  a3 := Tryd.isAgg3
  z3 := Tryd.sizeOf3
  v3 := Tryd.zeroValue3
  t4 := Tryd.underlying4
  a4 := Tryd.isAgg4
  z4 := Tryd.sizeOf4
  v4 := Tryd.zeroValue4
  t5 := Tryd.underlying5
  a5 := Tryd.isAgg5
  z5 := Tryd.sizeOf5
  v5 := Tryd.zeroValue5
  t9 := Tryd.underlying9
  a9 := Tryd.isAgg9
  z9 := Tryd.sizeOf9
  v9 := Tryd.zeroValue9
  t20 := Tryd.underlying20
  a20 := Tryd.isAgg20
  z20 := Tryd.sizeOf20
  v20 := Tryd.zeroValue20
  t37 := Tryd.underlying70
  a37 := Tryd.isAgg70
  z37 := Tryd.sizeOf70
  v37 := Tryd.zeroValue70
  t46 := Tryd.underlying94
  a46 := Tryd.isAgg94
  z46 := Tryd.sizeOf94
  v46 := Tryd.zeroValue94
  t51 := Tryd.underlying66
  a51 := Tryd.isAgg66
  z51 := Tryd.sizeOf66
  v51 := Tryd.zeroValue66
  t53 := Tryd.underlying74
  a53 := Tryd.isAgg74
  z53 := Tryd.sizeOf74
  v53 := Tryd.zeroValue74
  t70 := Tryd.underlying97
  a70 := Tryd.isAgg97
  z70 := Tryd.sizeOf97
  v70 := Tryd.zeroValue97
  t72 := Tryd.underlying99
  a72 := Tryd.isAgg99
  z72 := Tryd.sizeOf99
  v72 := Tryd.zeroValue99
  t75 := Tryd.underlying102
  a75 := Tryd.isAgg102
  z75 := Tryd.sizeOf102
  v75 := Tryd.zeroValue102
  t76 := Tryd.underlying103
  a76 := Tryd.isAgg103
  z76 := Tryd.sizeOf103
  v76 := Tryd.zeroValue103
  t109 := Tryd.underlying95
  a109 := Tryd.isAgg95
  z109 := Tryd.sizeOf95
  v109 := Tryd.zeroValue95
  t127 := Tryd.underlying116
  a127 := Tryd.isAgg116
  z127 := Tryd.sizeOf116
  v127 := Tryd.zeroValue116
  t146 := Tryd.underlying112
  a146 := Tryd.isAgg112
  z146 := Tryd.sizeOf112
  v146 := Tryd.zeroValue112
  t148 := Tryd.underlying114
  a148 := Tryd.isAgg114
  z148 := Tryd.sizeOf114
  v148 := Tryd.zeroValue114
  t164 := Tryd.underlying118
  a164 := Tryd.isAgg118
  z164 := Tryd.sizeOf118
  v164 := Tryd.zeroValue118 }
theorem Tryd.Builder_Extra_105 : Builder.Extra Tryd.prog Tryd.lays105_ren := {
  sizeBuilder := by kernel_rfl
  liesBuilder := by kernel_rfl
  t5 := Tryd.underlying5
  a5 := Tryd.isAgg5
  z5 := Tryd.sizeOf5
  v5 := Tryd.zeroValue5
  infoByte := by kernel_rfl
  cellsByte := by kernel_rfl
  sizeByte := by kernel_rfl
  neB5 := by decide }
open Go.RowKit Go.Lib in
/-- THE MAIN CASE: at least two copies of a string that is not empty. (LAID: no walk: one application.) -/
theorem Tryd.strings_Repeat_main (s : ByteArray) (c : Nat) (w : World) (hc2 : 2 ≤ c) (hc : c ≤ 9223372036854775807) (hlen : s.size * c ≤ 140737488355328) (h0 : 0 < s.size) :
    Calls Tryd.prog 36 #[.string s, .int .i64 c] w fun e w' => e = .returned (.string ⟨(Lib.repeatL s.data.toList c).toArray⟩) ∧ Below w.heap.size w w' := Any.strings_Repeat_main Tryd.lays105 Tryd.Builder_Extra_105 s c w hc2 hc hlen h0
open Go.RowKit Go.Lib in
theorem Tryd.strings_Repeat_zero (s : ByteArray) (w : World) :
    Calls Tryd.prog 36 #[.string s, .int .i64 0] w fun e w' => e = .returned (.string ⟨#[]⟩) ∧ w' = w := Any.strings_Repeat_zero Tryd.lays105 s w
open Go.RowKit Go.Lib in
theorem Tryd.strings_Repeat_one (s : ByteArray) (w : World) :
    Calls Tryd.prog 36 #[.string s, .int .i64 1] w fun e w' => e = .returned (.string s) ∧ w' = w := Any.strings_Repeat_one Tryd.lays105 s w
open Go.RowKit Go.Lib in
/-- Copies of the empty string. (LAID: no walk: one application.) -/
theorem Tryd.strings_Repeat_empty (s : ByteArray) (c : Nat) (w : World) (hc2 : 2 ≤ c) (hc : c ≤ 9223372036854775807) (h0 : s.size = 0) :
    Calls Tryd.prog 36 #[.string s, .int .i64 c] w fun e w' => e = .returned (.string ⟨#[]⟩) ∧ w' = w := Any.strings_Repeat_empty Tryd.lays105 s c w hc2 hc h0
open Go.RowKit Go.Lib in
/-- count < 0: "It panics if count is negative". (LAID: no walk: one application.) -/
theorem Tryd.strings_Repeat_negative (s : ByteArray) (c : Int) (w : World) (hc : c < 0) :
    Calls Tryd.prog 36 #[.string s, .int .i64 c] w fun e w' => e = .panicked [{ v := repeatPanic Tryd.lays105_ren "strings: negative Repeat count", recovered := false }] ∧ w' = w := Any.strings_Repeat_negative Tryd.lays105 s c w hc
open Go.RowKit Go.Lib in
/-- len(s) * count is no int: ".. or if the result of (len(s) * count) overflows". (LAID: no walk: one application.) -/
theorem Tryd.strings_Repeat_overflow (s : ByteArray) (c : Nat) (w : World) (hc : c ≤ 9223372036854775807) (hs : s.size ≤ 9223372036854775807) (hbig : 9223372036854775807 < s.size * c) :
    Calls Tryd.prog 36 #[.string s, .int .i64 c] w fun e w' => e = .panicked [{ v := repeatPanic Tryd.lays105_ren "strings: Repeat output length overflow", recovered := false }] ∧ w' = w := Any.strings_Repeat_overflow Tryd.lays105 s c w hc hs hbig
open Go.RowKit Go.Lib in
/-- **strings.Repeat: count ≥ 0, the result within one allocation: count copies of s.** (LAID: no walk: one application.) -/
theorem Tryd.strings_Repeat (s : ByteArray) (c : Nat) (w : World) (hc : c ≤ 9223372036854775807) (hlen : s.size * c ≤ 140737488355328) :
    Calls Tryd.prog 36 #[.string s, .int .i64 c] w fun e w' => e = .returned (.string ⟨(Lib.repeatL s.data.toList c).toArray⟩) ∧ Below w.heap.size w w' := Any.strings_Repeat Tryd.lays105 Tryd.Builder_Extra_105 s c w hc hlen
def Tryd.lays260_ren : Go.Shelf.Ren := ⟨fun | 260 => 81 | n => n, fun | 9 => 9 | 21 => 21 | 3 => 3 | 4 => 4 | 5 => 5 | 119 => 42 | 0 => 0 | 46 => 94 | 139 => 126 | 138 => 125 | n => n, fun | 3 => 1 | 4 => 2 | n => n⟩
theorem Tryd.lays260 : Go.Proofs.Lays.n260 Tryd.prog Tryd.lays260_ren := {
  mixed := by kernel_rfl
  f260 := Tryd.func81.trans (congrArg some (by kernel_rfl))
  t0 := Tryd.underlying0
  a0 := Tryd.isAgg0
  z0 := Tryd.sizeOf0
  v0 := Tryd.zeroValue0
  t3 := Tryd.underlying3
  a3 := Tryd.isAgg3
  z3 := Tryd.sizeOf3
  v3 := Tryd.zeroValue3
  t4 := Tryd.underlying4
  a4 := Tryd.isAgg4
  z4 := Tryd.sizeOf4
  v4 := Tryd.zeroValue4
  t5 := Tryd.underlying5
  a5 := Tryd.isAgg5
  z5 := Tryd.sizeOf5
  v5 := Tryd.zeroValue5
  t9 := Tryd.underlying9
  a9 := Tryd.isAgg9
  z9 := Tryd.sizeOf9
  v9 := Tryd.zeroValue9
  t21 := Tryd.underlying21
  a21 := Tryd.isAgg21
  z21 := Tryd.sizeOf21
  v21 := Tryd.zeroValue21
  t46 := Tryd.underlying94
  a46 := Tryd.isAgg94
  z46 := Tryd.sizeOf94
  v46 := Tryd.zeroValue94
  t119 := Tryd.underlying42
  a119 := Tryd.isAgg42
  z119 := Tryd.sizeOf42
  t138 := Tryd.underlying125
  a138 := Tryd.isAgg125
  z138 := Tryd.sizeOf125
  v138 := Tryd.zeroValue125
  t139 := Tryd.underlying126
  a139 := Tryd.isAgg126
  z139 := Tryd.sizeOf126
  v139 := Tryd.zeroValue126
  g3 := by kernel_rfl
  g4 := by kernel_rfl }
open Go.RowKit Go.Lib in
theorem Tryd.utf8_decodeRuneInStringSlow (s : ByteArray) (w : World) (hT : Lib.Utf8Tabs 1 2 w) :
    Calls Tryd.prog 81 #[.string s] w fun e w' => e = .returned (.tuple #[.int .i32 (Lib.decodeGo s).1, .int .i64 (Lib.decodeGo s).2]) ∧ Below w.heap.size w w' := Any.utf8_decodeRuneInStringSlow Tryd.lays260 s w hT
def Tryd.lays197_ren : Go.Shelf.Ren := ⟨fun | 197 => 69 | 260 => 81 | n => n, fun | 9 => 9 | 21 => 21 | 3 => 3 | 4 => 4 | 5 => 5 | 105 => 109 | 119 => 42 | 0 => 0 | 46 => 94 | 139 => 126 | 138 => 125 | n => n, fun | 3 => 1 | 4 => 2 | n => n⟩
theorem Tryd.lays197 : Go.Proofs.Lays.n197 Tryd.prog Tryd.lays197_ren := {
  mixed := by kernel_rfl
  f197 := Tryd.func69.trans (congrArg some (by kernel_rfl))
  f260 := Tryd.func81.trans (congrArg some (by kernel_rfl))
  t0 := Tryd.underlying0
  a0 := Tryd.isAgg0
  z0 := Tryd.sizeOf0
  v0 := Tryd.zeroValue0
  t3 := Tryd.underlying3
  a3 := Tryd.isAgg3
  z3 := Tryd.sizeOf3
  v3 := Tryd.zeroValue3
  t4 := Tryd.underlying4
  a4 := Tryd.isAgg4
  z4 := Tryd.sizeOf4
  v4 := Tryd.zeroValue4
  t5 := Tryd.underlying5
  a5 := Tryd.isAgg5
  z5 := Tryd.sizeOf5
  v5 := Tryd.zeroValue5
  t9 := Tryd.underlying9
  a9 := Tryd.isAgg9
  z9 := Tryd.sizeOf9
  v9 := Tryd.zeroValue9
  t21 := Tryd.underlying21
  a21 := Tryd.isAgg21
  z21 := Tryd.sizeOf21
  v21 := Tryd.zeroValue21
  t46 := Tryd.underlying94
  a46 := Tryd.isAgg94
  z46 := Tryd.sizeOf94
  v46 := Tryd.zeroValue94
  t105 := Tryd.underlying109
  a105 := Tryd.isAgg109
  z105 := Tryd.sizeOf109
  v105 := Tryd.zeroValue109
  t119 := Tryd.underlying42
  a119 := Tryd.isAgg42
  z119 := Tryd.sizeOf42
  t138 := Tryd.underlying125
  a138 := Tryd.isAgg125
  z138 := Tryd.sizeOf125
  v138 := Tryd.zeroValue125
  t139 := Tryd.underlying126
  a139 := Tryd.isAgg126
  z139 := Tryd.sizeOf126
  v139 := Tryd.zeroValue126
  g3 := by kernel_rfl
  g4 := by kernel_rfl }
open Go.RowKit Go.Lib in
/-- **unicode/utf8.DecodeRuneInString AT EVERY STRING.** (LAID: no walk: one application.) -/
theorem Tryd.utf8_DecodeRuneInString (s : ByteArray) (w : World) (hT : Lib.Utf8Tabs 1 2 w) :
    Calls Tryd.prog 69 #[.string s] w fun e w' => e = .returned (.tuple #[.int .i32 (Lib.decodeGo s).1, .int .i64 (Lib.decodeGo s).2]) ∧ Below w.heap.size w w' := Any.utf8_DecodeRuneInString Tryd.lays197 s w hT
def Tryd.lays271_ren : Go.Shelf.Ren := ⟨fun | 271 => 71 | 120 => 82 | 197 => 69 | 260 => 81 | n => n, fun | 9 => 9 | 21 => 21 | 3 => 3 | 4 => 4 | 5 => 5 | 105 => 109 | 119 => 42 | 0 => 0 | 46 => 94 | 139 => 126 | 138 => 125 | n => n, fun | 3 => 1 | 4 => 2 | n => n⟩
theorem Tryd.lays271 : Go.Proofs.Lays.n271 Tryd.prog Tryd.lays271_ren := {
  mixed := by kernel_rfl
  f120 := Tryd.func82.trans (congrArg some (by kernel_rfl))
  f197 := Tryd.func69.trans (congrArg some (by kernel_rfl))
  f260 := Tryd.func81.trans (congrArg some (by kernel_rfl))
  f271 := Tryd.func71.trans (congrArg some (by kernel_rfl))
  t0 := Tryd.underlying0
  a0 := Tryd.isAgg0
  z0 := Tryd.sizeOf0
  v0 := Tryd.zeroValue0
  t3 := Tryd.underlying3
  a3 := Tryd.isAgg3
  z3 := Tryd.sizeOf3
  v3 := Tryd.zeroValue3
  t4 := Tryd.underlying4
  a4 := Tryd.isAgg4
  z4 := Tryd.sizeOf4
  v4 := Tryd.zeroValue4
  t5 := Tryd.underlying5
  a5 := Tryd.isAgg5
  z5 := Tryd.sizeOf5
  v5 := Tryd.zeroValue5
  t9 := Tryd.underlying9
  a9 := Tryd.isAgg9
  z9 := Tryd.sizeOf9
  v9 := Tryd.zeroValue9
  t21 := Tryd.underlying21
  a21 := Tryd.isAgg21
  z21 := Tryd.sizeOf21
  v21 := Tryd.zeroValue21
  t46 := Tryd.underlying94
  a46 := Tryd.isAgg94
  z46 := Tryd.sizeOf94
  v46 := Tryd.zeroValue94
  t105 := Tryd.underlying109
  a105 := Tryd.isAgg109
  z105 := Tryd.sizeOf109
  v105 := Tryd.zeroValue109
  t119 := Tryd.underlying42
  a119 := Tryd.isAgg42
  z119 := Tryd.sizeOf42
  t138 := Tryd.underlying125
  a138 := Tryd.isAgg125
  z138 := Tryd.sizeOf125
  v138 := Tryd.zeroValue125
  t139 := Tryd.underlying126
  a139 := Tryd.isAgg126
  z139 := Tryd.sizeOf126
  v139 := Tryd.zeroValue126
  g3 := by kernel_rfl
  g4 := by kernel_rfl }
open Go.RowKit Go.Lib in
/-- **unicode/utf8.DecodeLastRuneInString AT EVERY STRING.** (LAID: no walk: one application.) -/
theorem Tryd.utf8_DecodeLastRuneInString (s : ByteArray) (w : World) (hs : s.size ≤ 9223372036854775807) (hT : Lib.Utf8Tabs 1 2 w) :
    Calls Tryd.prog 71 #[.string s] w fun e w' => e = .returned (.tuple #[.int .i32 (Lib.decodeLastL s.data.toList).1, .int .i64 (Lib.decodeLastL s.data.toList).2]) ∧ Below w.heap.size w w' := Any.utf8_DecodeLastRuneInString Tryd.lays271 s w hs hT
end Go.Proofs

/- strings.IndexRune of a rune beyond ASCII in the two bytes 0 and '/': -1. -/

namespace Go.Proofs.YtgciocgdppaaiaaDoor
open Go.RowKit

theorem quiet_add_same {P : Program} {f : FuncId} {args : Array Value} {w : World} {a n : Nat} {v : Value}
    (h : Calls P f args (w.drewN (a + n)) fun e w' => e = .returned v ∧ w' = w.drewN (a + n)) :
    Calls P f args (w.drewN (a + n)) fun e w'' => e = .returned v ∧ ∃ m, w'' = w.drewN (a + m) :=
  h.mono fun _ _ ⟨he, hm⟩ => ⟨he, n, hm⟩

set_option maxRecDepth 100000 in
set_option maxHeartbeats 2000000 in
theorem ir_bad (r : Int) (w : World) (h1 : 128 ≤ r) (h3 : (r == 65533) = false) (h2 : Lib.validRune r = false) :
    Calls Tryd.prog 79 #[.string ⟨#[0, 47]⟩, .int .i32 r] w fun e w' => e = .returned (.int .i64 (-1)) ∧ w' = w := by
  have hd0 : decide (0 ≤ r) = true := decide_eq_true (by omega)
  have hd1 : decide (r < 128) = false := decide_eq_false (by omega)
  go_enter Tryd.func79, Tryd.ntmps79
  go_wp2_with fail
  refine (Tryd.utf8_ValidRune _ _).mono ?_
  rintro e w' ⟨rfl, rfl⟩
  rw [h2]
  go_wp2
  go_ret
  exact ⟨rfl, rfl⟩

set_option maxRecDepth 100000 in
set_option maxHeartbeats 2000000 in
theorem ir_err (w : World) :
    Calls Tryd.prog 79 #[.string ⟨#[0, 47]⟩, .int .i32 65533] w fun e w' => e = .returned (.int .i64 (-1)) ∧ w' = w.iter ⟨#[0, 47]⟩ 2 := by
  go_enter Tryd.func79, Tryd.ntmps79
  go_wp2
  go_loopg [5, 6] 2 (fun g _ _ wx => ∃ i : Nat, i + g = 2 ∧ wx = w.iter ⟨#[0, 47]⟩ i)
  case atStart => exact ⟨0, by omega, rfl⟩
  case round =>
    obtain ⟨i, hig, rfl⟩ := hrel
    cases gk with
    | zero =>
      obtain rfl : i = 2 := by omega
      have hnx := fun ty => run_next_end (P := Tryd.prog) w ⟨#[0, 47]⟩ 2 ty (by decide)
      go_wp2
      go_ret
      exact ⟨rfl, rfl⟩
    | succ g =>
      rcases (by omega : i = 0 ∨ i = 1) with rfl | rfl
      · have hnx := fun ty => run_next_ascii (P := Tryd.prog) w ⟨#[0, 47]⟩ 0 ty (by decide) (by decide)
        go_wp2
        go_roundg g
        case measure => omega
        case rel => exact ⟨1, by omega, rfl⟩
      · have hnx := fun ty => run_next_ascii (P := Tryd.prog) w ⟨#[0, 47]⟩ 1 ty (by decide) (by decide)
        go_wp2
        go_roundg g
        case measure => omega
        case rel => exact ⟨2, by omega, rfl⟩


theorem enc2 (r : Int) (h1 : 128 ≤ r) (h2 : r ≤ 2047) : Utf8.encode r = ⟨#[UInt8.ofNat (0xC0 + r.toNat / 64), UInt8.ofNat (0x80 + r.toNat % 64)]⟩ := by
  have hv : Utf8.valid r = true := by unfold Utf8.valid; simp; omega
  unfold Utf8.encode
  simp only [hv, if_true]
  rw [if_neg (by omega), if_pos (by omega)]
theorem enc3 (r : Int) (h1 : 2048 ≤ r) (h2 : r ≤ 65535) (hv : Utf8.valid r = true) : ∃ a b c, Utf8.encode r = ⟨#[a, b, c]⟩ := by
  unfold Utf8.encode
  simp only [hv, if_true]
  rw [if_neg (by omega), if_neg (by omega), if_pos (by omega)]
  exact ⟨_, _, _, rfl⟩
theorem enc4 (r : Int) (h1 : 65536 ≤ r) (hv : Utf8.valid r = true) : ∃ a b c d, Utf8.encode r = ⟨#[a, b, c, d]⟩ := by
  unfold Utf8.encode
  simp only [hv, if_true]
  rw [if_neg (by omega), if_neg (by omega), if_neg (by omega)]
  exact ⟨_, _, _, _, rfl⟩

set_option maxRecDepth 100000 in
set_option maxHeartbeats 2000000 in
theorem ir_three (r : Int) (w : World) (h1 : 128 ≤ r) (h3 : (r == 65533) = false) (h2 : Lib.validRune r = true) (a b c : UInt8) (he : Utf8.encode r = ⟨#[a, b, c]⟩) :
    Calls Tryd.prog 79 #[.string ⟨#[0, 47]⟩, .int .i32 r] w fun e w' => e = .returned (.int .i64 (-1)) ∧ w' = w := by
  have hd0 : decide (0 ≤ r) = true := decide_eq_true (by omega)
  have hd1 : decide (r < 128) = false := decide_eq_false (by omega)
  go_enter Tryd.func79, Tryd.ntmps79
  go_wp2_with (go_at_call 86; refine (Tryd.utf8_ValidRune _ _).mono ?_; rintro e w' ⟨rfl, rfl⟩; rw [h2])
  go_step3
  go_wp2
  refine wp_loop_rounds 1 ?_
  rw [rounds_succ]
  go_wp2
  (try rw [Exit.noGoto_ret])
  go_ret
  exact ⟨rfl, rfl⟩

set_option maxRecDepth 100000 in
set_option maxHeartbeats 2000000 in
theorem ir_four (r : Int) (w : World) (h1 : 128 ≤ r) (h3 : (r == 65533) = false) (h2 : Lib.validRune r = true) (a b c d : UInt8) (he : Utf8.encode r = ⟨#[a, b, c, d]⟩) :
    Calls Tryd.prog 79 #[.string ⟨#[0, 47]⟩, .int .i32 r] w fun e w' => e = .returned (.int .i64 (-1)) ∧ w' = w := by
  have hd0 : decide (0 ≤ r) = true := decide_eq_true (by omega)
  have hd1 : decide (r < 128) = false := decide_eq_false (by omega)
  go_enter Tryd.func79, Tryd.ntmps79
  go_wp2_with (go_at_call 86; refine (Tryd.utf8_ValidRune _ _).mono ?_; rintro e w' ⟨rfl, rfl⟩; rw [h2])
  go_step3
  go_wp2
  refine wp_loop_rounds 1 ?_
  rw [rounds_succ]
  go_wp2
  (try rw [Exit.noGoto_ret])
  go_ret
  exact ⟨rfl, rfl⟩


set_option maxRecDepth 100000 in
set_option maxHeartbeats 2000000 in
theorem ir_two (r : Int) (w : World) (h1 : 128 ≤ r) (h3 : (r == 65533) = false) (h2 : Lib.validRune r = true) (a b : UInt8) (he : Utf8.encode r = ⟨#[a, b]⟩) (hb : (((({ data := #[0, 47] } : ByteArray)[1]'(by decide)).toNat : Int) != ((({ data := #[a, b] } : ByteArray)[1]'(by show 1 < 2; omega)).toNat : Int)) = true) :
    Calls Tryd.prog 79 #[.string ⟨#[0, 47]⟩, .int .i32 r] w fun e w' => e = .returned (.int .i64 (-1)) ∧ ∃ n, w' = w.drewN n := by
  have hd0 : decide (0 ≤ r) = true := decide_eq_true (by omega)
  have hd1 : decide (r < 128) = false := decide_eq_false (by omega)
  go_enter Tryd.func79, Tryd.ntmps79
  go_wp2_with (go_at_call 86; refine (Tryd.utf8_ValidRune _ _).mono ?_; rintro e w' ⟨rfl, rfl⟩; rw [h2])
  go_step3
  go_wp2
  refine wp_loop_rounds 1 ?_
  rw [rounds_succ]
  go_wp2
  go_step3
  go_wp2
  go_quiet (fail)
  go_wp2
  go_quiet ((go_at_call 85; exact quiet_add_same (Tryd.strings_IndexByte _ _ _)))
  go_wp2
  · rw [Exit.noGoto_ret]
    go_wp2
    rw [Exit.noGoto_ret]
    go_ret
    exact ⟨rfl, _, rfl⟩

theorem iter_below (w : World) (s : ByteArray) (n : Nat) : Below w.heap.size w (w.iter s n) := (Below.refl _ _).alloc (Nat.le_refl _) _
theorem pbelow_drewN {B : Nat} {a w : World} (h : Below B a w) (n : Nat) : Below B a (w.drewN n) := ⟨h.os, h.tape, h.output, h.size, h.block⟩

/-- Every rune beyond ASCII. -/
theorem ir_any (r : Int) (w : World) (h1 : 128 ≤ r) (h2 : r ≤ 1114111) :
    Calls Tryd.prog 79 #[.string ⟨#[0, 47]⟩, .int .i32 r] w fun e w' => e = .returned (.int .i64 (-1)) ∧ Below w.heap.size w w' := by
  by_cases h3 : r = 65533
  · subst h3
    exact (ir_err w).mono fun e w' ⟨he, hw⟩ => ⟨he, by rw [hw]; exact iter_below _ _ _⟩
  · have h3' : (r == 65533) = false := beq_eq_false_iff_ne.2 h3
    cases hv : Lib.validRune r with
    | false => exact (ir_bad r w h1 h3' hv).mono fun e w' ⟨he, hw⟩ => ⟨he, by rw [hw]; exact Below.refl _ _⟩
    | true =>
      have hv2 : Utf8.valid r = true := by
        unfold Lib.validRune at hv
        unfold Utf8.valid
        simp at hv ⊢
        omega
      by_cases ha : r ≤ 2047
      · refine (ir_two r w h1 h3' hv _ _ (enc2 r h1 ha) ?_).mono fun e w' ⟨he, n, hw⟩ => ⟨he, by rw [hw]; exact pbelow_drewN (Below.refl _ _) n⟩
        rw [bne_iff_ne]
        show (47 : Int) ≠ ((UInt8.ofNat (0x80 + r.toNat % 64)).toNat : Int)
        rw [UInt8.toNat_ofNat']
        omega
      · by_cases hb : r ≤ 65535
        · obtain ⟨a, b, c, he⟩ := enc3 r (by omega) hb hv2
          exact (ir_three r w h1 h3' hv a b c he).mono fun e w' ⟨he, hw⟩ => ⟨he, by rw [hw]; exact Below.refl _ _⟩
        · obtain ⟨a, b, c, d, he⟩ := enc4 r (by omega) hv2
          exact (ir_four r w h1 h3' hv a b c d he).mono fun e w' ⟨he, hw⟩ => ⟨he, by rw [hw]; exact Below.refl _ _⟩


end Go.Proofs.YtgciocgdppaaiaaDoor

namespace Go.Proofs.YtgciocgdppaaiaaDoor
open Go.RowKit

set_option maxHeartbeats 2000000 in
theorem dec_high (n b0 b1 b2 b3 : Nat) (h0 : 128 ≤ b0) (h1 : b0 < 256) : 128 ≤ (Lib.decodeN n b0 b1 b2 b3).1 ∧
    (∀ j, j < (Lib.decodeN n b0 b1 b2 b3).2 → (j = 0) ∨ (j = 1 ∧ 128 ≤ b1) ∨ (j = 2 ∧ 128 ≤ b2) ∨ (j = 3 ∧ 128 ≤ b3)) := by
  unfold Lib.decodeN
  repeat' split
  all_goals (refine ⟨by simp only; omega, fun j hj => ?_⟩; simp only at hj; omega)

theorem get_at (s : ByteArray) (j : Nat) (x : UInt8) (h : s.data.toList[j]? = some x) : s.get! j = x := by
  have hj : j < s.data.toList.length := (List.getElem?_eq_some_iff.1 h).1
  have e := (List.getElem?_eq_some_iff.1 h).2
  have hj' : j < s.data.size := by simpa using hj
  rw [← e]
  show s.data[j]! = s.data[j]
  exact getElem!_pos s.data j hj'

theorem dec_at_high (s : ByteArray) (i : Nat) (h0 : 128 ≤ (s.get! i).toNat) : 128 ≤ (Utf8.decode s i).1 ∧ ∀ j x, i ≤ j → j < i + (Utf8.decode s i).2 → s.data.toList[j]? = some x → 128 ≤ x.toNat := by
  have h := dec_high (s.size - i) (s.get! i).toNat (s.get! (i + 1)).toNat (s.get! (i + 2)).toNat (s.get! (i + 3)).toNat h0 (UInt8.toNat_lt _)
  rw [← Lib.decode_at] at h
  refine ⟨h.1, fun j x hij hj hx => ?_⟩
  have hg := get_at s j x hx
  rcases h.2 (j - i) (by omega) with e | ⟨e, hb⟩ | ⟨e, hb⟩ | ⟨e, hb⟩
  · obtain rfl : j = i := by omega
    rw [← hg]; exact h0
  · obtain rfl : j = i + 1 := by omega
    rw [← hg]; exact hb
  · obtain rfl : j = i + 2 := by omega
    rw [← hg]; exact hb
  · obtain rfl : j = i + 3 := by omega
    rw [← hg]; exact hb

theorem high_not (x : UInt8) (h : 128 ≤ x.toNat) : ([0, 47] : List UInt8).contains x = false := by
  have h1 : x ≠ 0 := fun e => by subst e; exact absurd h (by decide)
  have h2 : x ≠ 47 := fun e => by subst e; exact absurd h (by decide)
  simp [h1, h2]

theorem noAny_more {s : ByteArray} {i k : Nat} (h : Lib.NoAny s.data.toList [0, 47] i) (h2 : ∀ j x, i ≤ j → j < i + k → s.data.toList[j]? = some x → 128 ≤ x.toNat) : Lib.NoAny s.data.toList [0, 47] (i + k) := fun j b hj hb => by
  by_cases hlt : j < i
  · exact h j b hlt hb
  · exact high_not b (h2 j b (by omega) hj hb)

theorem ir_ascii (r : Int) (w : World) (h0 : 0 ≤ r) (h1 : r < 128) :
    Calls Tryd.prog 79 #[.string ⟨#[0, 47]⟩, .int .i32 r] w fun e w' => e = .returned (.int .i64 (Lib.indexByte [0, 47] r.toNat.toUInt8)) ∧ w' = w := Tryd.strings_IndexRune_ascii ⟨#[0, 47]⟩ r w h0 h1

set_option maxHeartbeats 4000000 in
set_option maxRecDepth 100000 in
theorem indexAny_short (s : ByteArray) (w : World) (h8 : s.size ≤ 8) :
    Calls Tryd.prog 67 #[.string s, .string ⟨#[0, 47]⟩] w fun e w' => e = .returned (.int .i64 (Lib.indexAny s.data.toList [0, 47])) ∧ Below w.heap.size w w' := by
  have h8z : decide ((8 : Int) < (s.size : Int)) = false := decide_eq_false (by omega)
  go_enter Tryd.func67, Tryd.ntmps67
  go_wp2_with (go_at_call 80; refine (Tryd.strings_shouldUseASCIISet _ _).mono ?_; rintro e w' ⟨rfl, hw⟩; rw [hw, h8z])
  go_loopg [9, 10] s.size (fun g _ _ wx => ∃ i : Nat, s.size ≤ i + g ∧ i ≤ s.size ∧ wx.heap[w.heap.size]? = some (.stringIter s i) ∧ Below w.heap.size w wx ∧ Lib.NoAny s.data.toList [0, 47] i)
  case atStart => exact ⟨0, by omega, Nat.zero_le _, World.iter_heap _ _ _, iter_below _ _ _, Lib.NoAny.zero _ _⟩
  case round =>
    obtain ⟨i, hig, his, hit, hbw, hno⟩ := hrel
    have HN := Lib.hid hno
    clear hno
    by_cases hlt : i < s.size
    · obtain ⟨g', rfl⟩ : ∃ g', gk = g' + 1 := ⟨gk - 1, by omega⟩
      have hnx : ∀ ty, (Instr.next (.pointer (some ⟨w.heap.size, 0, none⟩)) true ty).run Tryd.prog wr = _ := fun ty => Lib.run_next_any_at wr w.heap.size s i ty hit hlt
      have hwd := Lib.width_pos s i
      have hwn : i + (Utf8.decode s i).2 ≤ s.size := by
        have := Lib.decodeN_le_n' (s.size - i) (s.get! i).toNat (s.get! (i + 1)).toNat (s.get! (i + 2)).toNat (s.get! (i + 3)).toNat (by omega)
        rw [← Lib.decode_at] at this
        omega
      have hit2 := Lib.iterAt_heap wr w.heap.size s i (i + (Utf8.decode s i).2) hit
      have hbw2 := Lib.below_iterAt hbw (k := w.heap.size) (Nat.le_refl _) s (i + (Utf8.decode s i).2)
      have hrl := Lib.rune_le s i
      obtain ⟨x, hx⟩ : ∃ x : UInt8, s[i]'hlt = x := ⟨_, rfl⟩
      have hxl : s.data.toList[i]? = some x := by rw [← hx]; exact Lib.data_getElem? s i hlt
      have hgx := get_at s i x hxl
      by_cases ha : x.toNat < 128
      · have hd : Utf8.decode s i = (x.toNat, 1) := by rw [decode_ascii s i hlt (by rw [hx]; exact ha), hx]
        rw [hd] at hnx hit2 hbw2 hwn
        obtain ⟨W, hWd⟩ : ∃ W, wr.iterAt w.heap.size s (i + 1) = W := ⟨_, rfl⟩
        dsimp only at hnx hit2 hbw2 hwn
        rw [hWd] at hnx hit2 hbw2
        have hcon := Lib.contains_iff_indexByte [0, 47] x
        have hback : ((x.toNat : Int)).toNat.toUInt8 = x := by simp
        have HX := Lib.hid hxl
        clear hxl hx hgx hd hWd hit hbw
        cases hin : ([0, 47] : List UInt8).contains x
        · rw [hin] at hcon
          have hlt2 : ¬ ((0 : Int) ≤ Lib.indexByte [0, 47] x) := of_decide_eq_false hcon.symm
          have HI := Lib.hid hin
          clear hcon hin
          go_wp2_with (go_at_call 79; refine (ir_ascii _ _ (by omega) (by omega)).mono ?_; rintro e w' ⟨rfl, hw⟩; rw [hw, hback])
          go_roundg g'
          case measure => omega
          case rel => exact ⟨i + 1, by omega, by omega, hit2, hbw2, HN.out.succ HX.out HI.out⟩
        · rw [hin] at hcon
          have hge : (0 : Int) ≤ Lib.indexByte [0, 47] x := of_decide_eq_true hcon.symm
          have HI := Lib.hid hin
          clear hcon hin
          go_wp2_with (go_at_call 79; refine (ir_ascii _ _ (by omega) (by omega)).mono ?_; rintro e w' ⟨rfl, hw⟩; rw [hw, hback])
          go_ret
          exact ⟨by rw [Lib.indexAny_hit HN.out HX.out HI.out]; rfl, hbw2⟩
      · have hhi := dec_at_high s i (by rw [hgx]; omega)
        obtain ⟨R, hR⟩ : ∃ R, (Utf8.decode s i).1 = R := ⟨_, rfl⟩
        obtain ⟨K, hK⟩ : ∃ K, (Utf8.decode s i).2 = K := ⟨_, rfl⟩
        rw [hR, hK] at hnx hhi
        rw [hK] at hit2 hbw2 hwn hwd
        rw [hR] at hrl
        obtain ⟨W, hWd⟩ : ∃ W, wr.iterAt w.heap.size s (i + K) = W := ⟨_, rfl⟩
        rw [hWd] at hnx hit2 hbw2
        obtain ⟨hhi1, hhi2⟩ := hhi
        have HH := Lib.hid hhi2
        clear hhi2 hxl hx hgx hWd hit hbw hR hK
        go_wp2_with (go_at_call 79; refine (ir_any _ _ (by omega) (by omega)).mono ?_; rintro e w' ⟨rfl, hbw3⟩)
        go_roundg g'
        case measure => omega
        case rel => exact ⟨i + K, by omega, by omega, (hbw3.block _ (Array.getElem?_eq_some_iff.1 hit2).1).trans hit2, hbw2.trans (hbw3.mono hbw2.size), noAny_more HN.out HH.out⟩
    · obtain rfl : i = s.size := by omega
      have hnx : ∀ ty, (Instr.next (.pointer (some ⟨w.heap.size, 0, none⟩)) true ty).run Tryd.prog wr = _ := fun ty => Lib.run_next_end_at wr w.heap.size s s.size ty hit hlt
      go_wp2
      go_ret
      exact ⟨by rw [Lib.indexAny_none (by rw [← Lib.size_eq]; exact HN.out)]; rfl, hbw⟩


theorem hv88 : ∀ w, (zeroValue 88).run Tryd.prog w = .ok (.agg (Array.replicate 256 (.bool false))) w := fun w => by kernel_rfl

theorem indexAny_all (s : ByteArray) (w : World) (hs : s.size < 4294967281) :
    Calls Tryd.prog 67 #[.string s, .string ⟨#[0, 47]⟩] w fun e w' => e = .returned (.int .i64 (Lib.indexAny s.data.toList [0, 47])) ∧ Below w.heap.size w w' := by
  by_cases h8 : s.size ≤ 8
  · exact indexAny_short s w h8
  · refine (Tryd.strings_IndexAny_long hv88 s ⟨#[0, 47]⟩ w (by decide) (by omega) hs (by decide) ?_).mono fun e w' ⟨he, hw⟩ => ⟨he, ?_⟩
    · intro j b hj
      match j, hj with
      | 0, hj => cases hj; decide
      | 1, hj => cases hj; decide
      | (j + 2), hj => cases hj
    · rw [hw]
      exact ((Below.refl _ _).alloc (Nat.le_refl _) _).alloc (by simp) _

/-- Does a text have a byte 0 or a slash. -/
def hasBad (s : ByteArray) : Bool := decide (0 ≤ Lib.indexAny s.data.toList [0, 47])

set_option maxHeartbeats 2000000 in
set_option maxRecDepth 100000 in
theorem containsAny_all (s : ByteArray) (w : World) (hs : s.size < 4294967281) :
    Calls Tryd.prog 48 #[.string s, .string ⟨#[0, 47]⟩] w fun e w' => e = .returned (.bool (hasBad s)) ∧ Below w.heap.size w w' := by
  go_enter Tryd.func48, Tryd.ntmps48
  go_wp2_with (go_at_call 67; refine (indexAny_all s w hs).mono ?_; rintro e w' ⟨rfl, hb⟩)
  go_ret
  exact ⟨rfl, hb⟩

end Go.Proofs.YtgciocgdppaaiaaDoor

namespace Go.Proofs.YtgciocgdppaaiaaDoor.P
open Go.RowKit Go.Proofs.YtgciocgdppaaiaaDoor

def strings_ContainsAny.f (a0 a1 : ByteArray) : Option Bool := if a1.data.toList = [0, 47] ∧ a0.size < 4294967281 then some (hasBad a0) else none
theorem strings_ContainsAny.calls (a0 a1 : ByteArray) (r : Bool) (w : World) (h : strings_ContainsAny.f a0 a1 = some r) :
    Calls Tryd.prog 48 #[.string a0, .string a1] w fun e w' => e = .returned (.bool r) ∧ Below w.heap.size w w' := by
  unfold strings_ContainsAny.f at h
  by_cases hc : a1.data.toList = [0, 47] ∧ a0.size < 4294967281
  · rw [if_pos hc] at h
    obtain rfl := Option.some.inj h
    obtain ⟨hc1, hc2⟩ := hc
    obtain rfl : a1 = ⟨#[0, 47]⟩ := by
      obtain ⟨⟨l⟩⟩ := a1
      simp only at hc1
      subst hc1
      rfl
    exact containsAny_all a0 w hc2
  · rw [if_neg hc] at h
    cases h

end Go.Proofs.YtgciocgdppaaiaaDoor.P

-- Printed by wip/tools/myprint.py (the kit's print over given contracts).
namespace Go.Proofs.YtgciocgdppaaiaaDoor.P
open Go.RowKit Go.Proofs.YtgciocgdppaaiaaDoorW.PrintWords Go.Proofs.YtgciocgdppaaiaaDoorW.PrintLast Go.Proofs.YtgciocgdppaaiaaDoorW.PrintMore
attribute [local go_sem] max2_int min2_int max_two min_two max_three min_three max_four min_four Go.Proofs.YtgciocgdppaaiaaDoor.bytesLess_flip Go.Proofs.YtgciocgdppaaiaaDoor.bytesLess_flip2
set_option linter.unusedVariables false
set_option linter.unusedSimpArgs false

/-! ### name_Check: function 29 -/
def name_Check.f (a0 : ByteArray) : Option (Int) := if a0.toList = ([] : List UInt8) then (some 130) else (if (a0.size : Int) > 56 then (some 130) else ((strings_ContainsAny.f a0 (⟨#[0, 47]⟩ : ByteArray)).bind fun t125 => (if t125 = true then (some 130) else (if a0.toList = ([46] : List UInt8) then (some 130) else (if a0.toList = ([46, 46] : List UInt8) then (some 130) else (some 0))))))
set_option maxHeartbeats 8000000 in
set_option maxRecDepth 100000 in
theorem name_Check.calls (a0 : ByteArray) (r : Int) (w : World) (h : name_Check.f a0 = some r) :
    Calls Tryd.prog 29 #[.string a0] w fun e w' => e = .returned (.int .i64 r) ∧ Below w.heap.size w w' := by
  have HB := Aside0.mk (Below.refl w.heap.size w)
  have H : (if a0.toList = ([] : List UInt8) then (some 130) else (if (a0.size : Int) > 56 then (some 130) else ((strings_ContainsAny.f a0 (⟨#[0, 47]⟩ : ByteArray)).bind fun t125 => (if t125 = true then (some 130) else (if a0.toList = ([46] : List UInt8) then (some 130) else (if a0.toList = ([46, 46] : List UInt8) then (some 130) else (some 0))))))) = some r := h
  clear h
  by_cases c2 : a0.toList = ([] : List UInt8)
  · rw [if_pos c2] at H
    have c2b0 : (a0.toList == ([] : List UInt8)) = true := beq_iff_eq.mpr c2
    have c2b1 : (a0.toList != ([] : List UInt8)) = false := bne_eq_false_iff_eq.mpr c2
    clear c2
    obtain rfl := Option.some.inj H
    go_enter Tryd.func29, Tryd.ntmps29
    go_wp2
    go_ret
    exact ⟨by first | rfl | (simp [errW_none, errW_some] <;> rfl) | (simp [*, errW_none, errW_some] <;> rfl), by repeat (first | (with_reducible first | exact HB.out | apply below_alloc | apply pw_below_drewN | apply below_drew1) | exact HB.out)⟩
  · rw [if_neg c2] at H
    have c2b0 : (a0.toList == ([] : List UInt8)) = false := beq_eq_false_iff_ne.mpr c2
    have c2b1 : (a0.toList != ([] : List UInt8)) = true := bne_iff_ne.mpr c2
    by_cases c3 : (a0.size : Int) > 56
    · rw [if_pos c3] at H
      have c3b0 : decide (56 < (a0.size : Int)) = true := decide_eq_true c3
      have c3b1 : decide (56 < a0.size) = true := decide_eq_true (by omega)
      clear c3
      obtain rfl := Option.some.inj H
      go_enter Tryd.func29, Tryd.ntmps29
      go_wp2
      go_ret
      exact ⟨by first | rfl | (simp [errW_none, errW_some] <;> rfl) | (simp [*, errW_none, errW_some] <;> rfl), by repeat (first | (with_reducible first | exact HB.out | apply below_alloc | apply pw_below_drewN | apply below_drew1) | exact HB.out)⟩
    · rw [if_neg c3] at H
      have c3b0 : decide (56 < (a0.size : Int)) = false := decide_eq_false c3
      have c3b1 : decide (56 < a0.size) = false := decide_eq_false (by omega)
      clear c3
      replace H := Option.bind_eq_some_iff.mp H
      obtain ⟨t125, A40, H⟩ := H
      replace H : (if t125 = true then (some 130) else (if a0.toList = ([46] : List UInt8) then (some 130) else (if a0.toList = ([46, 46] : List UInt8) then (some 130) else (some 0)))) = some r := H
      have A4 := Aside0.mk A40
      clear A40
      by_cases c5 : t125 = true
      · subst c5
        have H1 : (some 130) = some r := by rw [if_pos rfl] at H; exact H
        clear H
        have H := H1
        clear H1
        obtain rfl := Option.some.inj H
        go_enter Tryd.func29, Tryd.ntmps29
        go_wp2_with (first | (go_at_call 48; (with_reducible refine (strings_ContainsAny.calls a0 (⟨#[0, 47]⟩ : ByteArray) true _ A4.out).mono ?_); rintro e w6 ⟨rfl, hb⟩; have n0_ := Aside0.mk (below_step (by repeat (first | (with_reducible first | exact HB.out | apply below_alloc | apply pw_below_drewN | apply below_drew1) | exact HB.out)) hb); clear HB; have HB := n0_; clear n0_; (try clear hb); (try clear hb2); (try clear hk); (try clear hi)))
        go_ret
        exact ⟨by first | rfl | (simp [errW_none, errW_some] <;> rfl) | (simp [*, errW_none, errW_some] <;> rfl), by repeat (first | (with_reducible first | exact HB.out | apply below_alloc | apply pw_below_drewN | apply below_drew1) | exact HB.out)⟩
      · replace c5 := Bool.eq_false_iff.mpr c5
        subst c5
        have H1 : (if a0.toList = ([46] : List UInt8) then (some 130) else (if a0.toList = ([46, 46] : List UInt8) then (some 130) else (some 0))) = some r := by rw [if_neg (show ¬ (false = true) by decide)] at H; exact H
        clear H
        have H := H1
        clear H1
        by_cases c7 : a0.toList = ([46] : List UInt8)
        · rw [if_pos c7] at H
          have c7b0 : (a0.toList == ([46] : List UInt8)) = true := beq_iff_eq.mpr c7
          have c7b1 : (a0.toList != ([46] : List UInt8)) = false := bne_eq_false_iff_eq.mpr c7
          clear c7
          obtain rfl := Option.some.inj H
          go_enter Tryd.func29, Tryd.ntmps29
          go_wp2_with (first | (go_at_call 48; (with_reducible refine (strings_ContainsAny.calls a0 (⟨#[0, 47]⟩ : ByteArray) false _ A4.out).mono ?_); rintro e w8 ⟨rfl, hb⟩; have n0_ := Aside0.mk (below_step (by repeat (first | (with_reducible first | exact HB.out | apply below_alloc | apply pw_below_drewN | apply below_drew1) | exact HB.out)) hb); clear HB; have HB := n0_; clear n0_; (try clear hb); (try clear hb2); (try clear hk); (try clear hi)))
          go_ret
          exact ⟨by first | rfl | (simp [errW_none, errW_some] <;> rfl) | (simp [*, errW_none, errW_some] <;> rfl), by repeat (first | (with_reducible first | exact HB.out | apply below_alloc | apply pw_below_drewN | apply below_drew1) | exact HB.out)⟩
        · rw [if_neg c7] at H
          have c7b0 : (a0.toList == ([46] : List UInt8)) = false := beq_eq_false_iff_ne.mpr c7
          have c7b1 : (a0.toList != ([46] : List UInt8)) = true := bne_iff_ne.mpr c7
          by_cases c9 : a0.toList = ([46, 46] : List UInt8)
          · rw [if_pos c9] at H
            have c9b0 : (a0.toList == ([46, 46] : List UInt8)) = true := beq_iff_eq.mpr c9
            have c9b1 : (a0.toList != ([46, 46] : List UInt8)) = false := bne_eq_false_iff_eq.mpr c9
            clear c9
            obtain rfl := Option.some.inj H
            go_enter Tryd.func29, Tryd.ntmps29
            go_wp2_with (first | (go_at_call 48; (with_reducible refine (strings_ContainsAny.calls a0 (⟨#[0, 47]⟩ : ByteArray) false _ A4.out).mono ?_); rintro e w10 ⟨rfl, hb⟩; have n0_ := Aside0.mk (below_step (by repeat (first | (with_reducible first | exact HB.out | apply below_alloc | apply pw_below_drewN | apply below_drew1) | exact HB.out)) hb); clear HB; have HB := n0_; clear n0_; (try clear hb); (try clear hb2); (try clear hk); (try clear hi)))
            go_ret
            exact ⟨by first | rfl | (simp [errW_none, errW_some] <;> rfl) | (simp [*, errW_none, errW_some] <;> rfl), by repeat (first | (with_reducible first | exact HB.out | apply below_alloc | apply pw_below_drewN | apply below_drew1) | exact HB.out)⟩
          · rw [if_neg c9] at H
            have c9b0 : (a0.toList == ([46, 46] : List UInt8)) = false := beq_eq_false_iff_ne.mpr c9
            have c9b1 : (a0.toList != ([46, 46] : List UInt8)) = true := bne_iff_ne.mpr c9
            obtain rfl := Option.some.inj H
            go_enter Tryd.func29, Tryd.ntmps29
            go_wp2_with (first | (go_at_call 48; (with_reducible refine (strings_ContainsAny.calls a0 (⟨#[0, 47]⟩ : ByteArray) false _ A4.out).mono ?_); rintro e w11 ⟨rfl, hb⟩; have n0_ := Aside0.mk (below_step (by repeat (first | (with_reducible first | exact HB.out | apply below_alloc | apply pw_below_drewN | apply below_drew1) | exact HB.out)) hb); clear HB; have HB := n0_; clear n0_; (try clear hb); (try clear hb2); (try clear hk); (try clear hi)))
            go_ret
            exact ⟨by first | rfl | (simp [errW_none, errW_some] <;> rfl) | (simp [*, errW_none, errW_some] <;> rfl), by repeat (first | (with_reducible first | exact HB.out | apply below_alloc | apply pw_below_drewN | apply below_drew1) | exact HB.out)⟩

end Go.Proofs.YtgciocgdppaaiaaDoor.P

/- name.Encode: an entry's bytes, or the error. -/

namespace Go.Proofs.YtgciocgdppaaiaaDoor
open Go.RowKit Go.Shelf

/-- The error of a name. -/
def checkE (x : ByteArray) : Int := if x.toList = [] then 130 else if 56 < x.size then 130 else if hasBad x = true then 130 else if x.toList = [46] then 130 else if x.toList = [46, 46] then 130 else 0

theorem check_any (x : ByteArray) (w : World) : Calls Tryd.prog 29 #[.string x] w fun e w' => e = .returned (.int .i64 (checkE x)) ∧ Below w.heap.size w w' := by
  refine P.name_Check.calls x _ w ?_
  unfold P.name_Check.f checkE
  by_cases h1 : x.toList = []
  · rw [if_pos h1, if_pos h1]
  · rw [if_neg h1, if_neg h1]
    by_cases h2 : 56 < x.size
    · rw [if_pos (by omega), if_pos h2]
    · rw [if_neg (by omega), if_neg h2]
      have hca : P.strings_ContainsAny.f x (⟨#[0, 47]⟩ : ByteArray) = some (hasBad x) := if_pos ⟨rfl, by omega⟩
      rw [hca]
      simp only [Option.bind_some]
      repeat' split
      all_goals rfl

theorem checkE_size {x : ByteArray} (h : checkE x = 0) : x.size ≤ 56 := by
  refine Classical.byContradiction fun hn => ?_
  unfold checkE at h
  by_cases h1 : x.toList = []
  · rw [if_pos h1] at h; cases h
  · rw [if_neg h1, if_pos (by omega)] at h; cases h


/-- The bytes of an entry. -/
def encB (i : Int) (x : ByteArray) : ByteArray :=
  strOfNums [i % 256, i / 256 % 256, i / 65536 % 256, i / 16777216] ++ strOfNums [(x.size : Int) % 256, (x.size : Int) / 256] ++ (⟨#[0, 0]⟩ : ByteArray) ++ x ++ (⟨(Lib.repeatL [0] (56 - x.size)).toArray⟩ : ByteArray)

theorem alloc_new (w : World) (o : Obj) : (w.alloc o).heap[w.heap.size]? = some o := by
  show (w.heap.push o)[w.heap.size]? = some o
  simp
theorem cells_at {W : World} {b : Nat} {cs : Array Value} {t : TypeId} {fz : Nat × Nat} (h : W.heap[b]? = some (.cells cs t fz)) (j : Nat) (v : Value) (hv : cs[j]? = some v) : W.cell? ⟨b, j, none⟩ = some v := by simp [World.cell?, h, hv]
theorem belowStep {B : Nat} {w W w3 : World} (hs : B ≤ w.heap.size) (h : Below B w W) (k : Below W.heap.size W w3) : Below B w w3 := h.trans (k.mono (Nat.le_trans hs h.size))
theorem belowAlloc {B : Nat} {w W : World} (o : Obj) (hs : B ≤ w.heap.size) (h : Below B w W) : Below B w (W.alloc o) := h.alloc (Nat.le_trans hs h.size) o
theorem alloc_at {w : World} {k : Nat} (o : Obj) (o' : Obj) (h : k = w.heap.size) (e : o = o' := by rfl) : (w.alloc o).heap[k]? = some o' := by subst h; subst e; exact alloc_new w o
theorem alloc_past {w : World} {k : Nat} {x : Obj} (o : Obj) (h : w.heap[k]? = some x) : (w.alloc o).heap[k]? = some x := by
  have hk := (Array.getElem?_eq_some_iff.1 h).1
  exact (Below.heap_alloc w o k hk).trans h
theorem keepS {B : Nat} {i : Int} {x : ByteArray} {W w' : World} (h0 : W.cell? ⟨B, 0, none⟩ = some (.int .i64 i)) (h1 : W.cell? ⟨B, 1, none⟩ = some (.string x)) (hb : Below (B + 1) W w') :
    w'.cell? ⟨B, 0, none⟩ = some (.int .i64 i) ∧ w'.cell? ⟨B, 1, none⟩ = some (.string x) ∧ Below (B + 1) W w' :=
  ⟨(hb.cell (Nat.lt_succ_self B)).trans h0, (hb.cell (Nat.lt_succ_self B)).trans h1, hb⟩

set_option maxRecDepth 100000 in
set_option maxHeartbeats 4000000 in
theorem encode_good (i : Int) (x : ByteArray) (w : World) (h0 : 1 ≤ i) (h1 : i ≤ 4096) (hc : checkE x = 0) :
    Calls Tryd.prog 12 #[.agg #[.int .i64 i, .string x]] w fun e w' => e = .returned (.tuple #[.string (encB i x), .int .i64 0]) ∧ Below w.heap.size w w' := by
  have hx := checkE_size hc
  go_enter Tryd.func12, Tryd.ntmps12
  go_upto_region 6 with (go_at_call 29; refine (check_any _ _).mono ?_; rintro e w' ⟨rfl, hb⟩; rw [hc])
  obtain ⟨W, hW⟩ : ∃ W, w.alloc (Obj.cells #[Value.int IntKind.i64 i, Value.string x] 27) = W := ⟨_, rfl⟩
  have hWs : W.heap.size = w.heap.size + 1 := by rw [← hW]; simp
  have hc0' : W.cell? ⟨w.heap.size, 0, none⟩ = some (.int .i64 i) := by rw [← hW]; exact cells_at (alloc_new w _) 0 _ rfl
  have hc1' : W.cell? ⟨w.heap.size, 1, none⟩ = some (.string x) := by rw [← hW]; exact cells_at (alloc_new w _) 1 _ rfl
  rw [hW, hWs] at hb
  have hc0 : w'.cell? ⟨w.heap.size, 0, none⟩ = some (.int .i64 i) := (hb.cell (Nat.lt_succ_self _)).trans hc0'
  have hc1 : w'.cell? ⟨w.heap.size, 1, none⟩ = some (.string x) := (hb.cell (Nat.lt_succ_self _)).trans hc1'
  have hsz : w.heap.size + 1 ≤ w'.heap.size := by have := hb.size; omega
  clear hc0' hc1'
  obtain ⟨B, hBB⟩ : ∃ B, w.heap.size = B := ⟨_, rfl⟩
  rw [hBB] at hc0 hc1 hsz hb hWs
  simp only [hBB]
  have hw32 : IntKind.u32.wrap i = i := by unfold IntKind.wrap; simp [IntKind.bits, IntKind.signed]; omega
  have hw16 : IntKind.u16.wrap (x.size : Int) = (x.size : Int) := by unfold IntKind.wrap; simp [IntKind.bits, IntKind.signed]; omega
  go_cut [5, 6] (fun n5 n6 wx => ∃ b1 b2, n5 = .pointer (some ⟨b1, 0, none⟩) ∧ n6 = .pointer (some ⟨b2, 0, none⟩) ∧ wx.heap[b1]? = some (.cells #[.int .u8 (i % 256), .int .u8 (i / 256 % 256), .int .u8 (i / 65536 % 256), .int .u8 (i / 16777216)] 64 (0, 0)) ∧ wx.heap[b2]? = some (.cells #[.int .u8 ((x.size : Int) % 256), .int .u8 ((x.size : Int) / 256)] 67 (0, 0)) ∧ Below (B + 1) w' wx)
  case first =>
    go_region_held3 (fun W2 => W2.cell? ⟨B, 0, none⟩ = some (.int .i64 i) ∧ W2.cell? ⟨B, 1, none⟩ = some (.string x) ∧ Below (B + 1) w' W2)
      (first | (refine keepS hc0 hc1 ?_; repeat (first | assumption | exact Below.refl _ _ | (refine Below.drew ?_) | (refine Below.setCell ?_ ?_ _) | (refine belowAlloc _ hsz ?_) | omega | (simp; omega))))
      (first | (go_at_call 34; (try rw [hw32]); refine (bytes32_any i _ ?_ ?_).mono ?_; omega; omega; rintro e w3 ⟨rfl, hw3⟩; rw [hw3]) | (go_at_call 35; (try rw [hw16]); refine (bytes16_any (x.size : Int) _ ?_ ?_).mono ?_; omega; omega; rintro e w4 ⟨rfl, hw4⟩; rw [hw4]))
    all_goals (go_wp2_with fail; go_meet)
    all_goals
      refine ⟨_, _, rfl, rfl, ?_, ?_, ?_⟩
      · repeat (first | (refine alloc_at _ _ ?_; simp; done) | (refine alloc_past _ ?_))
      · repeat (first | (refine alloc_at _ _ ?_; simp; done) | (refine alloc_past _ ?_))
      · repeat (first | exact Below.refl _ _ | (refine Below.drew ?_) | (refine belowAlloc _ hsz ?_))
  case rest =>
    obtain ⟨b1, b2, rfl, rfl, hb1, hb2, hbw⟩ := hcut
    have hd0 := (hbw.cell (p := ⟨B, 0, none⟩) (Nat.lt_succ_self B)).trans hc0
    have hd1 := (hbw.cell (p := ⟨B, 1, none⟩) (Nat.lt_succ_self B)).trans hc1
    have k10 : wc.cell? ⟨b1, 0, none⟩ = some (.int .u8 (i % 256)) := cells_at hb1 0 _ rfl
    have k11 : wc.cell? ⟨b1, 1, none⟩ = some (.int .u8 (i / 256 % 256)) := cells_at hb1 1 _ rfl
    have k12 : wc.cell? ⟨b1, 2, none⟩ = some (.int .u8 (i / 65536 % 256)) := cells_at hb1 2 _ rfl
    have k13 : wc.cell? ⟨b1, 3, none⟩ = some (.int .u8 (i / 16777216)) := cells_at hb1 3 _ rfl
    have k20 : wc.cell? ⟨b2, 0, none⟩ = some (.int .u8 ((x.size : Int) % 256)) := cells_at hb2 0 _ rfl
    have k21 : wc.cell? ⟨b2, 1, none⟩ = some (.int .u8 ((x.size : Int) / 256)) := cells_at hb2 1 _ rfl
    clear hc0 hc1
    have kc1 : (convert 70 9 (.slice (some ⟨b1, 0, none⟩) 4 4)).run Tryd.prog wc.drew = .ok (.string (strOfNums [i % 256, i / 256 % 256, i / 65536 % 256, i / 16777216])) wc.drew :=
      run_convert_bytes_arg wc.drew 70 5 Tryd.underlying70 Tryd.underlying5 b1 0 4 4 _ rfl (fun j hj => by
        match j, hj with
        | 0, _ => exact k10
        | 1, _ => exact k11
        | 2, _ => exact k12
        | 3, _ => exact k13
        | (j + 4), hj => omega) 9 Tryd.underlying9
    have kc2 : (convert 70 9 (.slice (some ⟨b2, 0, none⟩) 2 2)).run Tryd.prog wc.drew = .ok (.string (strOfNums [(x.size : Int) % 256, (x.size : Int) / 256])) wc.drew :=
      run_convert_bytes_arg wc.drew 70 5 Tryd.underlying70 Tryd.underlying5 b2 0 2 2 _ rfl (fun j hj => by
        match j, hj with
        | 0, _ => exact k20
        | 1, _ => exact k21
        | (j + 2), hj => omega) 9 Tryd.underlying9
    have ht1 : (strOfNums [i % 256, i / 256 % 256, i / 65536 % 256, i / 16777216]).size = 4 := rfl
    have ht2 : (strOfNums [(x.size : Int) % 256, (x.size : Int) / 256]).size = 2 := rfl
    have hx8 : ¬ (9223372036854775807 < 8 + x.size) := by omega
    obtain ⟨t1, hT1⟩ : ∃ t, strOfNums [i % 256, i / 256 % 256, i / 65536 % 256, i / 16777216] = t := ⟨_, rfl⟩
    obtain ⟨t2, hT2⟩ : ∃ t, strOfNums [(x.size : Int) % 256, (x.size : Int) / 256] = t := ⟨_, rfl⟩
    rw [hT1] at kc1 ht1
    rw [hT2] at kc2 ht2
    go_wp2
    go_region
    have hs8 : (t1 ++ t2 ++ (⟨#[0, 0]⟩ : ByteArray) ++ x).size = 8 + x.size := by
      rw [ByteArray.size_append, ByteArray.size_append, ByteArray.size_append, ht1, ht2]; rfl
    obtain ⟨s, hsdef⟩ : ∃ s, t1 ++ t2 ++ (⟨#[0, 0]⟩ : ByteArray) ++ x = s := ⟨_, rfl⟩
    rw [hsdef] at hs8
    simp only [hsdef]
    have hrep : 64 - (8 + (x.size : Int)) = ((56 - x.size : Nat) : Int) := by omega
    obtain ⟨z, hz⟩ : ∃ z : ByteArray, (⟨(Lib.repeatL [0] (56 - x.size)).toArray⟩ : ByteArray) = z := ⟨_, rfl⟩
    have hzs : z.size = 56 - x.size := by rw [← hz]; show (Lib.repeatL [0] (56 - x.size)).length = _; rw [Lib.repeatL_length]; simp
    have hcat : ¬ (9223372036854775807 < 8 + x.size + z.size) := by omega
    have hR : ∀ W5, Calls Tryd.prog 36 #[.string ⟨#[0]⟩, .int .i64 ((56 - x.size : Nat) : Int)] W5 fun e w' => e = .returned (.string z) ∧ Below W5.heap.size W5 w' := fun W5 => by
      have := Tryd.strings_Repeat ⟨#[0]⟩ (56 - x.size) W5 (by omega) (by show 1 * (56 - x.size) ≤ _; omega)
      rw [show (⟨#[0]⟩ : ByteArray).data.toList = [0] from rfl, hz] at this
      exact this
    clear hzs
    clear kc1 kc2 hd0 hd1 k10 k11 k12 k13 k20 k21
    go_wp2_with (go_at_call 36; (try rw [hrep]); refine (hR _).mono ?_; rintro e w5 ⟨rfl, hb5⟩)
    go_ret2
    refine ⟨?_, ?_⟩
    · rw [← hsdef, ← hT1, ← hT2, ← hz]; rfl
    · have hb6 : Below (B + 1) wc.drew w5 := hb5.mono (by have := hbw.size; simp; omega)
      have hb7 : Below B w W := by rw [← hW]; exact (Below.refl _ _).alloc (Nat.le_of_eq hBB.symm) _
      rw [hBB]
      exact hb7.trans (((hb.trans (hbw.drew.trans hb6))).mono (by omega))

theorem checkE_cases (x : ByteArray) : checkE x = 0 ∨ checkE x = 130 := by
  unfold checkE
  repeat' split
  all_goals first | exact .inl rfl | exact .inr rfl

set_option maxRecDepth 100000 in
set_option maxHeartbeats 4000000 in
theorem encode_low (i : Int) (x : ByteArray) (w : World) (h0 : i < 1) :
    Calls Tryd.prog 12 #[.agg #[.int .i64 i, .string x]] w fun e w' => e = .returned (.tuple #[.string ⟨#[]⟩, .int .i64 1]) ∧ Below w.heap.size w w' := by
  have hd : decide (i < 1) = true := decide_eq_true h0
  go_enter Tryd.func12, Tryd.ntmps12
  go_wp2
  go_ret2
  exact ⟨rfl, (Below.refl _ _).alloc (Nat.le_refl _) _⟩

set_option maxRecDepth 100000 in
set_option maxHeartbeats 4000000 in
theorem encode_high (i : Int) (x : ByteArray) (w : World) (h0 : 4096 < i) :
    Calls Tryd.prog 12 #[.agg #[.int .i64 i, .string x]] w fun e w' => e = .returned (.tuple #[.string ⟨#[]⟩, .int .i64 1]) ∧ Below w.heap.size w w' := by
  have hd : decide (i < 1) = false := decide_eq_false (by omega)
  have hd2 : decide (4096 < i) = true := decide_eq_true h0
  go_enter Tryd.func12, Tryd.ntmps12
  go_wp2
  go_ret2
  exact ⟨rfl, (Below.refl _ _).alloc (Nat.le_refl _) _⟩

set_option maxRecDepth 100000 in
set_option maxHeartbeats 4000000 in
theorem encode_name (i : Int) (x : ByteArray) (w : World) (h0 : 1 ≤ i) (h1 : i ≤ 4096) (hc : checkE x = 130) :
    Calls Tryd.prog 12 #[.agg #[.int .i64 i, .string x]] w fun e w' => e = .returned (.tuple #[.string ⟨#[]⟩, .int .i64 130]) ∧ Below w.heap.size w w' := by
  have hd : decide (i < 1) = false := decide_eq_false (by omega)
  have hd2 : decide (4096 < i) = false := decide_eq_false (by omega)
  go_enter Tryd.func12, Tryd.ntmps12
  go_wp2_with (go_at_call 29; refine (check_any _ _).mono ?_; rintro e w' ⟨rfl, hb⟩; rw [hc])
  go_ret2
  refine ⟨rfl, ?_⟩
  have h7 : Below w.heap.size w (w.alloc (Obj.cells #[Value.int IntKind.i64 i, Value.string x] 27)) := (Below.refl _ _).alloc (Nat.le_refl _) _
  exact h7.trans (hb.mono h7.size)

/-- What name.Encode answers. -/
def encA (i : Int) (x : ByteArray) : ByteArray × Int := if i < 1 then (⟨#[]⟩, 1) else if 4096 < i then (⟨#[]⟩, 1) else if checkE x = 0 then (encB i x, 0) else (⟨#[]⟩, 130)

end Go.Proofs.YtgciocgdppaaiaaDoor

namespace Go.Proofs.YtgciocgdppaaiaaDoor.P
open Go.RowKit Go.Proofs.YtgciocgdppaaiaaDoor

def name_Encode.f (a0_0 : Int) (a0_1 : ByteArray) : Option (ByteArray × Int) := some (encA a0_0 a0_1)
theorem name_Encode.calls (a0_0 : Int) (a0_1 : ByteArray) (r1 : ByteArray) (r2 : Int) (w : World) (h : name_Encode.f a0_0 a0_1 = some (r1, r2)) :
    Calls Tryd.prog 12 #[.agg #[.int .i64 a0_0, .string a0_1]] w fun e w' => e = .returned (.tuple #[.string r1, .int .i64 r2]) ∧ Below w.heap.size w w' := by
  have h' := Option.some.inj h
  unfold encA at h'
  by_cases h1 : a0_0 < 1
  · rw [if_pos h1] at h'
    cases h'
    exact encode_low a0_0 a0_1 w h1
  · rw [if_neg h1] at h'
    by_cases h2 : 4096 < a0_0
    · rw [if_pos h2] at h'
      cases h'
      exact encode_high a0_0 a0_1 w h2
    · rw [if_neg h2] at h'
      by_cases h3 : checkE a0_1 = 0
      · rw [if_pos h3] at h'
        cases h'
        exact encode_good a0_0 a0_1 w (by omega) (by omega) h3
      · rw [if_neg h3] at h'
        cases h'
        exact encode_name a0_0 a0_1 w (by omega) (by omega) ((checkE_cases a0_1).resolve_left h3)

end Go.Proofs.YtgciocgdppaaiaaDoor.P

-- Printed by wip/tools/myprint.py (the kit's print over given contracts).
namespace Go.Proofs.YtgciocgdppaaiaaDoor.P
open Go.RowKit Go.Proofs.YtgciocgdppaaiaaDoorW.PrintWords Go.Proofs.YtgciocgdppaaiaaDoorW.PrintLast Go.Proofs.YtgciocgdppaaiaaDoorW.PrintMore
attribute [local go_sem] max2_int min2_int max_two min_two max_three min_three max_four min_four Go.Proofs.YtgciocgdppaaiaaDoor.bytesLess_flip Go.Proofs.YtgciocgdppaaiaaDoor.bytesLess_flip2
set_option linter.unusedVariables false
set_option linter.unusedSimpArgs false

/-! ### signetlaw13_awake: function 8 -/
def signetlaw13_awake.f  : Option (Bool) := (name_Encode.f 1 (⟨#[97]⟩ : ByteArray)).bind fun bt130 => ((name_Check.f (⟨#[97]⟩ : ByteArray)).bind fun t132 => (if t132 = 0 then ((name_Check.f (⟨#[47]⟩ : ByteArray)).bind fun t133 => (if t133 = 130 then (if bt130.2 = 0 then (some ((bt130.1.size : Int) == 64)) else (some false)) else (some false))) else (some false)))
set_option maxHeartbeats 8000000 in
set_option maxRecDepth 100000 in
theorem signetlaw13_awake.calls  (r : Bool) (w : World) (h : signetlaw13_awake.f  = some r) :
    Calls Tryd.prog 8 #[] w fun e w' => e = .returned (.bool r) ∧ Below w.heap.size w w' := by
  have hu27 := Tryd.underlying27
  have HB := Aside0.mk (Below.refl w.heap.size w)
  have H : ((name_Encode.f 1 (⟨#[97]⟩ : ByteArray)).bind fun bt130 => ((name_Check.f (⟨#[97]⟩ : ByteArray)).bind fun t132 => (if t132 = 0 then ((name_Check.f (⟨#[47]⟩ : ByteArray)).bind fun t133 => (if t133 = 130 then (if bt130.2 = 0 then (some ((bt130.1.size : Int) == 64)) else (some false)) else (some false))) else (some false)))) = some r := h
  clear h
  replace H := Option.bind_eq_some_iff.mp H
  obtain ⟨⟨t130, t131⟩, A10, H⟩ := H
  replace H : ((name_Check.f (⟨#[97]⟩ : ByteArray)).bind fun t132 => (if t132 = 0 then ((name_Check.f (⟨#[47]⟩ : ByteArray)).bind fun t133 => (if t133 = 130 then (if t131 = 0 then (some ((t130.size : Int) == 64)) else (some false)) else (some false))) else (some false))) = some r := H
  have A1 := Aside0.mk A10
  clear A10
  replace H := Option.bind_eq_some_iff.mp H
  obtain ⟨t132, A20, H⟩ := H
  replace H : (if t132 = 0 then ((name_Check.f (⟨#[47]⟩ : ByteArray)).bind fun t133 => (if t133 = 130 then (if t131 = 0 then (some ((t130.size : Int) == 64)) else (some false)) else (some false))) else (some false)) = some r := H
  have A2 := Aside0.mk A20
  clear A20
  by_cases c3 : t132 = 0
  · rw [if_pos c3] at H
    have c3b0 : (t132 == 0) = true := beq_iff_eq.mpr c3
    have c3b1 : (t132 != 0) = false := bne_eq_false_iff_eq.mpr c3
    clear c3
    replace H := Option.bind_eq_some_iff.mp H
    obtain ⟨t133, A40, H⟩ := H
    replace H : (if t133 = 130 then (if t131 = 0 then (some ((t130.size : Int) == 64)) else (some false)) else (some false)) = some r := H
    have A4 := Aside0.mk A40
    clear A40
    by_cases c5 : t133 = 130
    · rw [if_pos c5] at H
      have c5b0 : (t133 == 130) = true := beq_iff_eq.mpr c5
      have c5b1 : (t133 != 130) = false := bne_eq_false_iff_eq.mpr c5
      clear c5
      by_cases c6 : t131 = 0
      · rw [if_pos c6] at H
        have c6b0 : (t131 == 0) = true := beq_iff_eq.mpr c6
        have c6b1 : (t131 != 0) = false := bne_eq_false_iff_eq.mpr c6
        clear c6
        obtain rfl := Option.some.inj H
        go_enter Tryd.func8, Tryd.ntmps8
        go_wp2_with (first | ((with_reducible refine gate_callee (f := 12) rfl ?_); refine goesL_ (some 5) rfl rfl Tryd.func12 (by kernel_rfl) rfl #[.agg #[.int .i64 1, .string (⟨#[97]⟩ : ByteArray)]] rfl (by (try simp only [List.map_toArray, List.map_cons, List.map_nil]); first | done | rfl | (simp only [List.length_drop, List.length_take]; rfl)) ?_; (with_reducible refine (name_Encode.calls 1 (⟨#[97]⟩ : ByteArray) t130 t131 _ A1.out).mono ?_); rintro e w7 ⟨rfl, hb⟩; refine ⟨_, rfl, ?_⟩; have n0_ := Aside0.mk (below_step (by repeat (first | (with_reducible first | exact HB.out | apply below_alloc | apply pw_below_drewN | apply below_drew1) | exact HB.out)) hb); clear HB; have HB := n0_; clear n0_; (try clear hb); (try clear hb2); (try clear hk); (try clear hi)) | ((with_reducible refine gate_callee (f := 29) rfl ?_); refine goesL_ (some 8) rfl rfl Tryd.func29 (by kernel_rfl) rfl #[.string (⟨#[97]⟩ : ByteArray)] rfl (by (try simp only [List.map_toArray, List.map_cons, List.map_nil]); first | done | rfl | (simp only [List.length_drop, List.length_take]; rfl)) ?_; (with_reducible refine (name_Check.calls (⟨#[97]⟩ : ByteArray) t132 _ A2.out).mono ?_); rintro e w8 ⟨rfl, hb⟩; refine ⟨_, rfl, ?_⟩; have n0_ := Aside0.mk (below_step (by repeat (first | (with_reducible first | exact HB.out | apply below_alloc | apply pw_below_drewN | apply below_drew1) | exact HB.out)) hb); clear HB; have HB := n0_; clear n0_; (try clear hb); (try clear hb2); (try clear hk); (try clear hi)) | (go_at_call 29; (with_reducible refine (name_Check.calls (⟨#[47]⟩ : ByteArray) t133 _ A4.out).mono ?_); rintro e w9 ⟨rfl, hb⟩; have n0_ := Aside0.mk (below_step (by repeat (first | (with_reducible first | exact HB.out | apply below_alloc | apply pw_below_drewN | apply below_drew1) | exact HB.out)) hb); clear HB; have HB := n0_; clear n0_; (try clear hb); (try clear hb2); (try clear hk); (try clear hi)))
        go_ret
        exact ⟨by first | rfl | (simp [errW_none, errW_some] <;> rfl) | (simp [*, errW_none, errW_some] <;> rfl), by repeat (first | (with_reducible first | exact HB.out | apply below_alloc | apply pw_below_drewN | apply below_drew1) | exact HB.out)⟩
      · rw [if_neg c6] at H
        have c6b0 : (t131 == 0) = false := beq_eq_false_iff_ne.mpr c6
        have c6b1 : (t131 != 0) = true := bne_iff_ne.mpr c6
        obtain rfl := Option.some.inj H
        go_enter Tryd.func8, Tryd.ntmps8
        go_wp2_with (first | ((with_reducible refine gate_callee (f := 12) rfl ?_); refine goesL_ (some 5) rfl rfl Tryd.func12 (by kernel_rfl) rfl #[.agg #[.int .i64 1, .string (⟨#[97]⟩ : ByteArray)]] rfl (by (try simp only [List.map_toArray, List.map_cons, List.map_nil]); first | done | rfl | (simp only [List.length_drop, List.length_take]; rfl)) ?_; (with_reducible refine (name_Encode.calls 1 (⟨#[97]⟩ : ByteArray) t130 t131 _ A1.out).mono ?_); rintro e w10 ⟨rfl, hb⟩; refine ⟨_, rfl, ?_⟩; have n0_ := Aside0.mk (below_step (by repeat (first | (with_reducible first | exact HB.out | apply below_alloc | apply pw_below_drewN | apply below_drew1) | exact HB.out)) hb); clear HB; have HB := n0_; clear n0_; (try clear hb); (try clear hb2); (try clear hk); (try clear hi)) | ((with_reducible refine gate_callee (f := 29) rfl ?_); refine goesL_ (some 8) rfl rfl Tryd.func29 (by kernel_rfl) rfl #[.string (⟨#[97]⟩ : ByteArray)] rfl (by (try simp only [List.map_toArray, List.map_cons, List.map_nil]); first | done | rfl | (simp only [List.length_drop, List.length_take]; rfl)) ?_; (with_reducible refine (name_Check.calls (⟨#[97]⟩ : ByteArray) t132 _ A2.out).mono ?_); rintro e w11 ⟨rfl, hb⟩; refine ⟨_, rfl, ?_⟩; have n0_ := Aside0.mk (below_step (by repeat (first | (with_reducible first | exact HB.out | apply below_alloc | apply pw_below_drewN | apply below_drew1) | exact HB.out)) hb); clear HB; have HB := n0_; clear n0_; (try clear hb); (try clear hb2); (try clear hk); (try clear hi)) | (go_at_call 29; (with_reducible refine (name_Check.calls (⟨#[47]⟩ : ByteArray) t133 _ A4.out).mono ?_); rintro e w12 ⟨rfl, hb⟩; have n0_ := Aside0.mk (below_step (by repeat (first | (with_reducible first | exact HB.out | apply below_alloc | apply pw_below_drewN | apply below_drew1) | exact HB.out)) hb); clear HB; have HB := n0_; clear n0_; (try clear hb); (try clear hb2); (try clear hk); (try clear hi)))
        go_ret
        exact ⟨by first | rfl | (simp [errW_none, errW_some] <;> rfl) | (simp [*, errW_none, errW_some] <;> rfl), by repeat (first | (with_reducible first | exact HB.out | apply below_alloc | apply pw_below_drewN | apply below_drew1) | exact HB.out)⟩
    · rw [if_neg c5] at H
      have c5b0 : (t133 == 130) = false := beq_eq_false_iff_ne.mpr c5
      have c5b1 : (t133 != 130) = true := bne_iff_ne.mpr c5
      obtain rfl := Option.some.inj H
      go_enter Tryd.func8, Tryd.ntmps8
      go_wp2_with (first | ((with_reducible refine gate_callee (f := 12) rfl ?_); refine goesL_ (some 5) rfl rfl Tryd.func12 (by kernel_rfl) rfl #[.agg #[.int .i64 1, .string (⟨#[97]⟩ : ByteArray)]] rfl (by (try simp only [List.map_toArray, List.map_cons, List.map_nil]); first | done | rfl | (simp only [List.length_drop, List.length_take]; rfl)) ?_; (with_reducible refine (name_Encode.calls 1 (⟨#[97]⟩ : ByteArray) t130 t131 _ A1.out).mono ?_); rintro e w13 ⟨rfl, hb⟩; refine ⟨_, rfl, ?_⟩; have n0_ := Aside0.mk (below_step (by repeat (first | (with_reducible first | exact HB.out | apply below_alloc | apply pw_below_drewN | apply below_drew1) | exact HB.out)) hb); clear HB; have HB := n0_; clear n0_; (try clear hb); (try clear hb2); (try clear hk); (try clear hi)) | ((with_reducible refine gate_callee (f := 29) rfl ?_); refine goesL_ (some 8) rfl rfl Tryd.func29 (by kernel_rfl) rfl #[.string (⟨#[97]⟩ : ByteArray)] rfl (by (try simp only [List.map_toArray, List.map_cons, List.map_nil]); first | done | rfl | (simp only [List.length_drop, List.length_take]; rfl)) ?_; (with_reducible refine (name_Check.calls (⟨#[97]⟩ : ByteArray) t132 _ A2.out).mono ?_); rintro e w14 ⟨rfl, hb⟩; refine ⟨_, rfl, ?_⟩; have n0_ := Aside0.mk (below_step (by repeat (first | (with_reducible first | exact HB.out | apply below_alloc | apply pw_below_drewN | apply below_drew1) | exact HB.out)) hb); clear HB; have HB := n0_; clear n0_; (try clear hb); (try clear hb2); (try clear hk); (try clear hi)) | (go_at_call 29; (with_reducible refine (name_Check.calls (⟨#[47]⟩ : ByteArray) t133 _ A4.out).mono ?_); rintro e w15 ⟨rfl, hb⟩; have n0_ := Aside0.mk (below_step (by repeat (first | (with_reducible first | exact HB.out | apply below_alloc | apply pw_below_drewN | apply below_drew1) | exact HB.out)) hb); clear HB; have HB := n0_; clear n0_; (try clear hb); (try clear hb2); (try clear hk); (try clear hi)))
      go_ret
      exact ⟨by first | rfl | (simp [errW_none, errW_some] <;> rfl) | (simp [*, errW_none, errW_some] <;> rfl), by repeat (first | (with_reducible first | exact HB.out | apply below_alloc | apply pw_below_drewN | apply below_drew1) | exact HB.out)⟩
  · rw [if_neg c3] at H
    have c3b0 : (t132 == 0) = false := beq_eq_false_iff_ne.mpr c3
    have c3b1 : (t132 != 0) = true := bne_iff_ne.mpr c3
    obtain rfl := Option.some.inj H
    go_enter Tryd.func8, Tryd.ntmps8
    go_wp2_with (first | ((with_reducible refine gate_callee (f := 12) rfl ?_); refine goesL_ (some 5) rfl rfl Tryd.func12 (by kernel_rfl) rfl #[.agg #[.int .i64 1, .string (⟨#[97]⟩ : ByteArray)]] rfl (by (try simp only [List.map_toArray, List.map_cons, List.map_nil]); first | done | rfl | (simp only [List.length_drop, List.length_take]; rfl)) ?_; (with_reducible refine (name_Encode.calls 1 (⟨#[97]⟩ : ByteArray) t130 t131 _ A1.out).mono ?_); rintro e w16 ⟨rfl, hb⟩; refine ⟨_, rfl, ?_⟩; have n0_ := Aside0.mk (below_step (by repeat (first | (with_reducible first | exact HB.out | apply below_alloc | apply pw_below_drewN | apply below_drew1) | exact HB.out)) hb); clear HB; have HB := n0_; clear n0_; (try clear hb); (try clear hb2); (try clear hk); (try clear hi)) | ((with_reducible refine gate_callee (f := 29) rfl ?_); refine goesL_ (some 8) rfl rfl Tryd.func29 (by kernel_rfl) rfl #[.string (⟨#[97]⟩ : ByteArray)] rfl (by (try simp only [List.map_toArray, List.map_cons, List.map_nil]); first | done | rfl | (simp only [List.length_drop, List.length_take]; rfl)) ?_; (with_reducible refine (name_Check.calls (⟨#[97]⟩ : ByteArray) t132 _ A2.out).mono ?_); rintro e w17 ⟨rfl, hb⟩; refine ⟨_, rfl, ?_⟩; have n0_ := Aside0.mk (below_step (by repeat (first | (with_reducible first | exact HB.out | apply below_alloc | apply pw_below_drewN | apply below_drew1) | exact HB.out)) hb); clear HB; have HB := n0_; clear n0_; (try clear hb); (try clear hb2); (try clear hk); (try clear hi)))
    go_ret
    exact ⟨by first | rfl | (simp [errW_none, errW_some] <;> rfl) | (simp [*, errW_none, errW_some] <;> rfl), by repeat (first | (with_reducible first | exact HB.out | apply below_alloc | apply pw_below_drewN | apply below_drew1) | exact HB.out)⟩

end Go.Proofs.YtgciocgdppaaiaaDoor.P

/- Small facts: bytes, counters, texts as lists; the awake of these laws (pure). -/
namespace Go.Proofs.YtgciocgdppaaiaaDoor.Pure
open Go.Proofs.YtgciocgdppaaiaaDoor Go.Proofs.YtgciocgdppaaiaaDoor.P Go.RowKit Go.Proofs.YtgciocgdppaaiaaDoorW.PrintWords

theorem toList_inj {a b : ByteArray} (h : a.toList = b.toList) : a = b := by
  rw [ByteArray.toList_eq, ByteArray.toList_eq] at h
  obtain ⟨⟨a⟩⟩ := a
  obtain ⟨⟨b⟩⟩ := b
  simp only at h
  rw [h]

theorem wrap_succ {i : Int} (h0 : 0 ≤ i) (h : i < 9223372036854775807) : wrap64 (i + 1) = i + 1 := by unfold wrap64; omega

theorem awake_true : signetlaw13_awake.f = some true := by decide +kernel

def ofL (l : List UInt8) : ByteArray := ⟨l.toArray⟩
theorem ofL_data (s : ByteArray) : ofL s.data.toList = s := by obtain ⟨⟨l⟩⟩ := s; rfl
theorem data_ofL (l : List UInt8) : (ofL l).data.toList = l := rfl
theorem ba_ext {s t : ByteArray} (h : s.data.toList = t.data.toList) : s = t := by rw [← ofL_data s, ← ofL_data t, h]
theorem toList_ofL (l : List UInt8) : (ofL l).toList = l := by rw [Lib.toList_data]; rfl
theorem size_ofL (l : List UInt8) : (ofL l).size = l.length := by rw [Lib.size_eq]; rfl

theorem bt_nat (s : ByteArray) (i : Nat) (x : UInt8) (h : s.data.toList[i]? = some x) : bt s (i : Int) = (x.toNat : Int) := by
  have hl : i < s.size := by rw [Lib.size_eq]; exact (List.getElem?_eq_some_iff.1 h).1
  unfold bt
  have : (i : Int).toNat < s.size := by omega
  rw [dif_pos this]
  have h2 : s.data[i]? = some x := by rw [← Array.getElem?_toList]; exact h
  have := (Array.getElem?_eq_some_iff.1 h2).2
  rw [← this]
  rfl

theorem get_some (s : ByteArray) (i : Nat) (h : i < s.size) : ∃ x, s.data.toList[i]? = some x := by
  rw [Lib.size_eq] at h
  exact ⟨_, List.getElem?_eq_getElem h⟩

theorem u8_eq {x : UInt8} {n : Nat} (hn : n < 256) : ((x.toNat : Int) = (n : Int)) ↔ x = UInt8.ofNat n := by
  constructor
  · intro h
    have : x.toNat = n := by omega
    apply UInt8.toNat_inj.1
    rw [this, UInt8.toNat_ofNat']
    omega
  · rintro rfl
    rw [UInt8.toNat_ofNat']
    omega

theorem ext_drop (s : ByteArray) (i : Nat) : (s.extract i s.size).data.toList = s.data.toList.drop i := Lib.extract_to_end s i
theorem size_drop (s : ByteArray) (i : Nat) : (s.extract i s.size).size = s.size - i := by
  rw [Lib.size_eq, ext_drop, List.length_drop, ← Lib.size_eq]

theorem drop_at {l : List UInt8} {n : Nat} {c : UInt8} (h : l[n]? = some c) : l.drop n = c :: l.drop (n + 1) := by
  obtain ⟨h1, h2⟩ := List.getElem?_eq_some_iff.1 h
  rw [List.drop_eq_getElem_cons h1, h2]

theorem nil_iff (s : ByteArray) : s.toList = [] ↔ s.data.toList = [] := by rw [Lib.toList_data]

end Go.Proofs.YtgciocgdppaaiaaDoor.Pure

/- block.Text: a block's bytes. -/
namespace Go.Proofs.YtgciocgdppaaiaaDoor
open Go.RowKit Go.Proofs.YtgciocgdppaaiaaDoorW.PrintWords

/-- The cells of a block of bytes. -/
def blkC (x : ByteArray) : Array Value := x.data.map fun b => Value.int .u8 (b.toNat : Int)
theorem blkC_size (x : ByteArray) : (blkC x).size = x.size := by unfold blkC; rw [Array.size_map]; rfl
theorem blkC_get (x : ByteArray) (j : Nat) (h : j < x.size) : (blkC x)[j]? = some (.int .u8 ((x.data.toList.map fun b => (b.toNat : Int)).getD j 0)) := by
  unfold blkC
  rw [Array.getElem?_map, List.getD_eq_getElem?_getD, List.getElem?_map]
  have hj : j < x.data.size := h
  rw [Array.getElem?_eq_getElem hj, Array.getElem?_toList, Array.getElem?_eq_getElem hj]
  rfl
theorem ints_str (x : ByteArray) : strOfNums (x.data.toList.map fun b => (b.toNat : Int)) = x := by
  apply Pure.ba_ext
  rw [strOfNums_data, List.map_map]
  conv => rhs; rw [← List.map_id x.data.toList]
  exact List.map_congr_left (fun b _ => by simp)

set_option maxRecDepth 100000 in
set_option maxHeartbeats 4000000 in
theorem text_any (x : ByteArray) (hx : x.size = 256) (w : World) : Calls Tryd.prog 43 #[.agg (blkC x)] w fun e w' => e = .returned (.string x) ∧ Below w.heap.size w w' := by
  have hcs := blkC_size x
  rw [hx] at hcs
  have hg := blkC_get x
  rw [hx] at hg
  have hxs := ints_str x
  obtain ⟨xs, hX⟩ : ∃ xs, (x.data.toList.map fun b => (b.toNat : Int)) = xs := ⟨_, rfl⟩
  have hxl : xs.length = 256 := by rw [← hX, List.length_map, ← Lib.size_eq, hx]
  rw [hX] at hg hxs
  obtain ⟨C, hC⟩ : ∃ C, blkC x = C := ⟨_, rfl⟩
  rw [hC] at hcs hg ⊢
  have kc : (convert 70 9 (.slice (some ⟨w.heap.size, 0, none⟩) 256 256)).run Tryd.prog (w.alloc (Obj.cells C 43)) = .ok (.string (strOfNums xs)) (w.alloc (Obj.cells C 43)) :=
    run_convert_bytes_arg (w.alloc (Obj.cells C 43)) 70 5 Tryd.underlying70 Tryd.underlying5 w.heap.size 0 256 256 xs hxl (fun i hi => by
      rw [Nat.zero_add]
      exact cells_at (alloc_new w _) i _ (hg i hi)) 9 Tryd.underlying9
  rw [hxs] at kc
  go_enter Tryd.func43, Tryd.ntmps43
  go_wp2
  go_ret
  exact ⟨rfl, (Below.refl _ _).alloc (Nat.le_refl _) _⟩

end Go.Proofs.YtgciocgdppaaiaaDoor

/- block.Of: the block of a text. -/
namespace Go.Proofs.YtgciocgdppaaiaaDoor
open Go.RowKit Go.Proofs.YtgciocgdppaaiaaDoorW.PrintWords
theorem hv43 : ∀ w, (zeroValue 43).run Tryd.prog w = .ok (.agg (Array.replicate 256 (.int .u8 0))) w := fun w => by kernel_rfl
theorem i43 : (Tryd.prog.info? 43).map (·.size) = some 256 := by kernel_rfl
theorem i5 : (Tryd.prog.info? 5).map (·.size) = some 1 := by kernel_rfl

/-- Cells whose first ones are a text's bytes. -/
def overC (s : ByteArray) (C : Array Value) : Array Value := (C.toList.take 0 ++ Lib.byteCells s.data.toList ++ C.toList.drop (0 + s.size)).toArray
theorem overC_size (s : ByteArray) (C : Array Value) (h : s.size ≤ C.size) : (overC s C).size = C.size := by
  unfold overC
  rw [List.size_toArray, List.length_append, List.length_append, List.length_take, List.length_drop, Array.length_toList, Lib.byteCells_length, ← Lib.size_eq]
  omega
theorem overC_one (s : ByteArray) (C : Array Value) (h1 : C.all (·.oneCell') = true) : (overC s C).all (·.oneCell') = true := by
  refine Array.all_eq_true_iff_forall_mem.2 (fun v hv => ?_)
  have hC := Array.all_eq_true_iff_forall_mem.1 h1
  unfold overC at hv
  rw [List.mem_toArray, List.mem_append, List.mem_append] at hv
  rcases hv with (hv | hv) | hv
  · exact hC v (by simpa using List.mem_of_mem_take hv)
  · exact Lib.byteCells_one _ v hv
  · exact hC v (by simpa using List.mem_of_mem_drop hv)

set_option maxRecDepth 100000 in
set_option maxHeartbeats 4000000 in
theorem lay_any (C : Array Value) (hcs : C.size = 256) (h1 : C.all (·.oneCell') = true) (s : ByteArray) (hs : s.size ≤ 256) (w : World) :
    Calls Tryd.prog 65 #[.agg C, .int .i64 0, .string s] w fun e w' => e = .returned (.tuple #[.agg (overC s C), .int .i64 0]) ∧ Below w.heap.size w w' := by
  have hz := hv43
  obtain ⟨Z, hZ⟩ : ∃ Z : Array Value, Array.replicate 256 (.int .u8 0) = Z := ⟨_, rfl⟩
  rw [hZ] at hz
  have hZs : Z.size = 256 := by rw [← hZ, Array.size_replicate]
  have hd : decide (256 < (s.size : Int)) = false := decide_eq_false (by omega)
  have hDs := overC_size s C (by omega)
  rw [hcs] at hDs
  have hD1 := overC_one s C h1
  have hg1 : ((w.alloc (Obj.cells C 43)).alloc (Obj.cells Z 43)).heap[w.heap.size]? = some (.cells C 43 (0, 0)) := alloc_past _ (alloc_new w _)
  have hg2 : ((w.alloc (Obj.cells C 43)).alloc (Obj.cells Z 43)).heap[w.heap.size + 1]? = some (.cells Z 43 (0, 0)) := alloc_at _ _ (by simp)
  have hcopy := Lib.run_copy_row_string (P := Tryd.prog) ((w.alloc (Obj.cells C 43)).alloc (Obj.cells Z 43)) 70 9 3 5 w.heap.size 0 256 256 s C 43 Tryd.underlying70 i5 hg1 hs (by omega)
  change _ = Result.ok (goInt s.size) (((w.alloc (Obj.cells C 43)).alloc (Obj.cells Z 43)).setRow w.heap.size (overC s C)) at hcopy
  generalize overC s C = D at *
  have hb3 : Below w.heap.size w (((w.alloc (Obj.cells C 43)).alloc (Obj.cells Z 43)).setRow w.heap.size D) :=
    below_setRow (((Below.refl _ _).alloc (Nat.le_refl _) _).alloc (by simp) _) (Nat.le_refl _) _
  have hg3 : (((w.alloc (Obj.cells C 43)).alloc (Obj.cells Z 43)).setRow w.heap.size D).heap[w.heap.size]? = some (.cells D 43 (0, 0)) := setRow_heap _ _ C D 43 (0, 0) hg1
  have hg4 : (((w.alloc (Obj.cells C 43)).alloc (Obj.cells Z 43)).setRow w.heap.size D).heap[w.heap.size + 1]? = some (.cells Z 43 (0, 0)) := (setRow_other _ _ _ D (by omega)).trans hg2
  obtain ⟨W3, hW3⟩ : ∃ W3, ((w.alloc (Obj.cells C 43)).alloc (Obj.cells Z 43)).setRow w.heap.size D = W3 := ⟨_, rfl⟩
  rw [hW3] at hb3 hg3 hg4 hcopy
  have hst : (storeCells ⟨w.heap.size + 1, 0, none⟩ D.toList).run Tryd.prog W3 = .ok () (W3.setRow (w.heap.size + 1) D) := by
    have h := run_storeCells_at Tryd.prog (w.heap.size + 1) 0 43 D.toList 0 Z W3 hg4 (by rw [Array.length_toList]; omega) (fun v hv => (Array.all_eq_true_iff_forall_mem.1 hD1) v (by simpa using hv))
    rw [show (Z.toList.take (0 + 0) ++ D.toList ++ Z.toList.drop (0 + 0 + D.toList.length)).toArray = D from by
      rw [List.drop_of_length_le (by rw [Array.length_toList, Array.length_toList]; omega)]
      simp] at h
    exact h
  have hg5 : (W3.setRow (w.heap.size + 1) D).heap[w.heap.size + 1]? = some (.cells D 43 (0, 0)) := setRow_heap _ _ Z D 43 (0, 0) hg4
  have hb5 : Below w.heap.size w (W3.setRow (w.heap.size + 1) D) := below_setRow hb3 (by omega) _
  obtain ⟨W4, hW4⟩ : ∃ W4, W3.setRow (w.heap.size + 1) D = W4 := ⟨_, rfl⟩
  rw [hW4] at hg5 hb5 hst
  go_enter Tryd.func65, Tryd.ntmps65
  go_wp2
  refine wp_load_row 43 _ rfl w.heap.size rfl 43 D (0, 0) _ hg3 Tryd.underlying43 rfl (by rw [hDs]; exact i43) ?_
  go_wp2
  refine bodyPost_ret (results_ct rfl _ _ (w.heap.size + 1) 43 D (0, 0) _ rfl hg5 Tryd.underlying43 rfl (by rw [hDs]; exact i43)) rfl ?_
  exact ⟨rfl, hb5⟩

/-- The cells of the block of zeros. -/
def zeroC : Array Value := Array.replicate 256 (.int .u8 0)
theorem zeroC_one : zeroC.all (·.oneCell') = true := by
  refine Array.all_eq_true_iff_forall_mem.2 (fun v hv => ?_)
  obtain ⟨_, rfl⟩ := Array.mem_replicate.1 hv
  rfl
theorem zeroC_size : zeroC.size = 256 := Array.size_replicate

theorem store_whole (g : Nat) (old D : Array Value) (W : World) (hg : W.heap[g]? = some (.cells old 43 (0, 0))) (ho : old.size = D.size) (h1 : D.all (·.oneCell') = true) :
    (storeCells ⟨g, 0, none⟩ D.toList).run Tryd.prog W = .ok () (W.setRow g D) := by
  have h := run_storeCells_at Tryd.prog g 0 43 D.toList 0 old W hg (by rw [Array.length_toList]; omega) (fun v hv => (Array.all_eq_true_iff_forall_mem.1 h1) v (by simpa using hv))
  rw [show (old.toList.take (0 + 0) ++ D.toList ++ old.toList.drop (0 + 0 + D.toList.length)).toArray = D from by
    rw [List.drop_of_length_le (by rw [Array.length_toList, Array.length_toList]; omega)]
    simp] at h
  exact h

set_option maxRecDepth 100000 in
set_option maxHeartbeats 4000000 in
theorem lay_long (C : Array Value) (s : ByteArray) (hs : 256 < s.size) (w : World) :
    Calls Tryd.prog 65 #[.agg C, .int .i64 0, .string s] w fun e w' => e = .returned (.tuple #[.agg zeroC, .int .i64 40]) ∧ Below w.heap.size w w' := by
  have hz : ∀ w, (zeroValue 43).run Tryd.prog w = .ok (.agg zeroC) w := hv43
  have hZs := zeroC_size
  have hZ1 := zeroC_one
  generalize zeroC = Z at *
  have hd : decide (256 < (s.size : Int)) = true := decide_eq_true (by omega)
  have hg2 : ((w.alloc (Obj.cells C 43)).alloc (Obj.cells Z 43)).heap[w.heap.size + 1]? = some (.cells Z 43 (0, 0)) := alloc_at _ _ (by simp)
  have hst := store_whole (w.heap.size + 1) Z Z _ hg2 rfl hZ1
  rw [setRow_self _ _ Z 43 (0, 0) hg2] at hst
  have hb : Below w.heap.size w ((w.alloc (Obj.cells C 43)).alloc (Obj.cells Z 43)) := ((Below.refl _ _).alloc (Nat.le_refl _) _).alloc (by simp) _
  go_enter Tryd.func65, Tryd.ntmps65
  go_wp2
  refine bodyPost_ret (results_ct rfl _ _ (w.heap.size + 1) 43 Z (0, 0) _ rfl hg2 Tryd.underlying43 rfl (by rw [hZs]; exact i43)) rfl ?_
  exact ⟨rfl, hb⟩

/-- The cells of the block of a text, and the error. -/
def ofC (s : ByteArray) : Array Value × Int := if s.size ≤ 256 then (overC s zeroC, 0) else (zeroC, 40)
theorem ofC_size (s : ByteArray) : (ofC s).1.size = 256 := by
  unfold ofC
  split
  · rw [overC_size s zeroC (by rw [zeroC_size]; assumption), zeroC_size]
  · exact zeroC_size
theorem ofC_one (s : ByteArray) : (ofC s).1.all (·.oneCell') = true := by
  unfold ofC
  split
  · exact overC_one s zeroC zeroC_one
  · exact zeroC_one
theorem lay_zero (s : ByteArray) (w : World) : Calls Tryd.prog 65 #[.agg zeroC, .int .i64 0, .string s] w fun e w' => e = .returned (.tuple #[.agg (ofC s).1, .int .i64 (ofC s).2]) ∧ Below w.heap.size w w' := by
  unfold ofC
  split
  · exact lay_any zeroC zeroC_size zeroC_one s (by assumption) w
  · exact lay_long zeroC s (by omega) w

set_option maxRecDepth 100000 in
set_option maxHeartbeats 4000000 in
theorem of_any (s : ByteArray) (w : World) : Calls Tryd.prog 42 #[.string s] w fun e w' => e = .returned (.tuple #[.agg (ofC s).1, .int .i64 (ofC s).2]) ∧ Below w.heap.size w w' := by
  have hz : ∀ w, (zeroValue 43).run Tryd.prog w = .ok (.agg zeroC) w := hv43
  have hL := lay_zero s
  have hZs := zeroC_size
  have hDs := ofC_size s
  have hD1 := ofC_one s
  generalize (ofC s).1 = D at *
  generalize (ofC s).2 = er at *
  generalize zeroC = Z at *
  have hg0 : (w.alloc (Obj.cells Z 43)).heap[w.heap.size]? = some (.cells Z 43 (0, 0)) := alloc_new w _
  have hb0 : Below w.heap.size w (w.alloc (Obj.cells Z 43)) := (Below.refl _ _).alloc (Nat.le_refl _) _
  have hkeep : ∀ w2, Below (w.alloc (Obj.cells Z 43)).heap.size (w.alloc (Obj.cells Z 43)) w2 → (storeCells ⟨w.heap.size, 0, none⟩ D.toList).run Tryd.prog w2 = .ok () (w2.setRow w.heap.size D) ∧ (w2.setRow w.heap.size D).heap[w.heap.size]? = some (.cells D 43 (0, 0)) ∧ Below w.heap.size w (w2.setRow w.heap.size D) := by
    intro w2 hb
    have hg2 : w2.heap[w.heap.size]? = some (.cells Z 43 (0, 0)) := (hb.block _ (by simp)).trans hg0
    exact ⟨store_whole w.heap.size Z D w2 hg2 (by omega) hD1, setRow_heap _ _ Z D 43 (0, 0) hg2, below_setRow (hb0.trans (hb.mono (by simp))) (Nat.le_refl _) _⟩
  go_enter Tryd.func42, Tryd.ntmps42
  go_wp2_with (go_at_call 65; refine (hL _).mono ?_; rintro e w2 ⟨rfl, hb⟩; obtain ⟨hst, hg5, hb5⟩ := hkeep w2 hb)
  refine bodyPost_ret (results_ct rfl _ _ w.heap.size 43 D (0, 0) _ rfl hg5 Tryd.underlying43 rfl (by rw [hDs]; exact i43)) rfl ?_
  exact ⟨rfl, hb5⟩

end Go.Proofs.YtgciocgdppaaiaaDoor

/- name.Leaf: the leaf of at most four entries. -/
namespace Go.Proofs.YtgciocgdppaaiaaDoor
open Go.RowKit Go.Proofs.YtgciocgdppaaiaaDoorW.PrintWords Go.Proofs.YtgciocgdppaaiaaDoor.P

/-- The entries' bytes, one behind the other, or the first error. -/
def leafE : List S27 → ByteArray → ByteArray × Int
  | [], acc => (acc, 0)
  | x :: xs, acc => if (encA x.f0 x.f1).2 = 0 then leafE xs (acc ++ (encA x.f0 x.f1).1) else (⟨#[]⟩, (encA x.f0 x.f1).2)
/-- What name.Leaf answers. -/
def leafA (l : List S27) : Array Value × Int :=
  if 4 < l.length then (zeroC, 1) else if (leafE l ⟨#[]⟩).2 = 0 then ofC (leafE l ⟨#[]⟩).1 else (zeroC, (leafE l ⟨#[]⟩).2)

theorem encB_64 (i : Int) (x : ByteArray) (hx : x.size ≤ 56) : (encB i x).size = 64 := by
  unfold encB
  rw [ByteArray.size_append, ByteArray.size_append, ByteArray.size_append, ByteArray.size_append]
  show 4 + 2 + 2 + x.size + (Lib.repeatL [0] (56 - x.size)).length = 64
  rw [Lib.repeatL_length]
  simp
  omega
theorem encA_size (i : Int) (x : ByteArray) : (encA i x).1.size ≤ 64 := by
  unfold encA
  split
  · decide
  · split
    · decide
    · split
      · rw [encB_64 i x (checkE_size (by assumption))]; exact Nat.le_refl _
      · decide

theorem drop_rd (l : List S27) (i : Nat) (h : i < l.length) : l.drop i = rd_T27 l (i : Int) :: l.drop (i + 1) := by
  rw [List.drop_eq_getElem_cons h]
  unfold rd_T27
  rw [Int.toNat_natCast, List.getD_eq_getElem?_getD, List.getElem?_eq_getElem h]
  rfl

set_option maxRecDepth 100000 in
set_option maxHeartbeats 8000000 in
theorem leaf_any (A : Option Addr) (c : Nat) (l : List S27) (w : World) (hr : Kd.C k27 w A l.length l) :
    Calls Tryd.prog 17 #[.slice A l.length c] w fun e w' => e = .returned (.tuple #[.agg (leafA l).1, .int .i64 (leafA l).2]) ∧ Below w.heap.size w w' := by
  have hz : ∀ w, (zeroValue 43).run Tryd.prog w = .ok (.agg zeroC) w := hv43
  have hZs := zeroC_size
  have hZ1 := zeroC_one
  have hg0 : (w.alloc (Obj.cells zeroC 43)).heap[w.heap.size]? = some (.cells zeroC 43 (0, 0)) := alloc_new w _
  have hb0 : Below w.heap.size w (w.alloc (Obj.cells zeroC 43)) := (Below.refl _ _).alloc (Nat.le_refl _) _
  by_cases h4 : 4 < l.length
  · have e : leafA l = (zeroC, 1) := if_pos h4
    rw [e]
    have hd : decide (4 < (l.length : Int)) = true := decide_eq_true (by omega)
    have hst := store_whole w.heap.size zeroC zeroC _ hg0 rfl hZ1
    rw [setRow_self _ _ zeroC 43 (0, 0) hg0] at hst
    generalize zeroC = Z at *
    go_enter Tryd.func17, Tryd.ntmps17
    go_wp2
    refine bodyPost_ret (results_ct rfl _ _ w.heap.size 43 Z (0, 0) _ rfl hg0 Tryd.underlying43 rfl (by rw [hZs]; exact i43)) rfl ?_
    exact ⟨rfl, hb0⟩
  · have e : leafA l = if (leafE l ⟨#[]⟩).2 = 0 then ofC (leafE l ⟨#[]⟩).1 else (zeroC, (leafE l ⟨#[]⟩).2) := if_neg h4
    have hd : decide (4 < (l.length : Int)) = false := decide_eq_false (by omega)
    obtain ⟨R, hR⟩ : ∃ R, leafA l = R := ⟨_, rfl⟩
    rw [hR] at e ⊢
    have hE : Aside0 (R = if (leafE l ⟨#[]⟩).2 = 0 then ofC (leafE l ⟨#[]⟩).1 else (zeroC, (leafE l ⟨#[]⟩).2)) := ⟨e⟩
    clear e hR
    have hOs := ofC_size
    have hO1 := ofC_one
    go_enter Tryd.func17, Tryd.ntmps17
    go_wp2
    go_loopg [4, 15] l.length (fun g v4 v15 wx => ∃ (i : Nat) (acc : ByteArray), i + g = l.length ∧ v4 = .string acc ∧ v15 = .int .i64 (i : Int) ∧ Aside0 (acc.size ≤ 64 * i) ∧ Aside0 (leafE l ⟨#[]⟩ = leafE (l.drop i) acc) ∧ wx.heap[w.heap.size]? = some (.cells zeroC 43 (0, 0)) ∧ Below w.heap.size w wx)
    case atStart => exact ⟨0, ⟨#[]⟩, by omega, rfl, rfl, ⟨by decide⟩, ⟨rfl⟩, hg0, hb0⟩
    case round =>
      obtain ⟨i, acc, hig, rfl, rfl, hsz, hle, hgx, hbx⟩ := hrel
      have hlt0 : w.heap.size < (w.alloc (Obj.cells zeroC 43)).heap.size := by simp
      cases gk with
      | zero =>
        have hi : i = l.length := by omega
        have hR : R = ofC acc := by
          have h1 := hle.out
          rw [List.drop_of_length_le (by omega), leafE] at h1
          have h2 := hE.out
          rw [h1, if_pos rfl] at h2
          exact h2
        have hR1 : R.1 = (ofC acc).1 := by rw [hR]
        have hR2 : R.2 = (ofC acc).2 := by rw [hR]
        clear hR
        have hds := hOs acc
        have hd1 := hO1 acc
        have hL := of_any acc
        have hd5 : decide ((i : Int) < (l.length : Int)) = false := decide_eq_false (by omega)
        clear hle hE hOs hO1 hr hz hZ1 hg0 hb0
        generalize (ofC acc).1 = D at *
        generalize (ofC acc).2 = er at *
        generalize zeroC = Z at *
        have hkeep : ∀ w2, Below wr.heap.size wr w2 → (storeCells ⟨w.heap.size, 0, none⟩ D.toList).run Tryd.prog w2 = .ok () (w2.setRow w.heap.size D) ∧ (w2.setRow w.heap.size D).heap[w.heap.size]? = some (.cells D 43 (0, 0)) ∧ Below w.heap.size w (w2.setRow w.heap.size D) := by
          intro w2 hb
          have hg2 : w2.heap[w.heap.size]? = some (.cells Z 43 (0, 0)) := (hb.block _ (Array.getElem?_eq_some_iff.1 hgx).1).trans hgx
          exact ⟨store_whole w.heap.size Z D w2 hg2 (by omega) hd1, setRow_heap _ _ Z D 43 (0, 0) hg2, below_setRow (hbx.trans (hb.mono hbx.size)) (Nat.le_refl _) _⟩
        go_wp2_with (go_at_call 42; refine (hL _).mono ?_; rintro e w2 ⟨rfl, hb⟩; obtain ⟨hst, hg5, hb5⟩ := hkeep w2 hb)
        refine bodyPost_ret (results_ct rfl _ _ w.heap.size 43 D (0, 0) _ rfl hg5 Tryd.underlying43 rfl (by rw [hds]; exact i43)) rfl ?_
        exact ⟨by rw [hR1, hR2]; rfl, hb5⟩
      | succ g =>
        have hi : i < l.length := by omega
        have hC := Kd.C_below hr hbx
        have p5 : (0 : Int) ≤ (i : Int) := by omega
        have q5 : (i : Int) < (l.length : Int) := by omega
        obtain ⟨ad, eA, hx0, hx1⟩ := at_T27 hC (i : Int) p5 q5
        subst eA
        have hdr := drop_rd l i hi
        have h1 := hle.out
        rw [hdr, leafE] at h1
        have hs64 := encA_size (rd_T27 l (i : Int)).f0 (rd_T27 l (i : Int)).f1
        have hEnc := fun W => name_Encode.calls (rd_T27 l (i : Int)).f0 (rd_T27 l (i : Int)).f1 (encA (rd_T27 l (i : Int)).f0 (rd_T27 l (i : Int)).f1).1 (encA (rd_T27 l (i : Int)).f0 (rd_T27 l (i : Int)).f1).2 W rfl
        generalize (encA (rd_T27 l (i : Int)).f0 (rd_T27 l (i : Int)).f1).1 = s at *
        generalize (encA (rd_T27 l (i : Int)).f0 (rd_T27 l (i : Int)).f1).2 = er at *
        generalize (rd_T27 l (i : Int)).f0 = f0 at *
        generalize (rd_T27 l (i : Int)).f1 = f1 at *
        have hd5 : decide ((i : Int) < (l.length : Int)) = true := decide_eq_true q5
        have hcat : ¬ (9223372036854775807 < acc.size + s.size) := by have := hsz.out; omega
        simp only [Int.toNat_natCast] at hx0 hx1
        by_cases he0 : er = 0
        · rw [if_pos he0] at h1
          subst he0
          go_wp2_with (go_at_call 12; refine (hEnc _).mono ?_; rintro e w2 ⟨rfl, hbq⟩)
          have hb : Below wr.heap.size wr w2 := ((Below.refl _ _).alloc (Nat.le_refl _) _).trans (hbq.mono (by simp))
          go_roundg g
          case measure => omega
          case rel =>
            refine ⟨i + 1, acc ++ s, by omega, rfl, by push_cast; rfl, ⟨?_⟩, ⟨?_⟩, (hb.block _ (Array.getElem?_eq_some_iff.1 hgx).1).trans hgx, hbx.trans (hb.mono hbx.size)⟩
            · have := hsz.out
              rw [ByteArray.size_append]
              omega
            · exact h1
        · have e1 : R.1 = zeroC := by
            have h2 := hE.out
            rw [h1, if_neg he0] at h2
            rw [if_neg he0] at h2
            rw [h2]
          have e2 : R.2 = er := by
            have h2 := hE.out
            rw [h1, if_neg he0] at h2
            rw [if_neg he0] at h2
            rw [h2]
          clear hle hE hOs hO1 hr h1 hg0 hb0
          have hd6 : decide (er = 0) = false := decide_eq_false he0
          generalize zeroC = Z at *
          have hkeep : ∀ w2, Below wr.heap.size wr w2 → (storeCells ⟨w.heap.size, 0, none⟩ Z.toList).run Tryd.prog w2 = .ok () w2 ∧ w2.heap[w.heap.size]? = some (.cells Z 43 (0, 0)) ∧ Below w.heap.size w w2 := by
            intro w2 hb
            have hg2 : w2.heap[w.heap.size]? = some (.cells Z 43 (0, 0)) := (hb.block _ (Array.getElem?_eq_some_iff.1 hgx).1).trans hgx
            have hst := store_whole w.heap.size Z Z w2 hg2 rfl hZ1
            rw [setRow_self _ _ Z 43 (0, 0) hg2] at hst
            exact ⟨hst, hg2, hbx.trans (hb.mono hbx.size)⟩
          go_wp2_with (go_at_call 12; refine (hEnc _).mono ?_; rintro e w2 ⟨rfl, hbq⟩; obtain ⟨hst, hg5, hb5⟩ := hkeep w2 (((Below.refl _ _).alloc (Nat.le_refl _) _).trans (hbq.mono (by simp))))
          refine bodyPost_ret (results_ct rfl _ _ w.heap.size 43 Z (0, 0) _ rfl hg5 Tryd.underlying43 rfl (by rw [hZs]; exact i43)) rfl ?_
          exact ⟨by rw [e1, e2]; rfl, hb5⟩

end Go.Proofs.YtgciocgdppaaiaaDoor

/- word.take and signetref01.Take: the number of so many bytes of a text from a place on. -/

namespace Go.Proofs.YtgciocgdppaaiaaDoor
open Go.RowKit Go.Proofs.YtgciocgdppaaiaaDoorW.PrintWords

/-- A text's bytes as whole numbers. -/
def intsL (s : ByteArray) : List Int := s.data.toList.map fun b => (b.toNat : Int)
theorem intsL_length (s : ByteArray) : (intsL s).length = s.size := by unfold intsL; rw [List.length_map, Lib.size_eq]

theorem bytes_C (w : World) (s : ByteArray) (hs : s.size ≤ 9223372036854775807) : Kd.C (Kd.int .u8) (Lib.bytesWorld w 5 s) (some ⟨w.heap.size, 0, none⟩) (intsL s).length (intsL s) := by
  refine ⟨rfl, by rw [intsL_length]; exact hs, fun _ => ⟨_, rfl, fun j p hj => ⟨[.int .u8 p], rfl, rfl, fun i u hi => ?_⟩⟩⟩
  have hjl : j < s.size := by
    have := (List.getElem?_eq_some_iff.1 hj).1
    rw [intsL_length] at this
    exact this
  match i, hi with
  | 0, hi =>
    simp at hi
    subst hi
    have hcell := Lib.bytesWorld_cell w 5 s j hjl
    have e : (⟨w.heap.size, 0, none⟩ : Addr).add (j * (Kd.int .u8).sz + 0) = ⟨w.heap.size, j, none⟩ := by
      show (⟨w.heap.size, 0, none⟩ : Addr).add (j * 1 + 0) = _
      unfold Addr.add
      split
      · next e => rw [show j = 0 from by omega]
      · show (⟨w.heap.size, 0 + (j * 1 + 0), none⟩ : Addr) = _; congr 1; omega
    rw [e, hcell]
    unfold intsL at hj
    rw [List.getElem?_map] at hj
    rw [List.getD_eq_getElem?_getD]
    cases hb : s.data.toList[j]? with
    | none => rw [hb] at hj; cases hj
    | some b =>
      rw [hb] at hj
      simp at hj
      rw [← hj]
      rfl
  | (i + 1), hi => simp at hi

theorem bytes_below (w : World) (s : ByteArray) : Below w.heap.size w (Lib.bytesWorld w 5 s) := by
  refine ⟨rfl, rfl, rfl, ?_, fun k hk => Lib.bytesWorld_at_old w 5 s k hk⟩
  rw [Lib.bytesWorld_size]
  omega

end Go.Proofs.YtgciocgdppaaiaaDoor

namespace Go.Proofs.YtgciocgdppaaiaaDoor.P
open Go.RowKit Go.Proofs.YtgciocgdppaaiaaDoor Go.Proofs.YtgciocgdppaaiaaDoorW.PrintWords

theorem got_on (k : Nat) (t : ByteArray) (r : Int) (W : World) (ht : t.size ≤ 9223372036854775807) (h : word_got.f k (intsL t) = some r) :
    Calls Tryd.prog 77 #[.slice (some ⟨W.heap.size, 0, none⟩) t.size (grownCap W t.size 0 5)] (Lib.bytesWorld W 5 t) fun e w' => e = .returned (.int .u64 r) ∧ Below W.heap.size W w' := by
  have hc := word_got.calls k (some ⟨W.heap.size, 0, none⟩) (grownCap W t.size 0 5) (intsL t) r (Lib.bytesWorld W 5 t) (bytes_C W t ht) (by rw [intsL_length]; exact grownCap_ge _ _ _ _) h
  rw [intsL_length] at hc
  refine hc.mono fun e w' hp => ⟨hp.1, ?_⟩
  have hb := hp.2.below
  exact (bytes_below W t).trans (hb.mono (by rw [Lib.bytesWorld_size]; omega))
theorem of_on (k : Nat) (t : ByteArray) (r : Int) (W : World) (ht : t.size ≤ 9223372036854775807) (h : signetref01_Of.f k (intsL t) = some r) :
    Calls Tryd.prog 64 #[.slice (some ⟨W.heap.size, 0, none⟩) t.size (grownCap W t.size 0 5)] (Lib.bytesWorld W 5 t) fun e w' => e = .returned (.int .u64 r) ∧ Below W.heap.size W w' := by
  have hc := signetref01_Of.calls k (some ⟨W.heap.size, 0, none⟩) (grownCap W t.size 0 5) (intsL t) r (Lib.bytesWorld W 5 t) (bytes_C W t ht) (by rw [intsL_length]; exact grownCap_ge _ _ _ _) h
  rw [intsL_length] at hc
  refine hc.mono fun e w' hp => ⟨hp.1, ?_⟩
  have hb := hp.2.below
  exact (bytes_below W t).trans (hb.mono (by rw [Lib.bytesWorld_size]; omega))

def word_take.f (k : Nat) (a0 : ByteArray) (a1 : Int) (a2 : Int) : Option (Int × Bool) :=
  if 0 ≤ a2 ∧ a0.size ≤ 140737488355328 then if a1 < 0 then some (0, false) else if (a0.size : Int) < a1 then some (0, false) else if (a0.size : Int) - a1 < a2 then some (0, false)
  else (word_got.f k (intsL (a0.extract a1.toNat (a1 + a2).toNat))).bind fun r => some (r, true) else none
theorem word_take.mono : ∀ a0 a1 a2 k, LeO (word_take.f k a0 a1 a2) (word_take.f (k + 1) a0 a1 a2) := by
  intro a0 a1 a2 k
  unfold word_take.f
  refine LeO.ite (LeO.ite (LeO.refl _) (LeO.ite (LeO.refl _) (LeO.ite (LeO.refl _) (LeO.bind (word_got.mono _ _) (fun _ => LeO.refl _))))) (LeO.none _)

set_option maxRecDepth 100000 in
set_option maxHeartbeats 4000000 in
theorem word_take.calls (k : Nat) (a0 : ByteArray) (a1 : Int) (a2 : Int) (r1 : Int) (r2 : Bool) (w : World) (h : word_take.f k a0 a1 a2 = some (r1, r2)) :
    Calls Tryd.prog 63 #[.string a0, .int .i64 a1, .int .i64 a2] w fun e w' => e = .returned (.tuple #[.int .u64 r1, .bool r2]) ∧ Below w.heap.size w w' := by
  unfold word_take.f at h
  by_cases hc : 0 ≤ a2 ∧ a0.size ≤ 140737488355328
  · rw [if_pos hc] at h
    obtain ⟨hc1, hc2⟩ := hc
    by_cases h1 : a1 < 0
    · rw [if_pos h1] at h
      cases h
      have hd : decide (a1 < 0) = true := decide_eq_true h1
      go_enter Tryd.func63, Tryd.ntmps63
      go_wp2
      go_ret2
      exact ⟨rfl, Below.refl _ _⟩
    · rw [if_neg h1] at h
      have hd1 : decide (a1 < 0) = false := decide_eq_false h1
      by_cases h2 : (a0.size : Int) < a1
      · rw [if_pos h2] at h
        cases h
        have hd : decide ((a0.size : Int) < a1) = true := decide_eq_true h2
        go_enter Tryd.func63, Tryd.ntmps63
        go_wp2
        go_ret2
        exact ⟨rfl, Below.refl _ _⟩
      · rw [if_neg h2] at h
        have hd2 : decide ((a0.size : Int) < a1) = false := decide_eq_false h2
        have hw : wrap64 ((a0.size : Int) - a1) = (a0.size : Int) - a1 := by unfold wrap64; omega
        by_cases h3 : (a0.size : Int) - a1 < a2
        · rw [if_pos h3] at h
          cases h
          have hd : decide ((a0.size : Int) - a1 < a2) = true := decide_eq_true h3
          go_enter Tryd.func63, Tryd.ntmps63
          go_wp2
          go_ret2
          exact ⟨rfl, Below.refl _ _⟩
        · rw [if_neg h3] at h
          have hd3 : decide ((a0.size : Int) - a1 < a2) = false := decide_eq_false h3
          obtain ⟨t, ht, h⟩ := Option.bind_eq_some_iff.mp h
          cases h
          have g0 : 0 ≤ a1 := by omega
          have g1 : a1 ≤ a1 + a2 := by omega
          have g2 : a1 + a2 ≤ (a0.size : Int) := by omega
          have hts : (a0.extract a1.toNat (a1 + a2).toNat).size ≤ 9223372036854775807 := by rw [ByteArray.size_extract]; omega
          obtain ⟨t, hT⟩ : ∃ t, a0.extract a1.toNat (a1 + a2).toNat = t := ⟨_, rfl⟩
          rw [hT] at ht hts
          have kc := fun W => Lib.run_convert_string_bytes (P := Tryd.prog) W 9 70 5 t Tryd.underlying9 Tryd.underlying70 Tryd.underlying5
          go_enter Tryd.func63, Tryd.ntmps63
          go_wp2_with (go_at_call 77; refine (got_on k t r1 _ hts ht).mono ?_; rintro e w5 ⟨rfl, hb5⟩)
          go_ret2
          exact ⟨rfl, hb5⟩
  · rw [if_neg hc] at h
    cases h

def signetref01_Take.f (k : Nat) (a0 : ByteArray) (a1 : Int) (a2 : Int) : Option (Int × Bool) :=
  if 0 ≤ a2 ∧ a0.size ≤ 140737488355328 then if a1 < 0 then some (0, false) else if (a0.size : Int) < a1 then some (0, false) else if (a0.size : Int) - a1 < a2 then some (0, false)
  else (signetref01_Of.f k (intsL (a0.extract a1.toNat (a1 + a2).toNat))).bind fun r => some (r, true) else none
theorem signetref01_Take.mono : ∀ a0 a1 a2 k, LeO (signetref01_Take.f k a0 a1 a2) (signetref01_Take.f (k + 1) a0 a1 a2) := by
  intro a0 a1 a2 k
  unfold signetref01_Take.f
  refine LeO.ite (LeO.ite (LeO.refl _) (LeO.ite (LeO.refl _) (LeO.ite (LeO.refl _) (LeO.bind (signetref01_Of.mono _ _) (fun _ => LeO.refl _))))) (LeO.none _)

set_option maxRecDepth 100000 in
set_option maxHeartbeats 4000000 in
theorem signetref01_Take.calls (k : Nat) (a0 : ByteArray) (a1 : Int) (a2 : Int) (r1 : Int) (r2 : Bool) (w : World) (h : signetref01_Take.f k a0 a1 a2 = some (r1, r2)) :
    Calls Tryd.prog 41 #[.string a0, .int .i64 a1, .int .i64 a2] w fun e w' => e = .returned (.tuple #[.int .u64 r1, .bool r2]) ∧ Below w.heap.size w w' := by
  unfold signetref01_Take.f at h
  by_cases hc : 0 ≤ a2 ∧ a0.size ≤ 140737488355328
  · rw [if_pos hc] at h
    obtain ⟨hc1, hc2⟩ := hc
    by_cases h1 : a1 < 0
    · rw [if_pos h1] at h
      cases h
      have hd : decide (a1 < 0) = true := decide_eq_true h1
      go_enter Tryd.func41, Tryd.ntmps41
      go_wp2
      go_ret2
      exact ⟨rfl, Below.refl _ _⟩
    · rw [if_neg h1] at h
      have hd1 : decide (a1 < 0) = false := decide_eq_false h1
      by_cases h2 : (a0.size : Int) < a1
      · rw [if_pos h2] at h
        cases h
        have hd : decide ((a0.size : Int) < a1) = true := decide_eq_true h2
        go_enter Tryd.func41, Tryd.ntmps41
        go_wp2
        go_ret2
        exact ⟨rfl, Below.refl _ _⟩
      · rw [if_neg h2] at h
        have hd2 : decide ((a0.size : Int) < a1) = false := decide_eq_false h2
        have hw : wrap64 ((a0.size : Int) - a1) = (a0.size : Int) - a1 := by unfold wrap64; omega
        by_cases h3 : (a0.size : Int) - a1 < a2
        · rw [if_pos h3] at h
          cases h
          have hd : decide ((a0.size : Int) - a1 < a2) = true := decide_eq_true h3
          go_enter Tryd.func41, Tryd.ntmps41
          go_wp2
          go_ret2
          exact ⟨rfl, Below.refl _ _⟩
        · rw [if_neg h3] at h
          have hd3 : decide ((a0.size : Int) - a1 < a2) = false := decide_eq_false h3
          obtain ⟨t, ht, h⟩ := Option.bind_eq_some_iff.mp h
          cases h
          have g0 : 0 ≤ a1 := by omega
          have g1 : a1 ≤ a1 + a2 := by omega
          have g2 : a1 + a2 ≤ (a0.size : Int) := by omega
          have hts : (a0.extract a1.toNat (a1 + a2).toNat).size ≤ 9223372036854775807 := by rw [ByteArray.size_extract]; omega
          obtain ⟨t, hT⟩ : ∃ t, a0.extract a1.toNat (a1 + a2).toNat = t := ⟨_, rfl⟩
          rw [hT] at ht hts
          have kc := fun W => Lib.run_convert_string_bytes (P := Tryd.prog) W 9 70 5 t Tryd.underlying9 Tryd.underlying70 Tryd.underlying5
          go_enter Tryd.func41, Tryd.ntmps41
          go_wp2_with (go_at_call 64; refine (of_on k t r1 _ hts ht).mono ?_; rintro e w5 ⟨rfl, hb5⟩)
          go_ret2
          exact ⟨rfl, hb5⟩
  · rw [if_neg hc] at h
    cases h

end Go.Proofs.YtgciocgdppaaiaaDoor.P

-- Printed by wip/tools/myprint.py (the kit's print over given contracts).
namespace Go.Proofs.YtgciocgdppaaiaaDoor.P
open Go.RowKit Go.Proofs.YtgciocgdppaaiaaDoorW.PrintWords Go.Proofs.YtgciocgdppaaiaaDoorW.PrintLast Go.Proofs.YtgciocgdppaaiaaDoorW.PrintMore
attribute [local go_sem] max2_int min2_int max_two min_two max_three min_three max_four min_four Go.Proofs.YtgciocgdppaaiaaDoor.bytesLess_flip Go.Proofs.YtgciocgdppaaiaaDoor.bytesLess_flip2
set_option linter.unusedVariables false
set_option linter.unusedSimpArgs false

/-! ### word_Take16: function 40 -/
def word_Take16.f (k : Nat) (a0 : ByteArray) (a1 : Int) : Option (Int × Bool) := (word_take.f k a0 a1 2).bind fun bt131 => (some (IntKind.u16.wrap (bt131.1), bt131.2))
theorem word_Take16.mono : ∀ a0 a1 k, LeO (word_Take16.f k a0 a1) (word_Take16.f (k + 1) a0 a1) := by
  intro a0 a1 k
  unfold word_Take16.f
  repeat' first
      | (with_reducible exact word_take.mono _ _ _ _)
      | (with_reducible exact LeO.refl _)
      | (with_reducible exact LeO.none _)
      | (with_reducible refine LeO.ite ?_ ?_)
      | (with_reducible refine LeO.bind ?_ (fun _ => ?_))
      | exact word_take.mono _ _ _ _
      | exact LeO.none _
      | refine LeO.ite ?_ ?_
      | refine LeO.bind ?_ (fun _ => ?_)
set_option maxHeartbeats 8000000 in
set_option maxRecDepth 100000 in
theorem word_Take16.calls (k : Nat) (a0 : ByteArray) (a1 : Int) (r1 : Int) (r2 : Bool) (w : World) (h : word_Take16.f k a0 a1 = some (r1, r2)) :
    Calls Tryd.prog 40 #[.string a0, .int .i64 a1] w fun e w' => e = .returned (.tuple #[.int .u16 r1, .bool r2]) ∧ Below w.heap.size w w' := by
  have HB := Aside0.mk (Below.refl w.heap.size w)
  have H : ((word_take.f k a0 a1 2).bind fun bt131 => (some (IntKind.u16.wrap (bt131.1), bt131.2))) = some (r1, r2) := h
  clear h
  replace H := Option.bind_eq_some_iff.mp H
  obtain ⟨⟨t131, t132⟩, A30, H⟩ := H
  replace H : (some (IntKind.u16.wrap (t131), t132)) = some (r1, r2) := H
  have A3 := Aside0.mk A30
  clear A30
  simp only [Option.some.injEq, Prod.mk.injEq] at H
  obtain ⟨rfl, rfl⟩ := H
  go_enter Tryd.func40, Tryd.ntmps40
  go_wp2_with (first | ((with_reducible refine gate_callee (f := 63) rfl ?_); refine goesL_ (some 11) rfl rfl Tryd.func63 (by kernel_rfl) rfl #[.string a0, .int .i64 a1, .int .i64 2] rfl (by (try simp only [List.map_toArray, List.map_cons, List.map_nil]); first | done | rfl | (simp only [List.length_drop, List.length_take]; rfl)) ?_; (with_reducible refine (word_take.calls k a0 a1 2 t131 t132 _ A3.out).mono ?_); rintro e w4 ⟨rfl, hb⟩; refine ⟨_, rfl, ?_⟩; have n0_ := Aside0.mk (below_step (by repeat (first | (with_reducible first | exact HB.out | apply below_alloc | apply pw_below_drewN | apply below_drew1) | exact HB.out)) hb); clear HB; have HB := n0_; clear n0_; (try clear hb); (try clear hb2); (try clear hk); (try clear hi)))
  go_ret2
  exact ⟨by first | rfl | (simp [errW_none, errW_some] <;> rfl) | (simp [*, errW_none, errW_some] <;> rfl), by repeat (first | (with_reducible first | exact HB.out | apply below_alloc | apply pw_below_drewN | apply below_drew1) | exact HB.out)⟩

end Go.Proofs.YtgciocgdppaaiaaDoor.P

-- Printed by wip/tools/myprint.py (the kit's print over given contracts).
namespace Go.Proofs.YtgciocgdppaaiaaDoor.P
open Go.RowKit Go.Proofs.YtgciocgdppaaiaaDoorW.PrintWords Go.Proofs.YtgciocgdppaaiaaDoorW.PrintLast Go.Proofs.YtgciocgdppaaiaaDoorW.PrintMore
attribute [local go_sem] max2_int min2_int max_two min_two max_three min_three max_four min_four Go.Proofs.YtgciocgdppaaiaaDoor.bytesLess_flip Go.Proofs.YtgciocgdppaaiaaDoor.bytesLess_flip2
set_option linter.unusedVariables false
set_option linter.unusedSimpArgs false

/-! ### word_Take32: function 39 -/
def word_Take32.f (k : Nat) (a0 : ByteArray) (a1 : Int) : Option (Int × Bool) := (word_take.f k a0 a1 4).bind fun bt129 => (some ((bt129.1) % 4294967296, bt129.2))
theorem word_Take32.mono : ∀ a0 a1 k, LeO (word_Take32.f k a0 a1) (word_Take32.f (k + 1) a0 a1) := by
  intro a0 a1 k
  unfold word_Take32.f
  repeat' first
      | (with_reducible exact word_take.mono _ _ _ _)
      | (with_reducible exact LeO.refl _)
      | (with_reducible exact LeO.none _)
      | (with_reducible refine LeO.ite ?_ ?_)
      | (with_reducible refine LeO.bind ?_ (fun _ => ?_))
      | exact word_take.mono _ _ _ _
      | exact LeO.none _
      | refine LeO.ite ?_ ?_
      | refine LeO.bind ?_ (fun _ => ?_)
set_option maxHeartbeats 8000000 in
set_option maxRecDepth 100000 in
theorem word_Take32.calls (k : Nat) (a0 : ByteArray) (a1 : Int) (r1 : Int) (r2 : Bool) (w : World) (h : word_Take32.f k a0 a1 = some (r1, r2)) :
    Calls Tryd.prog 39 #[.string a0, .int .i64 a1] w fun e w' => e = .returned (.tuple #[.int .u32 r1, .bool r2]) ∧ Below w.heap.size w w' := by
  have HB := Aside0.mk (Below.refl w.heap.size w)
  have H : ((word_take.f k a0 a1 4).bind fun bt129 => (some ((bt129.1) % 4294967296, bt129.2))) = some (r1, r2) := h
  clear h
  replace H := Option.bind_eq_some_iff.mp H
  obtain ⟨⟨t129, t130⟩, A30, H⟩ := H
  replace H : (some ((t129) % 4294967296, t130)) = some (r1, r2) := H
  have A3 := Aside0.mk A30
  clear A30
  simp only [Option.some.injEq, Prod.mk.injEq] at H
  obtain ⟨rfl, rfl⟩ := H
  go_enter Tryd.func39, Tryd.ntmps39
  go_wp2_with (first | ((with_reducible refine gate_callee (f := 63) rfl ?_); refine goesL_ (some 11) rfl rfl Tryd.func63 (by kernel_rfl) rfl #[.string a0, .int .i64 a1, .int .i64 4] rfl (by (try simp only [List.map_toArray, List.map_cons, List.map_nil]); first | done | rfl | (simp only [List.length_drop, List.length_take]; rfl)) ?_; (with_reducible refine (word_take.calls k a0 a1 4 t129 t130 _ A3.out).mono ?_); rintro e w4 ⟨rfl, hb⟩; refine ⟨_, rfl, ?_⟩; have n0_ := Aside0.mk (below_step (by repeat (first | (with_reducible first | exact HB.out | apply below_alloc | apply pw_below_drewN | apply below_drew1) | exact HB.out)) hb); clear HB; have HB := n0_; clear n0_; (try clear hb); (try clear hb2); (try clear hk); (try clear hi)))
  go_ret2
  exact ⟨by first | rfl | (simp [errW_none, errW_some] <;> rfl) | (simp [*, errW_none, errW_some] <;> rfl), by repeat (first | (with_reducible first | exact HB.out | apply below_alloc | apply pw_below_drewN | apply below_drew1) | exact HB.out)⟩

end Go.Proofs.YtgciocgdppaaiaaDoor.P

/- Entries in bytes (pure): what is a name; the document's bytes are the program's; numbers read from bytes. -/
namespace Go.Proofs.YtgciocgdppaaiaaDoor.Pure
open Go.Proofs.YtgciocgdppaaiaaDoor Go.Proofs.YtgciocgdppaaiaaDoor.P Go.RowKit Go.Proofs.YtgciocgdppaaiaaDoorW.PrintWords

/-! ### what is a name -/
def nameB (x : ByteArray) : Bool := decide (checkE x = 0)

theorem nameB_bad {x : ByteArray} (h : hasBad x = true) : nameB x = false := by
  unfold nameB checkE
  repeat' split
  all_goals first | rfl | (exfalso; simp_all)

theorem is_loop (x : ByteArray) (hx : x.size ≤ 9223372036854775807) (h0 : x.toList ≠ []) (h56 : ¬ 56 < x.size) (hd : x.toList ≠ [46]) (hdd : x.toList ≠ [46, 46]) (d : Nat) : ∀ i : Nat, i + d = x.size → Lib.NoAny x.data.toList [0, 47] i →
    Ev (fun k => signetref13_Is.l0 k x (i : Int)) (nameB x) := by
  induction d with
  | zero =>
    intro i hi hno
    refine Ev.step (f := fun _ => some (nameB x)) (fun k => ?_) (Ev.now _)
    have h1 : ¬ ((i : Int) < (x.size : Int)) := by omega
    have hb : hasBad x = false := by
      unfold hasBad
      rw [Lib.indexAny_none (by rw [← Lib.size_eq, ← hi]; exact hno)]
      rfl
    simp only [signetref13_Is.l0]
    rw [if_neg h1]
    unfold nameB checkE
    simp [hb, h0, h56, hd, hdd]
  | succ d ih =>
    intro i hi hno
    have h1 : (i : Int) < (x.size : Int) := by omega
    have h0' : (0 : Int) ≤ (i : Int) := by omega
    obtain ⟨c, hc⟩ := get_some x i (by omega)
    have hbt := bt_nat x i c hc
    by_cases hm : [(0 : UInt8), 47].contains c = true
    · have hbad : hasBad x = true := by
        unfold hasBad
        rw [Lib.indexAny_hit hno hc hm]
        exact decide_eq_true (by omega)
      refine Ev.step (f := fun _ => some (nameB x)) (fun k => ?_) (Ev.now _)
      simp only [signetref13_Is.l0]
      rw [if_pos h1, if_pos h0', hbt, nameB_bad hbad]
      have : c = 0 ∨ c = 47 := by simpa using hm
      rcases this with rfl | rfl
      · rfl
      · rfl
    · have hm' : [(0 : UInt8), 47].contains c = false := by simpa using hm
      have hn := hno.succ hc hm'
      refine Ev.step (fun k => ?_) (ih (i + 1) (by omega) hn)
      have hne : c ≠ 0 ∧ c ≠ 47 := by simpa using hm
      simp only [signetref13_Is.l0]
      rw [if_pos h1, if_pos h0', hbt, if_neg (show ¬ ((c.toNat : Int) = 0) from fun e => hne.1 ((u8_eq (n := 0) (by omega)).1 e)), if_neg (show ¬ ((c.toNat : Int) = 47) from fun e => hne.2 ((u8_eq (n := 47) (by omega)).1 e)), wrap_succ h0' (by omega)]
      rfl

theorem is_ev (x : ByteArray) (hx : x.size ≤ 9223372036854775807) : Ev (fun k => signetref13_Is.f k x) (nameB x) := by
  have hz : x.toList = [] ↔ x.size = 0 := by
    rw [Lib.toList_data, Lib.size_eq]
    exact List.length_eq_zero_iff.symm
  have bad : checkE x ≠ 0 → Ev (fun k => signetref13_Is.j0 k x true) (nameB x) := by
    intro h
    refine Ev.step (f := fun _ => some (nameB x)) (fun k => ?_) (Ev.now _)
    unfold nameB
    simp [signetref13_Is.j0, h]
  by_cases e1 : x.size = 0
  · refine Ev.congr (fun k => ?_) (bad (by unfold checkE; rw [if_pos (hz.2 e1)]; decide))
    simp only [signetref13_Is.f]
    rw [if_pos (by omega)]
  · have e1' : x.toList ≠ [] := fun g => e1 (hz.1 g)
    by_cases e2 : 56 < x.size
    · refine Ev.congr (fun k => ?_) (bad (by unfold checkE; rw [if_neg e1', if_pos e2]; decide))
      simp only [signetref13_Is.f]
      rw [if_neg (by omega), if_pos (by omega)]
    · by_cases e3 : x.toList = [46]
      · refine Ev.congr (fun k => ?_) (bad (by unfold checkE; simp [e3]))
        simp only [signetref13_Is.f]
        rw [if_neg (by omega), if_neg (by omega), if_pos e3]
      · by_cases e4 : x.toList = [46, 46]
        · refine Ev.congr (fun k => ?_) (bad (by unfold checkE; simp [e4]))
          simp only [signetref13_Is.f]
          rw [if_neg (by omega), if_neg (by omega), if_neg e3, e4]
          rfl
        · refine Ev.congr (f := fun k => signetref13_Is.j0 k x false) (fun k => ?_) (Ev.step (fun k => ?_) (is_loop x hx e1' e2 e3 e4 x.size 0 (Nat.zero_add _) (Lib.NoAny.zero _ _)))
          · simp only [signetref13_Is.f]
            rw [if_neg (by omega), if_neg (by omega), if_neg e3, beq_eq_false_iff_ne.2 e4]
          · simp [signetref13_Is.j0]

/-! ### bytes of a number -/
theorem bytes4_ev (n : Int) (h0 : 0 ≤ n) (h1 : n ≤ 4294967295) : Ev (fun k => signetref01_Bytes.f k n 4) [n % 256, n / 256 % 256, n / 65536 % 256, n / 16777216 % 256] := by
  have w : ∀ m : Int, 0 ≤ m → m ≤ 4294967295 → IntKind.u64.wrap (Int.tdiv m 256) = m / 256 := by
    intro m hm hm2
    rw [IntKind.wrap_u64, Int.tdiv_eq_ediv_of_nonneg hm]
    omega
  refine ⟨6, fun k hk => ?_⟩
  obtain ⟨k, rfl⟩ : ∃ m, k = m + 6 := ⟨k - 6, by omega⟩
  have s0 : wrap64 (0 + 1) = 1 := by unfold wrap64; omega
  have s1 : wrap64 (1 + 1) = 2 := by unfold wrap64; omega
  have s2 : wrap64 (2 + 1) = 3 := by unfold wrap64; omega
  have s3 : wrap64 (3 + 1) = 4 := by unfold wrap64; omega
  have w0 := w n h0 h1
  have w1 := w (n / 256) (by omega) (by omega)
  have w2 := w (n / 256 / 256) (by omega) (by omega)
  have w3 := w (n / 256 / 256 / 256) (by omega) (by omega)
  have d2 : n / 256 / 256 = n / 65536 := by omega
  have d3 : n / 65536 / 256 = n / 16777216 := by omega
  have d3' : n / 256 / 256 / 256 = n / 16777216 := by omega
  unfold signetref01_Bytes.f
  simp only [signetref01_Bytes.l0, s0, s1, s2, s3, w0, w1, w2, w3, List.nil_append, List.cons_append, List.length_cons, List.length_nil]
  simp [d2, d3]

theorem strs_app (a b : List Int) : strOfNums a ++ strOfNums b = strOfNums (a ++ b) := by
  apply ba_ext
  rw [ByteArray.data_append, Array.toList_append, strOfNums_data, strOfNums_data, strOfNums_data, List.map_append]

theorem repeatL_zero (n : Nat) : Lib.repeatL [0] n = List.replicate n 0 := by
  induction n with
  | zero => rfl
  | succ n ih => rw [Lib.repeatL, ih]; rfl

theorem app_data (a b : ByteArray) : (a ++ b).data.toList = a.data.toList ++ b.data.toList := by
  rw [ByteArray.data_append, Array.toList_append]

/-- The bytes of an entry, as a list. -/
theorem encB_data (i : Int) (x : ByteArray) : (encB i x).data.toList = [i % 256, i / 256 % 256, i / 65536 % 256, i / 16777216].map (fun n => UInt8.ofNat n.toNat) ++ [(x.size : Int) % 256, (x.size : Int) / 256].map (fun n => UInt8.ofNat n.toNat) ++ [0, 0] ++ x.data.toList ++ List.replicate (56 - x.size) 0 := by
  unfold encB
  rw [app_data, app_data, app_data, app_data, strOfNums_data, strOfNums_data]
  congr 1
  show Lib.repeatL [0] (56 - x.size) = _
  exact repeatL_zero _

theorem fill_loop (d : Nat) : ∀ (s : ByteArray), s.size + d = 64 → Ev (fun k => signetref13_Encode.l0 k s) (s ++ ofL (List.replicate d 0), 0) := by
  induction d with
  | zero =>
    intro s hs
    have e : s ++ ofL (List.replicate 0 0) = s := ba_ext (by rw [app_data, data_ofL]; simp)
    rw [e]
    refine Ev.step (f := fun _ => some (s, 0)) (fun k => ?_) (Ev.now _)
    simp only [signetref13_Encode.l0]
    rw [if_neg (by omega)]
  | succ d ih =>
    intro s hs
    have h1 : (strOfNums [0]).size = 1 := rfl
    have e : (s ++ strOfNums [0]) ++ ofL (List.replicate d 0) = s ++ ofL (List.replicate (d + 1) 0) := ba_ext (by
      rw [app_data, app_data, app_data, data_ofL, data_ofL, strOfNums_data, List.append_assoc, List.replicate_succ]
      rfl)
    have hr := ih (s ++ strOfNums [0]) (by rw [ByteArray.size_append, h1]; omega)
    rw [e] at hr
    refine Ev.step (fun k => ?_) hr
    simp only [signetref13_Encode.l0, Option.bind_some, h1]
    rw [if_pos (by omega), if_pos (by omega)]

theorem refEncode_ev (i : Int) (x : ByteArray) (hx : x.size ≤ 140737488355328) : Ev (fun k => signetref13_Encode.f k i x) (encA i x) := by
  have hbad : ∀ a b, Ev (fun k => signetref13_Encode.j0 k true a b) (⟨#[]⟩, 1) := fun a b => Ev.step (f := fun _ => some _) (fun k => by simp [signetref13_Encode.j0]) (Ev.now _)
  unfold encA
  by_cases h1 : i < 1
  · rw [if_pos h1]
    refine Ev.congr (fun k => ?_) (hbad i x)
    simp only [signetref13_Encode.f]
    rw [if_pos h1]
  · rw [if_neg h1]
    by_cases h2 : 4096 < i
    · rw [if_pos h2]
      refine Ev.congr (fun k => ?_) (hbad i x)
      simp only [signetref13_Encode.f]
      rw [if_neg h1, decide_eq_true h2]
    · rw [if_neg h2]
      refine Ev.congr (f := fun k => signetref13_Encode.j0 k false i x) (fun k => ?_) ?_
      · simp only [signetref13_Encode.f]
        rw [if_neg h1, decide_eq_false h2]
      · have hi := is_ev x (by omega)
        refine Ev.step (f := fun k => (signetref13_Is.f k x).bind fun t117 => (if t117 = true then ((signetref01_Bytes.f k (IntKind.u64.wrap i) 4).bind fun t118 => ((signetref01_Bytes.f k (IntKind.u64.wrap ((x.size : Int))) 4).bind fun t121 => (if (strOfNums t118).size + (strOfNums t121).size ≤ 9223372036854775807 then (if ((strOfNums t118) ++ (strOfNums t121)).size + x.size ≤ 9223372036854775807 then (signetref13_Encode.l0 k (((strOfNums t118) ++ (strOfNums t121)) ++ x)) else (none)) else (none)))) else (some ((⟨#[]⟩ : ByteArray), 130)))) (fun k => ?_) (Ev.bind hi ?_)
        · simp only [signetref13_Encode.j0, Bool.false_eq_true, if_false]
        · unfold nameB
          by_cases hc : checkE x = 0
          · rw [if_pos hc]
            simp only [hc, decide_true, if_true]
            have h56 := checkE_size hc
            have w1 : IntKind.u64.wrap i = i := by rw [IntKind.wrap_u64]; omega
            have w2 : IntKind.u64.wrap (x.size : Int) = (x.size : Int) := by rw [IntKind.wrap_u64]; omega
            rw [w1, w2]
            refine Ev.bind (bytes4_ev i (by omega) (by omega)) (Ev.bind (bytes4_ev (x.size : Int) (by omega) (by omega)) ?_)
            have z1 : (strOfNums [i % 256, i / 256 % 256, i / 65536 % 256, i / 16777216 % 256]).size = 4 := rfl
            have z2 : (strOfNums [(x.size : Int) % 256, (x.size : Int) / 256 % 256, (x.size : Int) / 65536 % 256, (x.size : Int) / 16777216 % 256]).size = 4 := rfl
            have hf := fill_loop (56 - x.size) ((strOfNums [i % 256, i / 256 % 256, i / 65536 % 256, i / 16777216 % 256] ++ strOfNums [(x.size : Int) % 256, (x.size : Int) / 256 % 256, (x.size : Int) / 65536 % 256, (x.size : Int) / 16777216 % 256]) ++ x) (by rw [ByteArray.size_append, ByteArray.size_append, z1, z2]; omega)
            have e : (strOfNums [i % 256, i / 256 % 256, i / 65536 % 256, i / 16777216 % 256] ++ strOfNums [(x.size : Int) % 256, (x.size : Int) / 256 % 256, (x.size : Int) / 65536 % 256, (x.size : Int) / 16777216 % 256]) ++ x ++ ofL (List.replicate (56 - x.size) 0) = encB i x := by
              apply ba_ext
              rw [encB_data, app_data, app_data, app_data, data_ofL, strOfNums_data, strOfNums_data]
              have q1 : i / 16777216 % 256 = i / 16777216 := by omega
              have q2 : (x.size : Int) / 256 % 256 = (x.size : Int) / 256 := by omega
              have q3 : (x.size : Int) / 65536 % 256 = 0 := by omega
              have q4 : (x.size : Int) / 16777216 % 256 = 0 := by omega
              rw [q1, q2, q3, q4]
              simp
            rw [e] at hf
            refine Ev.congr (fun k => ?_) hf
            rw [if_pos (by omega), if_pos (by rw [ByteArray.size_append, z1, z2]; omega)]
          · rw [if_neg hc]
            simp only [hc, decide_false, Bool.false_eq_true, if_false]
            exact Ev.now _

/-! ### the number of bytes -/
def leN : List UInt8 → Nat
  | [] => 0
  | b :: l => b.toNat + 256 * leN l
theorem leN_lt : ∀ l : List UInt8, leN l < 256 ^ l.length
  | [] => by decide
  | b :: l => by
    have ih := leN_lt l
    have := UInt8.toNat_lt b
    rw [leN, List.length_cons, Nat.pow_succ]
    omega
theorem leN_snoc : ∀ (l : List UInt8) (b : UInt8), leN (l ++ [b]) = leN l + 256 ^ l.length * b.toNat
  | [], b => by simp [leN]
  | c :: l, b => by
    have ih := leN_snoc l b
    rw [List.cons_append, leN, ih, leN, List.length_cons, Nat.pow_succ, Nat.mul_add]
    rw [show 256 * (256 ^ l.length * b.toNat) = 256 ^ l.length * 256 * b.toNat from by rw [Nat.mul_comm (256 ^ l.length) 256, Nat.mul_assoc]]
    omega

theorem or_add (x b n : Nat) (h : x < 2 ^ n) : x ||| b * 2 ^ n = x + b * 2 ^ n := by
  rw [Nat.or_comm, ← Nat.shiftLeft_eq, ← Nat.shiftLeft_add_eq_or_of_lt h, Nat.add_comm]

theorem ints_get (s : ByteArray) (i : Nat) (c : UInt8) (h : s.data.toList[i]? = some c) : rd (intsL s) (i : Int) = (c.toNat : Int) := by
  unfold rd intsL
  show (s.data.toList.map fun b => (b.toNat : Int)).getD i 0 = _
  rw [List.getD_eq_getElem?_getD, List.getElem?_map, h]
  rfl

theorem take_at {l : List UInt8} {i : Nat} {c : UInt8} (h : l[i]? = some c) : l.take (i + 1) = l.take i ++ [c] := by
  rw [List.take_add_one, h]
  rfl

theorem got_loop (s : ByteArray) (hs : s.size ≤ 4) (d : Nat) : ∀ i : Nat, i + d = s.size → Ev (fun k => word_got.l0 k (intsL s) ((leN (s.data.toList.take i) : Nat) : Int) (s.size : Int) (i : Int)) ((leN s.data.toList : Nat) : Int) := by
  have hzs := Lib.size_eq s
  induction d with
  | zero =>
    intro i hi
    obtain rfl : i = s.size := by omega
    rw [List.take_of_length_le (by omega)]
    refine Ev.step (f := fun _ => some _) (fun k => ?_) (Ev.now _)
    simp only [word_got.l0]
    rw [if_neg (by omega)]
  | succ d ih =>
    intro i hi
    obtain ⟨c, hc⟩ := get_some s i (by omega)
    have hr := ih (i + 1) (by omega)
    have hcl := UInt8.toNat_lt c
    have hll := leN_lt (s.data.toList.take i)
    rw [List.length_take, Nat.min_eq_left (by omega)] at hll
    have hp : (256 : Nat) ^ i = 2 ^ (8 * i) := by rw [Nat.pow_mul]
    have hpb : (256 : Nat) ^ i ≤ 256 ^ 3 := Nat.pow_le_pow_right (by omega) (by omega)
    have hpb' : (256 : Nat) ^ i ≤ 16777216 := hpb
    rw [take_at hc, leN_snoc, List.length_take, Nat.min_eq_left (by omega)] at hr
    have hmul : 256 ^ i * c.toNat ≤ 16777216 * 255 := Nat.mul_le_mul hpb' (by omega)
    have hsh : shl .u64 (IntKind.u64.wrap (rd (intsL s) (i : Int))) (wrap64 (8 * (i : Int))) = ((256 ^ i * c.toNat : Nat) : Int) := by
      rw [ints_get s i c hc, IntKind.wrap_u64]
      have e1 : ((c.toNat : Int)) % 18446744073709551616 = (c.toNat : Int) := by omega
      have e2 : wrap64 (8 * (i : Int)) = ((8 * i : Nat) : Int) := by unfold wrap64; omega
      rw [e1, e2]
      unfold shl
      have e3 : min ((8 * i : Nat) : Int).toNat IntKind.u64.bits = 8 * i := by
        show min (8 * i) 64 = 8 * i
        omega
      rw [e3, IntKind.wrap_u64]
      have e4 : (c.toNat : Int) * 2 ^ (8 * i) = ((256 ^ i * c.toNat : Nat) : Int) := by
        rw [hp, Int.natCast_mul, Int.mul_comm, Int.natCast_pow]
        rfl
      rw [e4]
      omega
    have hor : Go.bits .or .u64 ((leN (s.data.toList.take i) : Nat) : Int) ((256 ^ i * c.toNat : Nat) : Int) = ((leN (s.data.toList.take i) + 256 ^ i * c.toNat : Nat) : Int) := by
      rw [u64_or_nat _ _ (by omega) (by omega)]
      congr 1
      have := or_add (leN (s.data.toList.take i)) c.toNat (8 * i) (by omega)
      rw [← hp, Nat.mul_comm c.toNat] at this
      exact this
    refine Ev.step (fun k => ?_) hr
    simp only [word_got.l0, hsh, hor]
    have e5 : 0 ≤ wrap64 (8 * (i : Int)) := by unfold wrap64; omega
    rw [if_pos (by omega), if_pos (by omega), if_pos (by rw [intsL_length]; omega), if_pos e5, wrap_succ (by omega) (by omega)]
    rfl
theorem got_ev (s : ByteArray) (hs : s.size ≤ 4) : Ev (fun k => word_got.f k (intsL s)) ((leN s.data.toList : Nat) : Int) := by
  unfold word_got.f
  rw [intsL_length]
  exact got_loop s hs s.size 0 (Nat.zero_add _)

theorem drop_at' {l : List UInt8} {n : Nat} {c : UInt8} (h : l[n]? = some c) : l.drop n = c :: l.drop (n + 1) := drop_at h
theorem of_loop (s : ByteArray) (hs : s.size ≤ 4) (d : Nat) : ∀ i : Nat, i = d → i ≤ s.size → Ev (fun k => signetref01_Of.l0 k (intsL s) ((leN (s.data.toList.drop i) : Nat) : Int) ((i : Int) - 1)) ((leN s.data.toList : Nat) : Int) := by
  have hzs := Lib.size_eq s
  induction d with
  | zero =>
    intro i hi hi2
    subst hi
    refine Ev.step (f := fun _ => some _) (fun k => ?_) (Ev.now _)
    simp only [signetref01_Of.l0]
    rw [if_neg (by omega)]
    rfl
  | succ d ih =>
    intro i hi hi2
    subst hi
    obtain ⟨c, hc⟩ := get_some s d (by omega)
    have hr := ih d rfl (by omega)
    rw [drop_at hc, leN] at hr
    have hcl := UInt8.toNat_lt c
    have hll := leN_lt (s.data.toList.drop (d + 1))
    have hpb : (256 : Nat) ^ (s.data.toList.drop (d + 1)).length ≤ 256 ^ 3 := Nat.pow_le_pow_right (by omega) (by rw [List.length_drop]; omega)
    have hpb' : (256 : Nat) ^ (s.data.toList.drop (d + 1)).length ≤ 16777216 := hpb
    have e0 : ((d + 1 : Nat) : Int) - 1 = (d : Int) := by omega
    have e1 : IntKind.u64.wrap ((IntKind.u64.wrap (((leN (s.data.toList.drop (d + 1)) : Nat) : Int) * 256)) + (IntKind.u64.wrap (rd (intsL s) (d : Int)))) = ((c.toNat + 256 * leN (s.data.toList.drop (d + 1)) : Nat) : Int) := by
      rw [ints_get s d c hc, IntKind.wrap_u64, IntKind.wrap_u64, IntKind.wrap_u64]
      omega
    have e2 : wrap64 ((d : Int) - 1) = (d : Int) - 1 := by unfold wrap64; omega
    rw [e0]
    refine Ev.step (fun k => ?_) hr
    simp only [signetref01_Of.l0, e1, e2]
    rw [if_pos (by omega), if_pos (by omega), if_pos (by rw [intsL_length]; omega)]
theorem of_ev (s : ByteArray) (hs : s.size ≤ 4) : Ev (fun k => signetref01_Of.f k (intsL s)) ((leN s.data.toList : Nat) : Int) := by
  have h := of_loop s hs s.size s.size rfl (Nat.le_refl _)
  rw [List.drop_of_length_le (by rw [← Lib.size_eq]; exact Nat.le_refl _)] at h
  unfold signetref01_Of.f
  rw [intsL_length, show wrap64 ((s.size : Int) - 1) = (s.size : Int) - 1 from by unfold wrap64; omega]
  exact h

/-- The number of n bytes of a text from a place on, if they are there. -/
def takeA (s : ByteArray) (at_ : Int) (n : Nat) : Int × Bool :=
  if at_ < 0 then (0, false) else if (s.size : Int) < at_ then (0, false) else if (s.size : Int) - at_ < (n : Int) then (0, false)
  else (((leN ((s.data.toList.drop at_.toNat).take n) : Nat) : Int), true)
theorem ext_take (s : ByteArray) (at_ : Int) (n : Nat) (h : 0 ≤ at_) : (s.extract at_.toNat (at_ + (n : Int)).toNat).data.toList = (s.data.toList.drop at_.toNat).take n := by
  rw [Lib.extract_data]
  congr 1
  omega
theorem take_ev (s : ByteArray) (at_ : Int) (n : Nat) (hs : s.size ≤ 140737488355328) (hn : n ≤ 4) : Ev (fun k => word_take.f k s at_ (n : Int)) (takeA s at_ n) := by
  unfold word_take.f takeA
  have hc : 0 ≤ (n : Int) ∧ s.size ≤ 140737488355328 := ⟨by omega, hs⟩
  simp only [if_pos hc]
  by_cases h1 : at_ < 0
  · simp only [if_pos h1]; exact Ev.now _
  · simp only [if_neg h1]
    by_cases h2 : (s.size : Int) < at_
    · simp only [if_pos h2]; exact Ev.now _
    · simp only [if_neg h2]
      by_cases h3 : (s.size : Int) - at_ < (n : Int)
      · simp only [if_pos h3]; exact Ev.now _
      · simp only [if_neg h3]
        have he := ext_take s at_ n (by omega)
        have hg := got_ev (s.extract at_.toNat (at_ + (n : Int)).toNat) (by rw [Lib.size_eq, he, List.length_take]; omega)
        rw [he] at hg
        exact Ev.bind hg (Ev.now _)
theorem rtake_ev (s : ByteArray) (at_ : Int) (n : Nat) (hs : s.size ≤ 140737488355328) (hn : n ≤ 4) : Ev (fun k => signetref01_Take.f k s at_ (n : Int)) (takeA s at_ n) := by
  unfold signetref01_Take.f takeA
  have hc : 0 ≤ (n : Int) ∧ s.size ≤ 140737488355328 := ⟨by omega, hs⟩
  simp only [if_pos hc]
  by_cases h1 : at_ < 0
  · simp only [if_pos h1]; exact Ev.now _
  · simp only [if_neg h1]
    by_cases h2 : (s.size : Int) < at_
    · simp only [if_pos h2]; exact Ev.now _
    · simp only [if_neg h2]
      by_cases h3 : (s.size : Int) - at_ < (n : Int)
      · simp only [if_pos h3]; exact Ev.now _
      · simp only [if_neg h3]
        have he := ext_take s at_ n (by omega)
        have hg := of_ev (s.extract at_.toNat (at_ + (n : Int)).toNat) (by rw [Lib.size_eq, he, List.length_take]; omega)
        rw [he] at hg
        exact Ev.bind hg (Ev.now _)

end Go.Proofs.YtgciocgdppaaiaaDoor.Pure

/- signetref13.Leaf: the leaf of at most four entries, byte by byte. -/
namespace Go.Proofs.YtgciocgdppaaiaaDoor
open Go.RowKit Go.Proofs.YtgciocgdppaaiaaDoorW.PrintWords Go.Proofs.YtgciocgdppaaiaaDoor.P
theorem hv42 : ∀ w, (zeroValue 42).run Tryd.prog w = .ok (.agg zeroC) w := fun w => by kernel_rfl
theorem i42 : (Tryd.prog.info? 42).map (·.size) = some 256 := by kernel_rfl

theorem store_row42 (g : Nat) (old D : Array Value) (W : World) (hg : W.heap[g]? = some (.cells old 42 (0, 0))) (ho : old.size = D.size) (h1 : D.all (·.oneCell') = true) :
    (storeCells ⟨g, 0, none⟩ D.toList).run Tryd.prog W = .ok () (W.setRow g D) := by
  have h := run_storeCells_at Tryd.prog g 0 42 D.toList 0 old W hg (by rw [Array.length_toList]; omega) (fun v hv => (Array.all_eq_true_iff_forall_mem.1 h1) v (by simpa using hv))
  rw [show (old.toList.take (0 + 0) ++ D.toList ++ old.toList.drop (0 + 0 + D.toList.length)).toArray = D from by
    rw [List.drop_of_length_le (by rw [Array.length_toList, Array.length_toList]; omega)]
    simp] at h
  exact h

/-- The entries' bytes, one behind the other, or the first error. -/
def leafG : List S33 → ByteArray → ByteArray × Int
  | [], acc => (acc, 0)
  | x :: xs, acc => if (encA x.f0 x.f1).2 = 0 then leafG xs (acc ++ (encA x.f0 x.f1).1) else (⟨#[]⟩, (encA x.f0 x.f1).2)
/-- What signetref13.Leaf answers. -/
def leafB (l : List S33) : Array Value × Int :=
  if 4 < l.length then (zeroC, 1) else if (leafG l ⟨#[]⟩).2 = 0 then (overC (leafG l ⟨#[]⟩).1 zeroC, 0) else (zeroC, (leafG l ⟨#[]⟩).2)

theorem encA_ok_size (i : Int) (x : ByteArray) : (encA i x).2 = 0 → (encA i x).1.size = 64 := by
  unfold encA
  split
  · intro h; cases h
  · split
    · intro h; cases h
    · split
      · intro _; rw [encB_64 i x (checkE_size (by assumption))]
      · intro h; first | contradiction | (exact absurd h (by assumption))
theorem ext_list (acc s : ByteArray) (k : Nat) : (acc ++ s.extract 0 k).data.toList = acc.data.toList ++ s.data.toList.take k := by
  simp
theorem overC_step (acc s : ByteArray) (k : Nat) (hk : k < s.size) (C : Array Value) (h : acc.size + k < C.size) :
    (overC (acc ++ s.extract 0 k) C).setIfInBounds (acc.size + k) (.int .u8 (s[k].toNat : Int)) = overC (acc ++ s.extract 0 (k + 1)) C := by
  have hkl : k < s.data.toList.length := by rw [Array.length_toList]; exact hk
  have hn : ∀ j, j ≤ s.size → (acc ++ s.extract 0 j).size = acc.size + j := by
    intro j hj
    rw [ByteArray.size_append, ByteArray.size_extract]
    omega
  apply Array.ext'
  unfold overC
  rw [Array.toList_setIfInBounds, hn k (by omega), hn (k + 1) (by omega)]
  simp only [List.take_zero, List.nil_append, ext_list, Nat.zero_add]
  have hl : (Lib.byteCells (acc.data.toList ++ List.take k s.data.toList)).length = acc.size + k := by
    rw [Lib.byteCells_length, List.length_append, List.length_take, Array.length_toList, Array.length_toList]
    show acc.size + min k s.size = _
    omega
  rw [List.set_append_right _ _ (by omega), hl, Nat.sub_self]
  rw [List.drop_eq_getElem_cons (by rw [Array.length_toList]; exact h), List.set_cons_zero]
  rw [show acc.size + (k + 1) = acc.size + k + 1 from rfl]
  rw [List.take_succ_eq_append_getElem hkl, ← List.append_assoc]
  unfold Lib.byteCells
  rw [List.map_append (l₂ := [_]), List.append_assoc]
  rfl
theorem drop_rdG (l : List S33) (i : Nat) (h : i < l.length) : l.drop i = rd_T33 l (i : Int) :: l.drop (i + 1) := by
  rw [List.drop_eq_getElem_cons h]
  unfold rd_T33
  rw [Int.toNat_natCast, List.getD_eq_getElem?_getD, List.getElem?_eq_getElem h]
  rfl

set_option maxRecDepth 100000 in
set_option maxHeartbeats 8000000 in
theorem rleaf_any (A : Option Addr) (c : Nat) (l : List S33) (hl : ∀ x ∈ l, x.f1.size ≤ 140737488355328) (w : World) (hr : Kd.C k33 w A l.length l) :
    Calls Tryd.prog 18 #[.slice A l.length c] w fun e w' => e = .returned (.tuple #[.agg (leafB l).1, .int .i64 (leafB l).2]) ∧ Below w.heap.size w w' := by
  have hz : ∀ w, (zeroValue 42).run Tryd.prog w = .ok (.agg zeroC) w := hv42
  have hZs := zeroC_size
  have hZ1 := zeroC_one
  have hg0 : ((w.alloc (Obj.cells zeroC 42)).alloc (Obj.cells zeroC 42)).heap[w.heap.size]? = some (.cells zeroC 42 (0, 0)) := alloc_past _ (alloc_new w _)
  have hg1 : ((w.alloc (Obj.cells zeroC 42)).alloc (Obj.cells zeroC 42)).heap[w.heap.size + 1]? = some (.cells zeroC 42 (0, 0)) := alloc_at _ _ (by simp)
  have hb0 : Below w.heap.size w ((w.alloc (Obj.cells zeroC 42)).alloc (Obj.cells zeroC 42)) := ((Below.refl _ _).alloc (Nat.le_refl _) _).alloc (by simp) _
  obtain ⟨W0, hW0⟩ : ∃ W0, (w.alloc (Obj.cells zeroC 42)).alloc (Obj.cells zeroC 42) = W0 := ⟨_, rfl⟩
  rw [hW0] at hg0 hg1 hb0
  have hst : (storeCells ⟨w.heap.size + 1, 0, none⟩ zeroC.toList).run Tryd.prog W0 = .ok () W0 := by
    have h := store_row42 (w.heap.size + 1) zeroC zeroC _ hg1 rfl hZ1
    rw [setRow_self _ _ zeroC 42 (0, 0) hg1] at h
    exact h
  by_cases h4 : 4 < l.length
  · have e : leafB l = (zeroC, 1) := if_pos h4
    rw [e]
    have hd : decide (4 < (l.length : Int)) = true := decide_eq_true (by omega)
    have hst2 := store_row42 w.heap.size zeroC zeroC _ hg0 rfl hZ1
    rw [setRow_self _ _ zeroC 42 (0, 0) hg0] at hst2
    generalize zeroC = Z at *
    go_enter Tryd.func18, Tryd.ntmps18
    go_wp2
    refine wp_load_row 42 _ rfl (w.heap.size + 1) rfl 42 Z (0, 0) _ hg1 Tryd.underlying42 rfl (by rw [hZs]; exact i42) ?_
    go_wp2
    refine bodyPost_ret (results_ct rfl _ _ w.heap.size 42 Z (0, 0) _ rfl hg0 Tryd.underlying42 rfl (by rw [hZs]; exact i42)) rfl ?_
    exact ⟨rfl, hb0⟩
  · have e : leafB l = if (leafG l ⟨#[]⟩).2 = 0 then (overC (leafG l ⟨#[]⟩).1 zeroC, 0) else (zeroC, (leafG l ⟨#[]⟩).2) := if_neg h4
    have hd : decide (4 < (l.length : Int)) = false := decide_eq_false (by omega)
    obtain ⟨R, hR⟩ : ∃ R, leafB l = R := ⟨_, rfl⟩
    rw [hR] at e ⊢
    have hE : Aside0 (R = if (leafG l ⟨#[]⟩).2 = 0 then (overC (leafG l ⟨#[]⟩).1 zeroC, 0) else (zeroC, (leafG l ⟨#[]⟩).2)) := ⟨e⟩
    clear e hR
    have hg1' : W0.heap[w.heap.size + 1]? = some (.cells (overC ⟨#[]⟩ zeroC) 42 (0, 0)) := hg1
    go_enter Tryd.func18, Tryd.ntmps18
    go_wp2
    go_loopg [5] l.length (fun g v5 wx => ∃ (i : Nat) (acc : ByteArray), i + g = l.length ∧ v5 = .int .i64 (i : Int) ∧ Aside0 (acc.size = 64 * i) ∧ Aside0 (leafG l ⟨#[]⟩ = leafG (l.drop i) acc) ∧ wx.heap[w.heap.size]? = some (.cells zeroC 42 (0, 0)) ∧ wx.heap[w.heap.size + 1]? = some (.cells (overC acc zeroC) 42 (0, 0)) ∧ Below w.heap.size w wx)
    case atStart => exact ⟨0, ⟨#[]⟩, by omega, rfl, ⟨rfl⟩, ⟨rfl⟩, hg0, hg1', hb0⟩
    case round =>
      obtain ⟨i, acc, hig, rfl, hsz, hle, hgx, hgo, hbx⟩ := hrel
      cases gk with
      | zero =>
        have hi : i = l.length := by omega
        have hR : R = (overC acc zeroC, 0) := by
          have h1 := hle.out
          rw [List.drop_of_length_le (by omega), leafG] at h1
          have h2 := hE.out
          rw [h1, if_pos rfl] at h2
          exact h2
        have hR1 : R.1 = overC acc zeroC := by rw [hR]
        have hR2 : R.2 = 0 := by rw [hR]
        have hsz2 : acc.size ≤ 256 := by have := hsz.out; omega
        have hds := overC_size acc zeroC (by rw [zeroC_size]; exact hsz2)
        have hd1 := overC_one acc zeroC zeroC_one
        rw [zeroC_size] at hds
        have hd5 : decide ((i : Int) < (l.length : Int)) = false := decide_eq_false (by omega)
        have hst2 := store_row42 w.heap.size zeroC (overC acc zeroC) _ hgx (by rw [hds, zeroC_size]) hd1
        have hgr := setRow_heap _ _ zeroC (overC acc zeroC) 42 (0, 0) hgx
        have hbr := below_setRow hbx (Nat.le_refl _) (overC acc zeroC)
        clear hle hE hR hr hz hZ1 hg0 hb0 hg1 hg1' hst
        generalize overC acc zeroC = D at *
        go_wp2
        refine wp_load_row 42 _ rfl (w.heap.size + 1) rfl 42 D (0, 0) _ hgo Tryd.underlying42 rfl (by rw [hds]; exact i42) ?_
        go_wp2
        refine bodyPost_ret (results_ct rfl _ _ w.heap.size 42 D (0, 0) _ rfl hgr Tryd.underlying42 rfl (by rw [hds]; exact i42)) rfl ?_
        exact ⟨by rw [hR1, hR2]; rfl, hbr⟩
      | succ g =>
        have hi : i < l.length := by omega
        have hC := Kd.C_below hr hbx
        have p5 : (0 : Int) ≤ (i : Int) := by omega
        have q5 : (i : Int) < (l.length : Int) := by omega
        obtain ⟨ad, eA, hx0, hx1⟩ := at_T33 hC (i : Int) p5 q5
        subst eA
        have hdr := drop_rdG l i hi
        have h1 := hle.out
        rw [hdr, leafG] at h1
        have hs64 : (encA (rd_T33 l (i : Int)).f0 (rd_T33 l (i : Int)).f1).2 = 0 → (encA (rd_T33 l (i : Int)).f0 (rd_T33 l (i : Int)).f1).1.size = 64 := encA_ok_size _ _
        obtain ⟨kE, hkE⟩ := Pure.refEncode_ev (rd_T33 l (i : Int)).f0 (rd_T33 l (i : Int)).f1 (hl _ (by
          have := List.getElem_mem hi
          have e : rd_T33 l (i : Int) = l[i] := by
            have h3 := List.drop_eq_getElem_cons hi
            rw [hdr] at h3
            exact (List.cons.inj h3).1
          rw [e]; exact this))
        have hEnc := fun W => signetref13_Encode.calls kE (rd_T33 l (i : Int)).f0 (rd_T33 l (i : Int)).f1 (encA (rd_T33 l (i : Int)).f0 (rd_T33 l (i : Int)).f1).1 (encA (rd_T33 l (i : Int)).f0 (rd_T33 l (i : Int)).f1).2 W (hkE kE (Nat.le_refl _))
        clear hkE hdr
        generalize (encA (rd_T33 l (i : Int)).f0 (rd_T33 l (i : Int)).f1).1 = s at *
        generalize (encA (rd_T33 l (i : Int)).f0 (rd_T33 l (i : Int)).f1).2 = er at *
        generalize (rd_T33 l (i : Int)).f0 = f0 at *
        generalize (rd_T33 l (i : Int)).f1 = f1 at *
        have hd5 : decide ((i : Int) < (l.length : Int)) = true := decide_eq_true q5
        simp only [Int.toNat_natCast] at hx0 hx1
        by_cases he0 : er = 0
        · rw [if_pos he0] at h1
          subst he0
          have hs := hs64 rfl
          go_wp2_with (go_at_call 13; refine (hEnc _).mono ?_; rintro e w2 ⟨rfl, hb⟩)
          have hgx2 : w2.heap[w.heap.size]? = some (.cells zeroC 42 (0, 0)) := (hb.block _ (Array.getElem?_eq_some_iff.1 hgx).1).trans hgx
          have hgo2 : w2.heap[w.heap.size + 1]? = some (.cells (overC acc zeroC) 42 (0, 0)) := (hb.block _ (Array.getElem?_eq_some_iff.1 hgo).1).trans hgo
          have hbx2 : Below w.heap.size w w2 := hbx.trans (hb.mono hbx.size)
          have hasz := hsz.out
          have hi4 : i < 4 := by omega
          clear hr hz hg0 hb0 hg1 hg1' hst hC hgx hgo hx0 hx1 hEnc hle hsz
          have hO1 : ∀ p, (overC p zeroC).size = 256 ∨ ¬ p.size ≤ 256 := fun p => by
            by_cases hp : p.size ≤ 256
            · exact .inl ((overC_size p zeroC (by rw [zeroC_size]; exact hp)).trans zeroC_size)
            · exact .inr hp
          go_loopg [8] 64 (fun h v8 wx => ∃ (k : Nat), k + h = 64 ∧ v8 = .int .i64 (k : Int) ∧ wx.heap[w.heap.size]? = some (.cells zeroC 42 (0, 0)) ∧ wx.heap[w.heap.size + 1]? = some (.cells (overC (acc ++ s.extract 0 k) zeroC) 42 (0, 0)) ∧ Below w.heap.size w wx)
          case atStart => exact ⟨0, by omega, rfl, hgx2, by rw [show s.extract 0 0 = ByteArray.empty by ext <;> simp, ByteArray.append_empty]; exact hgo2, hbx2⟩
          case round =>
            obtain ⟨k, hkg, rfl, hgy, hgp, hby⟩ := hrel
            cases gk with
            | zero =>
              have hk : k = 64 := by omega
              subst hk
              rw [show s.extract 0 64 = s by rw [← hs]; exact ByteArray.extract_zero_size] at hgp
              go_wp2
              go_roundg g
              case measure => omega
              case rel => exact ⟨i + 1, acc ++ s, by omega, by push_cast; rfl, ⟨by rw [ByteArray.size_append]; omega⟩, ⟨h1⟩, hgy, hgp, hby⟩
            | succ h =>
              have hk : k < 64 := by omega
              have hks : k < s.size := by omega
              have hd7 : decide ((k : Int) < 64) = true := decide_eq_true (by omega)
              have hm1 : wrap64 (64 * (i : Int)) = 64 * (i : Int) := by unfold wrap64; omega
              have hm2 : wrap64 (64 * (i : Int) + (k : Int)) = 64 * (i : Int) + (k : Int) := by unfold wrap64; omega
              have hDs : (overC (acc ++ s.extract 0 k) zeroC).size = 256 := (hO1 _).resolve_right (by rw [ByteArray.size_append, ByteArray.size_extract]; omega)
              have hnx := overC_step acc s k hks zeroC (by rw [zeroC_size]; omega)
              rw [hasz] at hnx
              have hfz : wr.frozen? ⟨w.heap.size + 1, 64 * i + k, none⟩ = false := by
                unfold World.frozen?
                rw [hgp]
                simp
              obtain ⟨cv, hcv⟩ : ∃ v, wr.cell? ⟨w.heap.size + 1, 64 * i + k, none⟩ = some v := by
                unfold World.cell?
                rw [hgp]
                exact ⟨_, Array.getElem?_eq_getElem (by rw [hDs]; show 64 * i + k < 256; omega)⟩
              have hgy2 := (heap_setCell_other wr ⟨w.heap.size + 1, 64 * i + k, none⟩ w.heap.size (.int .u8 (s[k].toNat : Int)) (by show w.heap.size ≠ w.heap.size + 1; omega)).trans hgy
              have hgp2 := heap_setCell_same wr (w.heap.size + 1) (64 * i + k) _ 42 (.int .u8 (s[k].toNat : Int)) hgp
              rw [hnx] at hgp2
              have hby2 : Below w.heap.size w (wr.setCell ⟨w.heap.size + 1, 64 * i + k, none⟩ (.int .u8 (s[k].toNat : Int))) := below_set hby (by omega)
              go_wp2
              go_roundg h
              case measure => omega
              case rel => exact ⟨k + 1, by omega, by push_cast; rfl, hgy2, hgp2, hby2⟩
        · have e1 : R.1 = zeroC := by
            have h2 := hE.out
            rw [h1, if_neg he0] at h2
            rw [if_neg he0] at h2
            rw [h2]
          have e2 : R.2 = er := by
            have h2 := hE.out
            rw [h1, if_neg he0] at h2
            rw [if_neg he0] at h2
            rw [h2]
          clear hle hE hr h1 hg0 hb0 hg1 hg1' hst
          have hd6 : decide (er = 0) = false := decide_eq_false he0
          have hkeep : ∀ w2, Below wr.heap.size wr w2 → (storeCells ⟨w.heap.size, 0, none⟩ zeroC.toList).run Tryd.prog w2 = .ok () w2 ∧ w2.heap[w.heap.size]? = some (.cells zeroC 42 (0, 0)) ∧ Below w.heap.size w w2 := by
            intro w2 hb
            have hg2 : w2.heap[w.heap.size]? = some (.cells zeroC 42 (0, 0)) := (hb.block _ (Array.getElem?_eq_some_iff.1 hgx).1).trans hgx
            have hst := store_row42 w.heap.size zeroC zeroC w2 hg2 rfl hZ1
            rw [setRow_self _ _ zeroC 42 (0, 0) hg2] at hst
            exact ⟨hst, hg2, hbx.trans (hb.mono hbx.size)⟩
          generalize zeroC = Z at *
          go_wp2_with (go_at_call 13; refine (hEnc _).mono ?_; rintro e w2 ⟨rfl, hb⟩; obtain ⟨hst, hg5, hb5⟩ := hkeep w2 hb)
          refine bodyPost_ret (results_ct rfl _ _ w.heap.size 42 Z (0, 0) _ rfl hg5 Tryd.underlying42 rfl (by rw [hZs]; exact i42)) rfl ?_
          exact ⟨by rw [e1, e2]; rfl, hb5⟩

end Go.Proofs.YtgciocgdppaaiaaDoor

/- Contracts of strings.Trim, TrimLeft and Compare in the printed form, over the shelf's. -/
namespace Go.Proofs.YtgciocgdppaaiaaDoor.P
open Go.RowKit Go.Proofs.YtgciocgdppaaiaaDoor Go.Proofs.YtgciocgdppaaiaaDoorW.PrintWords

def strings_Trim.f (a0 a1 : ByteArray) : Option ByteArray :=
  match a1.data.toList with
  | [c] => if c.toNat < 128 ∧ a0.size ≤ 9223372036854775807 then some ⟨(Lib.trimB a0.data.toList c).toArray⟩ else none
  | _ => none
theorem strings_Trim.calls (a0 a1 : ByteArray) (r : ByteArray) (w : World) (h : strings_Trim.f a0 a1 = some r) :
    Calls Tryd.prog 33 #[.string a0, .string a1] w fun e w' => e = .returned (.string r) ∧ Below w.heap.size w w' := by
  obtain ⟨⟨l⟩⟩ := a1
  unfold strings_Trim.f at h
  match l, h with
  | [], h => cases h
  | _ :: _ :: _, h => cases h
  | [c], h =>
    simp only at h
    by_cases hh : c.toNat < 128 ∧ a0.size ≤ 9223372036854775807
    · rw [if_pos hh] at h
      obtain rfl := Option.some.inj h
      have := Tryd.strings_Trim_one a0 c hh.1 w hh.2
      refine this.mono fun e w' hp => ?_
      refine ⟨hp.1, ?_⟩
      rcases hp.2 with rfl | rfl
      · exact Below.refl _ _
      · exact below_drew1 (Below.refl _ _)
    · rw [if_neg hh] at h
      cases h

def strings_TrimLeft.f (a0 a1 : ByteArray) : Option ByteArray :=
  match a1.data.toList with
  | [c] => if c.toNat < 128 then some ⟨(Lib.trimLeftB a0.data.toList c).toArray⟩ else none
  | _ => none
theorem strings_TrimLeft.calls (a0 a1 : ByteArray) (r : ByteArray) (w : World) (h : strings_TrimLeft.f a0 a1 = some r) :
    Calls Tryd.prog 45 #[.string a0, .string a1] w fun e w' => e = .returned (.string r) ∧ Below w.heap.size w w' := by
  obtain ⟨⟨l⟩⟩ := a1
  unfold strings_TrimLeft.f at h
  match l, h with
  | [], h => cases h
  | _ :: _ :: _, h => cases h
  | [c], h =>
    simp only at h
    by_cases hh : c.toNat < 128
    · rw [if_pos hh] at h
      obtain rfl := Option.some.inj h
      refine (Tryd.strings_TrimLeft_one a0 c hh w).mono fun e w' hp => ?_
      obtain ⟨rfl, rfl⟩ := hp
      exact ⟨rfl, Below.refl _ _⟩
    · rw [if_neg hh] at h
      cases h

def strings_Compare.f (a0 a1 : ByteArray) : Option Int := some (Lib.compareBytes a0.data.toList a1.data.toList)
theorem strings_Compare.calls (a0 a1 : ByteArray) (r : Int) (w : World) (h : strings_Compare.f a0 a1 = some r) :
    Calls Tryd.prog 46 #[.string a0, .string a1] w fun e w' => e = .returned (.int .i64 r) ∧ Drawn0 w w' := by
  obtain rfl := Option.some.inj h
  refine (Tryd.strings_Compare a0 a1 w).mono fun e w' hp => ?_
  obtain ⟨rfl, rfl⟩ := hp
  exact ⟨rfl, Drawn0.refl _⟩

end Go.Proofs.YtgciocgdppaaiaaDoor.P
