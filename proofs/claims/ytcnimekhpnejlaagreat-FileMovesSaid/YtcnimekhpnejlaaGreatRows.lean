/-
  No cell of these rows narrows 'for every input' (looked for: loops, veiled, ifaces, maps, wideKeys, modest, calm, conditions, laid).
  DERIVED. THE GIVEN ROWS OF THIS SEAT. 5 by the template 'for every input the law returns true; each argument reads behind the call as it read before'; 0 by the template 'total and deterministic' (their statements: YtcnimekhpnejlaaGreatTotals.lean).
  GIVEN WITH THE SEED: the statements are not yours to turn. If you find one false, say at which input.
  Laid BY PROGRAM, IN A SANDBOX (cutbox-rows.mjs): the forced cells as the released guide's own fill.sh prints them over the translation c7cb0684423aea34… (all of the seat's roots in one cut). By AI agents, Wed Nov 11 2026. No macro, syntax, notation, axiom, sorry.
-/
import Derived.Test.YtcnimekhpnejlaaGreatChecked
import GoSem.Claim
import GoSem.ClaimJoined
import GoSem.ClaimMapViews
import Derived.JoinedTies
import Derived.KernelRfl
namespace Go.Proofs.YtcnimekhpnejlaaGreat
/- THE CELL 'sum', in the pinned program and in every row, IS THE sha256 OF THE DUMP (.gsa) THAT YtcnimekhpnejlaaGreatProg.lean LOADS. Nothing in Lean hashes anything: it is a label: what it is worth is what the hold of that sum in a sandbox is worth. -/
noncomputable def Tryz.pinned : Pinned := { name := "ytcnimekhpnejlaagreat", sum := "c7cb0684423aea344ddd95e15f326605fa2413d561f42af6943ea848c2e7325d", checked := Tryz.checked }
namespace Rows
def none {H : Type} : Left H := { results := [], args := [] }

/-- 'signetlaw16.FileBack': WHATEVER THE INPUT: true; the input reads as it did. -/
def fileBackSpec : ChangeSpec := { name := "fileBack", fn := fun _ => fun
  | [d1, d2, d3] => { results := [.lit (.bool true)], args := [d1, d2, d3] }
  | _ => none }
def fileBackRow : OpenClaim := { program := "ytcnimekhpnejlaagreat", sum := "c7cb0684423aea344ddd95e15f326605fa2413d561f42af6943ea848c2e7325d", func := "signet/signetlaw16.FileBack", spec := "fileBack", inPlace := ["maps.clone"], unfollowed := true, recurses := true, plainKeys := false, apart := false }
def FileBackSaid : Prop := fileBackRow.holds Tryz.pinned (OpenSpec.ofChange fileBackSpec)

/-- ITS FALSE NEIGHBOUR: 'it returns false'. Refute it at one input. -/
def fileBackWrong : ChangeSpec := { name := "fileBack", fn := fun _ => fun
  | [d1, d2, d3] => { results := [.lit (.bool false)], args := [d1, d2, d3] }
  | _ => none }
def FileBackWrongFalsely : Prop := fileBackRow.holds Tryz.pinned (OpenSpec.ofChange fileBackWrong)

/-- 'signetlaw16.FilePlays': WHATEVER THE INPUT: true; the input reads as it did. -/
def filePlaysSpec : ChangeSpec := { name := "filePlays", fn := fun _ => fun
  | [d] => { results := [.lit (.bool true)], args := [d] }
  | _ => none }
def filePlaysRow : OpenClaim := { program := "ytcnimekhpnejlaagreat", sum := "c7cb0684423aea344ddd95e15f326605fa2413d561f42af6943ea848c2e7325d", func := "signet/signetlaw16.FilePlays", spec := "filePlays", inPlace := ["maps.clone"], unfollowed := true, recurses := true, plainKeys := false, apart := false }
def FilePlaysSaid : Prop := filePlaysRow.holds Tryz.pinned (OpenSpec.ofChange filePlaysSpec)

/-- ITS FALSE NEIGHBOUR: 'it returns false'. Refute it at one input. -/
def filePlaysWrong : ChangeSpec := { name := "filePlays", fn := fun _ => fun
  | [d] => { results := [.lit (.bool false)], args := [d] }
  | _ => none }
def FilePlaysWrongFalsely : Prop := filePlaysRow.holds Tryz.pinned (OpenSpec.ofChange filePlaysWrong)

/-- 'signetlaw16.FileMoves': WHATEVER THE INPUT: true; the input reads as it did. -/
def fileMovesSpec : ChangeSpec := { name := "fileMoves", fn := fun _ => fun
  | [d1, d2] => { results := [.lit (.bool true)], args := [d1, d2] }
  | _ => none }
def fileMovesRow : OpenClaim := { program := "ytcnimekhpnejlaagreat", sum := "c7cb0684423aea344ddd95e15f326605fa2413d561f42af6943ea848c2e7325d", func := "signet/signetlaw16.FileMoves", spec := "fileMoves", inPlace := ["maps.clone"], unfollowed := true, recurses := true, plainKeys := false, apart := false }
def FileMovesSaid : Prop := fileMovesRow.holds Tryz.pinned (OpenSpec.ofChange fileMovesSpec)

/-- ITS FALSE NEIGHBOUR: 'it returns false'. Refute it at one input. -/
def fileMovesWrong : ChangeSpec := { name := "fileMoves", fn := fun _ => fun
  | [d1, d2] => { results := [.lit (.bool false)], args := [d1, d2] }
  | _ => none }
def FileMovesWrongFalsely : Prop := fileMovesRow.holds Tryz.pinned (OpenSpec.ofChange fileMovesWrong)

/-- 'signetlaw16.FileFinds': WHATEVER THE INPUT: true; the input reads as it did. -/
def fileFindsSpec : ChangeSpec := { name := "fileFinds", fn := fun _ => fun
  | [d1, d2, d3] => { results := [.lit (.bool true)], args := [d1, d2, d3] }
  | _ => none }
def fileFindsRow : OpenClaim := { program := "ytcnimekhpnejlaagreat", sum := "c7cb0684423aea344ddd95e15f326605fa2413d561f42af6943ea848c2e7325d", func := "signet/signetlaw16.FileFinds", spec := "fileFinds", inPlace := ["maps.clone", "internal/bytealg.IndexByteString", "internal/bytealg.IndexString"], unfollowed := true, recurses := true, named := ["internal/bytealg.MaxLen"], plainKeys := false, apart := false }
def FileFindsSaid : Prop := fileFindsRow.holds Tryz.pinned (OpenSpec.ofChange fileFindsSpec)

/-- ITS FALSE NEIGHBOUR: 'it returns false'. Refute it at one input. -/
def fileFindsWrong : ChangeSpec := { name := "fileFinds", fn := fun _ => fun
  | [d1, d2, d3] => { results := [.lit (.bool false)], args := [d1, d2, d3] }
  | _ => none }
def FileFindsWrongFalsely : Prop := fileFindsRow.holds Tryz.pinned (OpenSpec.ofChange fileFindsWrong)

/-- 'signetlaw16.FileShifts': WHATEVER THE INPUT: true; the input reads as it did. -/
def fileShiftsSpec : ChangeSpec := { name := "fileShifts", fn := fun _ => fun
  | [d1, d2, d3] => { results := [.lit (.bool true)], args := [d1, d2, d3] }
  | _ => none }
def fileShiftsRow : OpenClaim := { program := "ytcnimekhpnejlaagreat", sum := "c7cb0684423aea344ddd95e15f326605fa2413d561f42af6943ea848c2e7325d", func := "signet/signetlaw16.FileShifts", spec := "fileShifts", inPlace := ["maps.clone", "internal/bytealg.IndexByteString", "internal/bytealg.IndexString"], unfollowed := true, recurses := true, named := ["internal/bytealg.MaxLen"], plainKeys := false, apart := false }
def FileShiftsSaid : Prop := fileShiftsRow.holds Tryz.pinned (OpenSpec.ofChange fileShiftsSpec)

/-- ITS FALSE NEIGHBOUR: 'it returns false'. Refute it at one input. -/
def fileShiftsWrong : ChangeSpec := { name := "fileShifts", fn := fun _ => fun
  | [d1, d2, d3] => { results := [.lit (.bool false)], args := [d1, d2, d3] }
  | _ => none }
def FileShiftsWrongFalsely : Prop := fileShiftsRow.holds Tryz.pinned (OpenSpec.ofChange fileShiftsWrong)

/- THE SECOND FORM. 'bulk': how many values and letters a reading holds, each counted each time it is reached (what is shared counts as often as it is met; a slice's spare places count too). A statement '..UptoSaid' is the law's where the arguments, and the package variables that the reading takes, are together of bulk at most 1048576: NARROWER than '..Said'. Prove '..Said' where nothing that the law and all that it calls make is longer than what came in: it says more and counts as full. Else prove '..UptoSaid'. A law counts once. -/
mutual
def uptoBulk {H : Type} : DataW H → Nat
  | .lit (.string bytes) => bytes.length + 1
  | .lit _ => 1
  | .nil => 1
  | .ptr d => uptoBulk d + 1
  | .slice elems spare => uptoBulkAll elems + uptoBulkAll spare + 1
  | .agg parts => uptoBulkAll parts + 1
  | .iface _ d => uptoBulk d + 1
  | .map entries => uptoBulkEntries entries + 1
  | .held _ => 1
def uptoBulkAll {H : Type} : List (DataW H) → Nat
  | [] => 0
  | d :: r => uptoBulk d + uptoBulkAll r
def uptoBulkEntries {H : Type} : List (Lit × DataW H) → Nat
  | [] => 0
  | x :: r => uptoBulkEntry x + uptoBulkEntries r
def uptoBulkEntry {H : Type} : Lit × DataW H → Nat
  | (.string bytes, d) => bytes.length + uptoBulk d + 1
  | (_, d) => uptoBulk d + 1
 end
def uptoSmall : (H : Type) → List (DataW H) → Bool := fun _ ds => decide (uptoBulkAll ds ≤ 1048576)
def OpenSpec.upto (s : _root_.Go.ChangeSpec) : _root_.Go.OpenSpec := { _root_.Go.OpenSpec.ofChange s with cond := some uptoSmall }

/-- 'signetlaw16.FileBack', WHERE WHAT IT READS IS OF BULK AT MOST 1048576: true; the input reads as it did. -/
def fileBackUptoRow : OpenClaim := { program := "ytcnimekhpnejlaagreat", sum := "c7cb0684423aea344ddd95e15f326605fa2413d561f42af6943ea848c2e7325d", func := "signet/signetlaw16.FileBack", spec := "fileBack", inPlace := ["maps.clone"], unfollowed := true, recurses := true, plainKeys := false, apart := false, narrowed := true }
def FileBackUptoSaid : Prop := fileBackUptoRow.holds Tryz.pinned (OpenSpec.upto fileBackSpec)

/-- 'signetlaw16.FilePlays', WHERE WHAT IT READS IS OF BULK AT MOST 1048576: true; the input reads as it did. -/
def filePlaysUptoRow : OpenClaim := { program := "ytcnimekhpnejlaagreat", sum := "c7cb0684423aea344ddd95e15f326605fa2413d561f42af6943ea848c2e7325d", func := "signet/signetlaw16.FilePlays", spec := "filePlays", inPlace := ["maps.clone"], unfollowed := true, recurses := true, plainKeys := false, apart := false, narrowed := true }
def FilePlaysUptoSaid : Prop := filePlaysUptoRow.holds Tryz.pinned (OpenSpec.upto filePlaysSpec)

/-- 'signetlaw16.FileMoves', WHERE WHAT IT READS IS OF BULK AT MOST 1048576: true; the input reads as it did. -/
def fileMovesUptoRow : OpenClaim := { program := "ytcnimekhpnejlaagreat", sum := "c7cb0684423aea344ddd95e15f326605fa2413d561f42af6943ea848c2e7325d", func := "signet/signetlaw16.FileMoves", spec := "fileMoves", inPlace := ["maps.clone"], unfollowed := true, recurses := true, plainKeys := false, apart := false, narrowed := true }
def FileMovesUptoSaid : Prop := fileMovesUptoRow.holds Tryz.pinned (OpenSpec.upto fileMovesSpec)

/-- 'signetlaw16.FileFinds', WHERE WHAT IT READS IS OF BULK AT MOST 1048576: true; the input reads as it did. -/
def fileFindsUptoRow : OpenClaim := { program := "ytcnimekhpnejlaagreat", sum := "c7cb0684423aea344ddd95e15f326605fa2413d561f42af6943ea848c2e7325d", func := "signet/signetlaw16.FileFinds", spec := "fileFinds", inPlace := ["maps.clone", "internal/bytealg.IndexByteString", "internal/bytealg.IndexString"], unfollowed := true, recurses := true, named := ["internal/bytealg.MaxLen"], plainKeys := false, apart := false, narrowed := true }
def FileFindsUptoSaid : Prop := fileFindsUptoRow.holds Tryz.pinned (OpenSpec.upto fileFindsSpec)

/-- 'signetlaw16.FileShifts', WHERE WHAT IT READS IS OF BULK AT MOST 1048576: true; the input reads as it did. -/
def fileShiftsUptoRow : OpenClaim := { program := "ytcnimekhpnejlaagreat", sum := "c7cb0684423aea344ddd95e15f326605fa2413d561f42af6943ea848c2e7325d", func := "signet/signetlaw16.FileShifts", spec := "fileShifts", inPlace := ["maps.clone", "internal/bytealg.IndexByteString", "internal/bytealg.IndexString"], unfollowed := true, recurses := true, named := ["internal/bytealg.MaxLen"], plainKeys := false, apart := false, narrowed := true }
def FileShiftsUptoSaid : Prop := fileShiftsUptoRow.holds Tryz.pinned (OpenSpec.upto fileShiftsSpec)

end Rows
end Go.Proofs.YtcnimekhpnejlaaGreat
