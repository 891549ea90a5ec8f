/-
  No cell of these rows narrows 'for every input' (looked for: loops, veiled, ifaces, maps, wideKeys, modest, calm, conditions, laid).
  DERIVED. THE GIVEN ROWS OF THIS SEAT. 6 by the template 'for every input the law returns true; each argument reads behind the call as it read before'; 0 by the template 'total and deterministic' (their statements: YtoehfadjpficiaaGreatTotals.lean).
  GIVEN WITH THE SEED: the statements are not yours to turn. If you find one false, say at which input.
  Laid BY PROGRAM, IN A SANDBOX (cutbox-rows.mjs): the forced cells as the released guide's own fill.sh prints them over the translation cae2c6a6a2e808c8… (all of the seat's roots in one cut). By AI agents, Wed Nov 11 2026. No macro, syntax, notation, axiom, sorry.
-/
import Derived.Test.YtoehfadjpficiaaGreatChecked
import GoSem.Claim
import GoSem.ClaimJoined
import GoSem.ClaimMapViews
import Derived.JoinedTies
import Derived.KernelRfl
namespace Go.Proofs.YtoehfadjpficiaaGreat
/- THE CELL 'sum', in the pinned program and in every row, IS THE sha256 OF THE DUMP (.gsa) THAT YtoehfadjpficiaaGreatProg.lean LOADS. Nothing in Lean hashes anything: it is a label: what it is worth is what the hold of that sum in a sandbox is worth. -/
noncomputable def Tryz.pinned : Pinned := { name := "ytoehfadjpficiaagreat", sum := "cae2c6a6a2e808c899dc57d01a1091851520143f044d0a7c0e9b324cd4446d9d", checked := Tryz.checked }
namespace Rows
def none {H : Type} : Left H := { results := [], args := [] }

/-- 'signetlaw15.InodesOpens': WHATEVER THE INPUT: true; the input reads as it did. -/
def inodesOpensSpec : ChangeSpec := { name := "inodesOpens", fn := fun _ => fun
  | [d1, d2] => { results := [.lit (.bool true)], args := [d1, d2] }
  | _ => none }
def inodesOpensRow : OpenClaim := { program := "ytoehfadjpficiaagreat", sum := "cae2c6a6a2e808c899dc57d01a1091851520143f044d0a7c0e9b324cd4446d9d", func := "signet/signetlaw15.InodesOpens", spec := "inodesOpens", unfollowed := true, recurses := true, plainKeys := false, apart := false }
def InodesOpensSaid : Prop := inodesOpensRow.holds Tryz.pinned (OpenSpec.ofChange inodesOpensSpec)

/-- ITS FALSE NEIGHBOUR: 'it returns false'. Refute it at one input. -/
def inodesOpensWrong : ChangeSpec := { name := "inodesOpens", fn := fun _ => fun
  | [d1, d2] => { results := [.lit (.bool false)], args := [d1, d2] }
  | _ => none }
def InodesOpensWrongFalsely : Prop := inodesOpensRow.holds Tryz.pinned (OpenSpec.ofChange inodesOpensWrong)

/-- 'signetlaw16.FileErrors': WHATEVER THE INPUT: true; the input reads as it did. -/
def fileErrorsSpec : ChangeSpec := { name := "fileErrors", fn := fun _ => fun
  | [d1, d2] => { results := [.lit (.bool true)], args := [d1, d2] }
  | _ => none }
def fileErrorsRow : OpenClaim := { program := "ytoehfadjpficiaagreat", sum := "cae2c6a6a2e808c899dc57d01a1091851520143f044d0a7c0e9b324cd4446d9d", func := "signet/signetlaw16.FileErrors", spec := "fileErrors", inPlace := ["maps.clone"], unfollowed := true, recurses := true, plainKeys := false, apart := false }
def FileErrorsSaid : Prop := fileErrorsRow.holds Tryz.pinned (OpenSpec.ofChange fileErrorsSpec)

/-- ITS FALSE NEIGHBOUR: 'it returns false'. Refute it at one input. -/
def fileErrorsWrong : ChangeSpec := { name := "fileErrors", fn := fun _ => fun
  | [d1, d2] => { results := [.lit (.bool false)], args := [d1, d2] }
  | _ => none }
def FileErrorsWrongFalsely : Prop := fileErrorsRow.holds Tryz.pinned (OpenSpec.ofChange fileErrorsWrong)

/-- 'signetlaw10.GrowNil': WHATEVER THE INPUT: true; the input reads as it did. -/
def growNilSpec : ChangeSpec := { name := "growNil", fn := fun _ => fun
  | [d1, d2, d3] => { results := [.lit (.bool true)], args := [d1, d2, d3] }
  | _ => none }
def growNilRow : OpenClaim := { program := "ytoehfadjpficiaagreat", sum := "cae2c6a6a2e808c899dc57d01a1091851520143f044d0a7c0e9b324cd4446d9d", func := "signet/signetlaw10.GrowNil", spec := "growNil", inPlace := ["maps.clone"], unfollowed := true, recurses := true, plainKeys := false, apart := false }
def GrowNilSaid : Prop := growNilRow.holds Tryz.pinned (OpenSpec.ofChange growNilSpec)

/-- ITS FALSE NEIGHBOUR: 'it returns false'. Refute it at one input. -/
def growNilWrong : ChangeSpec := { name := "growNil", fn := fun _ => fun
  | [d1, d2, d3] => { results := [.lit (.bool false)], args := [d1, d2, d3] }
  | _ => none }
def GrowNilWrongFalsely : Prop := growNilRow.holds Tryz.pinned (OpenSpec.ofChange growNilWrong)

/-- 'signetlaw16.FileWrong': WHATEVER THE INPUT: true; the input reads as it did. -/
def fileWrongSpec : ChangeSpec := { name := "fileWrong", fn := fun _ => fun
  | [d1, d2] => { results := [.lit (.bool true)], args := [d1, d2] }
  | _ => none }
def fileWrongRow : OpenClaim := { program := "ytoehfadjpficiaagreat", sum := "cae2c6a6a2e808c899dc57d01a1091851520143f044d0a7c0e9b324cd4446d9d", func := "signet/signetlaw16.FileWrong", spec := "fileWrong", inPlace := ["maps.clone", "internal/bytealg.IndexByteString", "internal/bytealg.IndexString"], unfollowed := true, recurses := true, named := ["internal/bytealg.MaxLen"], plainKeys := false, apart := false }
def FileWrongSaid : Prop := fileWrongRow.holds Tryz.pinned (OpenSpec.ofChange fileWrongSpec)

/-- ITS FALSE NEIGHBOUR: 'it returns false'. Refute it at one input. -/
def fileWrongWrong : ChangeSpec := { name := "fileWrong", fn := fun _ => fun
  | [d1, d2] => { results := [.lit (.bool false)], args := [d1, d2] }
  | _ => none }
def FileWrongWrongFalsely : Prop := fileWrongRow.holds Tryz.pinned (OpenSpec.ofChange fileWrongWrong)

/-- 'signetlaw15.InodesNil': WHATEVER THE INPUT: true; the input reads as it did. -/
def inodesNilSpec : ChangeSpec := { name := "inodesNil", fn := fun _ => fun
  | [d] => { results := [.lit (.bool true)], args := [d] }
  | _ => none }
def inodesNilRow : OpenClaim := { program := "ytoehfadjpficiaagreat", sum := "cae2c6a6a2e808c899dc57d01a1091851520143f044d0a7c0e9b324cd4446d9d", func := "signet/signetlaw15.InodesNil", spec := "inodesNil", inPlace := ["maps.clone"], unfollowed := true, recurses := true, plainKeys := false, apart := false }
def InodesNilSaid : Prop := inodesNilRow.holds Tryz.pinned (OpenSpec.ofChange inodesNilSpec)

/-- ITS FALSE NEIGHBOUR: 'it returns false'. Refute it at one input. -/
def inodesNilWrong : ChangeSpec := { name := "inodesNil", fn := fun _ => fun
  | [d] => { results := [.lit (.bool false)], args := [d] }
  | _ => none }
def InodesNilWrongFalsely : Prop := inodesNilRow.holds Tryz.pinned (OpenSpec.ofChange inodesNilWrong)

/-- 'signetlaw21.CommitNil': WHATEVER THE INPUT: true; the input reads as it did. -/
def commitNilSpec : ChangeSpec := { name := "commitNil", fn := fun _ => fun
  | [d] => { results := [.lit (.bool true)], args := [d] }
  | _ => none }
def commitNilRow : OpenClaim := { program := "ytoehfadjpficiaagreat", sum := "cae2c6a6a2e808c899dc57d01a1091851520143f044d0a7c0e9b324cd4446d9d", func := "signet/signetlaw21.CommitNil", spec := "commitNil", unfollowed := true, recurses := true, plainKeys := false, apart := false }
def CommitNilSaid : Prop := commitNilRow.holds Tryz.pinned (OpenSpec.ofChange commitNilSpec)

/-- ITS FALSE NEIGHBOUR: 'it returns false'. Refute it at one input. -/
def commitNilWrong : ChangeSpec := { name := "commitNil", fn := fun _ => fun
  | [d] => { results := [.lit (.bool false)], args := [d] }
  | _ => none }
def CommitNilWrongFalsely : Prop := commitNilRow.holds Tryz.pinned (OpenSpec.ofChange commitNilWrong)

/- THE SECOND FORM. 'bulk': how many values and letters a reading holds, each counted each time it is reached (what is shared counts as often as it is met; a slice's spare places count too). A statement '..UptoSaid' is the law's where the arguments, and the package variables that the reading takes, are together of bulk at most 1048576: NARROWER than '..Said'. Prove '..Said' where nothing that the law and all that it calls make is longer than what came in: it says more and counts as full. Else prove '..UptoSaid'. A law counts once. -/
mutual
def uptoBulk {H : Type} : DataW H → Nat
  | .lit (.string bytes) => bytes.length + 1
  | .lit _ => 1
  | .nil => 1
  | .ptr d => uptoBulk d + 1
  | .slice elems spare => uptoBulkAll elems + uptoBulkAll spare + 1
  | .agg parts => uptoBulkAll parts + 1
  | .iface _ d => uptoBulk d + 1
  | .map entries => uptoBulkEntries entries + 1
  | .held _ => 1
def uptoBulkAll {H : Type} : List (DataW H) → Nat
  | [] => 0
  | d :: r => uptoBulk d + uptoBulkAll r
def uptoBulkEntries {H : Type} : List (Lit × DataW H) → Nat
  | [] => 0
  | x :: r => uptoBulkEntry x + uptoBulkEntries r
def uptoBulkEntry {H : Type} : Lit × DataW H → Nat
  | (.string bytes, d) => bytes.length + uptoBulk d + 1
  | (_, d) => uptoBulk d + 1
 end
def uptoSmall : (H : Type) → List (DataW H) → Bool := fun _ ds => decide (uptoBulkAll ds ≤ 1048576)
def OpenSpec.upto (s : _root_.Go.ChangeSpec) : _root_.Go.OpenSpec := { _root_.Go.OpenSpec.ofChange s with cond := some uptoSmall }

/-- 'signetlaw15.InodesOpens', WHERE WHAT IT READS IS OF BULK AT MOST 1048576: true; the input reads as it did. -/
def inodesOpensUptoRow : OpenClaim := { program := "ytoehfadjpficiaagreat", sum := "cae2c6a6a2e808c899dc57d01a1091851520143f044d0a7c0e9b324cd4446d9d", func := "signet/signetlaw15.InodesOpens", spec := "inodesOpens", unfollowed := true, recurses := true, plainKeys := false, apart := false, narrowed := true }
def InodesOpensUptoSaid : Prop := inodesOpensUptoRow.holds Tryz.pinned (OpenSpec.upto inodesOpensSpec)

/-- 'signetlaw16.FileErrors', WHERE WHAT IT READS IS OF BULK AT MOST 1048576: true; the input reads as it did. -/
def fileErrorsUptoRow : OpenClaim := { program := "ytoehfadjpficiaagreat", sum := "cae2c6a6a2e808c899dc57d01a1091851520143f044d0a7c0e9b324cd4446d9d", func := "signet/signetlaw16.FileErrors", spec := "fileErrors", inPlace := ["maps.clone"], unfollowed := true, recurses := true, plainKeys := false, apart := false, narrowed := true }
def FileErrorsUptoSaid : Prop := fileErrorsUptoRow.holds Tryz.pinned (OpenSpec.upto fileErrorsSpec)

/-- 'signetlaw10.GrowNil', WHERE WHAT IT READS IS OF BULK AT MOST 1048576: true; the input reads as it did. -/
def growNilUptoRow : OpenClaim := { program := "ytoehfadjpficiaagreat", sum := "cae2c6a6a2e808c899dc57d01a1091851520143f044d0a7c0e9b324cd4446d9d", func := "signet/signetlaw10.GrowNil", spec := "growNil", inPlace := ["maps.clone"], unfollowed := true, recurses := true, plainKeys := false, apart := false, narrowed := true }
def GrowNilUptoSaid : Prop := growNilUptoRow.holds Tryz.pinned (OpenSpec.upto growNilSpec)

/-- 'signetlaw16.FileWrong', WHERE WHAT IT READS IS OF BULK AT MOST 1048576: true; the input reads as it did. -/
def fileWrongUptoRow : OpenClaim := { program := "ytoehfadjpficiaagreat", sum := "cae2c6a6a2e808c899dc57d01a1091851520143f044d0a7c0e9b324cd4446d9d", func := "signet/signetlaw16.FileWrong", spec := "fileWrong", inPlace := ["maps.clone", "internal/bytealg.IndexByteString", "internal/bytealg.IndexString"], unfollowed := true, recurses := true, named := ["internal/bytealg.MaxLen"], plainKeys := false, apart := false, narrowed := true }
def FileWrongUptoSaid : Prop := fileWrongUptoRow.holds Tryz.pinned (OpenSpec.upto fileWrongSpec)

/-- 'signetlaw15.InodesNil', WHERE WHAT IT READS IS OF BULK AT MOST 1048576: true; the input reads as it did. -/
def inodesNilUptoRow : OpenClaim := { program := "ytoehfadjpficiaagreat", sum := "cae2c6a6a2e808c899dc57d01a1091851520143f044d0a7c0e9b324cd4446d9d", func := "signet/signetlaw15.InodesNil", spec := "inodesNil", inPlace := ["maps.clone"], unfollowed := true, recurses := true, plainKeys := false, apart := false, narrowed := true }
def InodesNilUptoSaid : Prop := inodesNilUptoRow.holds Tryz.pinned (OpenSpec.upto inodesNilSpec)

/-- 'signetlaw21.CommitNil', WHERE WHAT IT READS IS OF BULK AT MOST 1048576: true; the input reads as it did. -/
def commitNilUptoRow : OpenClaim := { program := "ytoehfadjpficiaagreat", sum := "cae2c6a6a2e808c899dc57d01a1091851520143f044d0a7c0e9b324cd4446d9d", func := "signet/signetlaw21.CommitNil", spec := "commitNil", unfollowed := true, recurses := true, plainKeys := false, apart := false, narrowed := true }
def CommitNilUptoSaid : Prop := commitNilUptoRow.holds Tryz.pinned (OpenSpec.upto commitNilSpec)

end Rows
end Go.Proofs.YtoehfadjpficiaaGreat
