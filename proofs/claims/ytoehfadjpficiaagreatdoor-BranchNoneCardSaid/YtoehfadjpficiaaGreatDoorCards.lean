/-
  DERIVED. GIVEN WITH THE SEED: THE CARDS: each row of YtoehfadjpficiaaGreatDoorRows.lean that lists a variable, with what it lists TIED to the program's text (the seventh form; the later family's looks); each row that meets fmt, with fmt's text TOLD by the authors' own Lean function (tested against real Go, not proved from fmt's source: count such statements apart). THE CARD IS WHAT COUNTS. Prove the row's statement (the work); the ties are given (YtoehfadjpficiaaGreatDoorTie.lean); close each card by the builder's one call (the guide's Derived/Test/ToyasCard.lean, 'card_holds'). Laid BY PROGRAM, IN A SANDBOX (cutbox-door.mjs). By AI agents, Wed Nov 11 2026. No macro, syntax, notation, axiom, sorry.
-/
import Derived.Test.YtoehfadjpficiaaGreatDoorRows
import GoSem.ClaimSeven
namespace Go.Proofs.YtoehfadjpficiaaGreatDoor
namespace Rows

/-- THE TIED CARD OF 'signetlaw17.DirNil'. -/
def dirNilCard : Claim7 := { stood := { row := dirNilRow, standIns := [], harness := (true, "e4b9ce14efe4a387d08d7b8453a161131b37a587a2cb9de022290c91abf72677"), looks := true }, kinds := [], alts := [], laidByText := true, laidKinds := [.data, .pinned], laidTests := true, laidLooks := .later }
def DirNilCardSaid : Prop := Claim7.holds Tryz.pinned (.plain (OpenSpec.ofChange dirNilSpec)) dirNilCard

/-- THE TIED CARD OF 'signetlaw22.BranchNil'. -/
def branchNilCard : Claim7 := { stood := { row := branchNilRow, standIns := [], harness := (true, "e4b9ce14efe4a387d08d7b8453a161131b37a587a2cb9de022290c91abf72677"), looks := true }, kinds := [], alts := [], laidByText := true, laidKinds := [.data, .pinned], laidTests := true, laidLooks := .later }
def BranchNilCardSaid : Prop := Claim7.holds Tryz.pinned (.plain (OpenSpec.ofChange branchNilSpec)) branchNilCard

/-- THE TIED CARD OF 'signetlaw22.BranchNone'. -/
def branchNoneCard : Claim7 := { stood := { row := branchNoneRow, standIns := [], harness := (true, "e4b9ce14efe4a387d08d7b8453a161131b37a587a2cb9de022290c91abf72677"), looks := true }, kinds := [], alts := [], laidByText := true, laidKinds := [.data, .pinned], laidTests := true, laidLooks := .later }
def BranchNoneCardSaid : Prop := Claim7.holds Tryz.pinned (.plain (OpenSpec.ofChange branchNoneSpec)) branchNoneCard

/-- THE SECOND FORM's CARD OF 'signetlaw17.DirNil'. -/
def dirNilUptoCard : Claim7 := { stood := { row := dirNilUptoRow, standIns := [], harness := (true, "e4b9ce14efe4a387d08d7b8453a161131b37a587a2cb9de022290c91abf72677"), looks := true }, kinds := [], alts := [], laidByText := true, laidKinds := [.data, .pinned], laidTests := true, laidLooks := .later }
def DirNilUptoCardSaid : Prop := Claim7.holds Tryz.pinned (.plain (OpenSpec.upto dirNilSpec)) dirNilUptoCard

/-- THE SECOND FORM's CARD OF 'signetlaw22.BranchNil'. -/
def branchNilUptoCard : Claim7 := { stood := { row := branchNilUptoRow, standIns := [], harness := (true, "e4b9ce14efe4a387d08d7b8453a161131b37a587a2cb9de022290c91abf72677"), looks := true }, kinds := [], alts := [], laidByText := true, laidKinds := [.data, .pinned], laidTests := true, laidLooks := .later }
def BranchNilUptoCardSaid : Prop := Claim7.holds Tryz.pinned (.plain (OpenSpec.upto branchNilSpec)) branchNilUptoCard

/-- THE SECOND FORM's CARD OF 'signetlaw22.BranchNone'. -/
def branchNoneUptoCard : Claim7 := { stood := { row := branchNoneUptoRow, standIns := [], harness := (true, "e4b9ce14efe4a387d08d7b8453a161131b37a587a2cb9de022290c91abf72677"), looks := true }, kinds := [], alts := [], laidByText := true, laidKinds := [.data, .pinned], laidTests := true, laidLooks := .later }
def BranchNoneUptoCardSaid : Prop := Claim7.holds Tryz.pinned (.plain (OpenSpec.upto branchNoneSpec)) branchNoneUptoCard
end Rows
end Go.Proofs.YtoehfadjpficiaaGreatDoor
