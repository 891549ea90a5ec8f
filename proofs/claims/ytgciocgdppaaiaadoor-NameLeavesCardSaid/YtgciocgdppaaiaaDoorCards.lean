/-
  DERIVED. GIVEN WITH THE SEED: THE CARDS: each row of YtgciocgdppaaiaaDoorRows.lean that lists a variable, with what it lists TIED to the program's text (the seventh form; the later family's looks); each row that meets fmt, with fmt's text TOLD by the authors' own Lean function (tested against real Go, not proved from fmt's source: count such statements apart). THE CARD IS WHAT COUNTS. Prove the row's statement (the work); the ties are given (YtgciocgdppaaiaaDoorTie.lean); close each card by the builder's one call (the guide's Derived/Test/ToyasCard.lean, 'card_holds'). Laid BY PROGRAM, IN A SANDBOX (cutbox-door.mjs). By AI agents, Wed Nov 11 2026. No macro, syntax, notation, axiom, sorry.
-/
import Derived.Test.YtgciocgdppaaiaaDoorRows
import GoSem.ClaimSeven
namespace Go.Proofs.YtgciocgdppaaiaaDoor
namespace Rows

/-- THE TIED CARD OF 'signetlaw13.NameDigits'. -/
def nameDigitsCard : Claim7 := { stood := { row := nameDigitsRow, standIns := [], harness := (true, "7bd48f079b5d5025a9152a69272c0dd20f2bef277878d7fa23b50856a81757dc"), looks := false }, kinds := [], alts := [], laidByText := true, laidKinds := [.data, .pinned], laidTests := true, laidLooks := .later }
def NameDigitsCardSaid : Prop := Claim7.holds Tryd.pinned (.plain (OpenSpec.ofChange nameDigitsSpec)) nameDigitsCard

/-- THE TIED CARD OF 'signetlaw13.NameMatches'. -/
def nameMatchesCard : Claim7 := { stood := { row := nameMatchesRow, standIns := [], harness := (true, "7bd48f079b5d5025a9152a69272c0dd20f2bef277878d7fa23b50856a81757dc"), looks := false }, kinds := [], alts := [], laidByText := true, laidKinds := [.data, .pinned], laidTests := true, laidLooks := .later }
def NameMatchesCardSaid : Prop := Claim7.holds Tryd.pinned (.plain (OpenSpec.ofChange nameMatchesSpec)) nameMatchesCard

/-- THE TIED CARD OF 'signetlaw13.NameEntries'. -/
def nameEntriesCard : Claim7 := { stood := { row := nameEntriesRow, standIns := [], harness := (true, "7bd48f079b5d5025a9152a69272c0dd20f2bef277878d7fa23b50856a81757dc"), looks := false }, kinds := [], alts := [], laidByText := true, laidKinds := [.data, .pinned], laidTests := true, laidLooks := .later }
def NameEntriesCardSaid : Prop := Claim7.holds Tryd.pinned (.plain (OpenSpec.ofChange nameEntriesSpec)) nameEntriesCard

/-- THE TIED CARD OF 'signetlaw13.NameLeaves'. -/
def nameLeavesCard : Claim7 := { stood := { row := nameLeavesRow, standIns := [], harness := (true, "7bd48f079b5d5025a9152a69272c0dd20f2bef277878d7fa23b50856a81757dc"), looks := false }, kinds := [], alts := [], laidByText := true, laidKinds := [.data, .pinned], laidTests := true, laidLooks := .later }
def NameLeavesCardSaid : Prop := Claim7.holds Tryd.pinned (.plain (OpenSpec.ofChange nameLeavesSpec)) nameLeavesCard

/-- THE SECOND FORM's CARD OF 'signetlaw13.NameDigits'. -/
def nameDigitsUptoCard : Claim7 := { stood := { row := nameDigitsUptoRow, standIns := [], harness := (true, "7bd48f079b5d5025a9152a69272c0dd20f2bef277878d7fa23b50856a81757dc"), looks := false }, kinds := [], alts := [], laidByText := true, laidKinds := [.data, .pinned], laidTests := true, laidLooks := .later }
def NameDigitsUptoCardSaid : Prop := Claim7.holds Tryd.pinned (.plain (OpenSpec.upto nameDigitsSpec)) nameDigitsUptoCard

/-- THE SECOND FORM's CARD OF 'signetlaw13.NameMatches'. -/
def nameMatchesUptoCard : Claim7 := { stood := { row := nameMatchesUptoRow, standIns := [], harness := (true, "7bd48f079b5d5025a9152a69272c0dd20f2bef277878d7fa23b50856a81757dc"), looks := false }, kinds := [], alts := [], laidByText := true, laidKinds := [.data, .pinned], laidTests := true, laidLooks := .later }
def NameMatchesUptoCardSaid : Prop := Claim7.holds Tryd.pinned (.plain (OpenSpec.upto nameMatchesSpec)) nameMatchesUptoCard

/-- THE SECOND FORM's CARD OF 'signetlaw13.NameEntries'. -/
def nameEntriesUptoCard : Claim7 := { stood := { row := nameEntriesUptoRow, standIns := [], harness := (true, "7bd48f079b5d5025a9152a69272c0dd20f2bef277878d7fa23b50856a81757dc"), looks := false }, kinds := [], alts := [], laidByText := true, laidKinds := [.data, .pinned], laidTests := true, laidLooks := .later }
def NameEntriesUptoCardSaid : Prop := Claim7.holds Tryd.pinned (.plain (OpenSpec.upto nameEntriesSpec)) nameEntriesUptoCard

/-- THE SECOND FORM's CARD OF 'signetlaw13.NameLeaves'. -/
def nameLeavesUptoCard : Claim7 := { stood := { row := nameLeavesUptoRow, standIns := [], harness := (true, "7bd48f079b5d5025a9152a69272c0dd20f2bef277878d7fa23b50856a81757dc"), looks := false }, kinds := [], alts := [], laidByText := true, laidKinds := [.data, .pinned], laidTests := true, laidLooks := .later }
def NameLeavesUptoCardSaid : Prop := Claim7.holds Tryd.pinned (.plain (OpenSpec.upto nameLeavesSpec)) nameLeavesUptoCard
end Rows
end Go.Proofs.YtgciocgdppaaiaaDoor
