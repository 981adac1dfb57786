/-
  DERIVED. GIVEN WITH THE SEED: THE CARDS: each row of YtoaaclpjkelofaaGreatDoorRows.lean that lists a variable, with what it lists TIED to the program's text (the seventh form; the later family's looks); each row that meets fmt, with fmt's text TOLD by the authors' own Lean function (tested against real Go, not proved from fmt's source: count such statements apart). THE CARD IS WHAT COUNTS. Prove the row's statement (the work); the ties are given (YtoaaclpjkelofaaGreatDoorTie.lean); close each card by the builder's one call (the guide's Derived/Test/ToyasCard.lean, 'card_holds'). Laid BY PROGRAM, IN A SANDBOX (cutbox-door.mjs). By AI agents, Wed Nov 11 2026. No macro, syntax, notation, axiom, sorry.
-/
import Derived.Test.YtoaaclpjkelofaaGreatDoorRows
import GoSem.ClaimSeven
namespace Go.Proofs.YtoaaclpjkelofaaGreatDoor
namespace Rows

/-- THE TIED CARD OF 'litmuslaw25.DictReads'. -/
def dictReadsCard : Claim7 := { stood := { row := dictReadsRow, standIns := [], harness := (true, "d5f392c5f57f44092493fc1161768fdd7dd8b2ca0cfc8b54dd99c32a530a3680"), looks := false }, kinds := [], alts := [], laidByText := true, laidKinds := [.data, .data, .data, .data, .pinned], laidTests := true, laidLooks := .later }
def DictReadsCardSaid : Prop := Claim7.holds Tryz.pinned (.plain (OpenSpec.ofChange dictReadsSpec)) dictReadsCard

/-- THE TIED CARD OF 'litmuslaw25.DictKnown'. -/
def dictKnownCard : Claim7 := { stood := { row := dictKnownRow, standIns := [], harness := (true, "d5f392c5f57f44092493fc1161768fdd7dd8b2ca0cfc8b54dd99c32a530a3680"), looks := false }, kinds := [], alts := [], laidByText := true, laidKinds := [.data, .data, .data, .data, .pinned], laidTests := true, laidLooks := .later }
def DictKnownCardSaid : Prop := Claim7.holds Tryz.pinned (.plain (OpenSpec.ofChange dictKnownSpec)) dictKnownCard

/-- THE SECOND FORM's CARD OF 'litmuslaw25.DictReads'. -/
def dictReadsUptoCard : Claim7 := { stood := { row := dictReadsUptoRow, standIns := [], harness := (true, "d5f392c5f57f44092493fc1161768fdd7dd8b2ca0cfc8b54dd99c32a530a3680"), looks := false }, kinds := [], alts := [], laidByText := true, laidKinds := [.data, .data, .data, .data, .pinned], laidTests := true, laidLooks := .later }
def DictReadsUptoCardSaid : Prop := Claim7.holds Tryz.pinned (.plain (OpenSpec.upto dictReadsSpec)) dictReadsUptoCard

/-- THE SECOND FORM's CARD OF 'litmuslaw25.DictKnown'. -/
def dictKnownUptoCard : Claim7 := { stood := { row := dictKnownUptoRow, standIns := [], harness := (true, "d5f392c5f57f44092493fc1161768fdd7dd8b2ca0cfc8b54dd99c32a530a3680"), looks := false }, kinds := [], alts := [], laidByText := true, laidKinds := [.data, .data, .data, .data, .pinned], laidTests := true, laidLooks := .later }
def DictKnownUptoCardSaid : Prop := Claim7.holds Tryz.pinned (.plain (OpenSpec.upto dictKnownSpec)) dictKnownUptoCard
end Rows
end Go.Proofs.YtoaaclpjkelofaaGreatDoor
