/-
  DERIVED. GIVEN WITH THE SEED: THE CARDS: each row of YtniabnfoflogaaaGreatDoorRows.lean that lists a variable, with what it lists TIED to the program's text (the seventh form; the later family's looks); each row that meets fmt, with fmt's text TOLD by the authors' own Lean function (tested against real Go, not proved from fmt's source: count such statements apart). THE CARD IS WHAT COUNTS. Prove the row's statement (the work); the ties are given (YtniabnfoflogaaaGreatDoorTie.lean); close each card by the builder's one call (the guide's Derived/Test/ToyasCard.lean, 'card_holds'). Laid BY PROGRAM, IN A SANDBOX (cutbox-door.mjs). By AI agents, Wed Nov 11 2026. No macro, syntax, notation, axiom, sorry.
-/
import Derived.Test.YtniabnfoflogaaaGreatDoorRows
import GoSem.ClaimSeven
namespace Go.Proofs.YtniabnfoflogaaaGreatDoor
namespace Rows

/-- THE TIED CARD OF 'litmuslaw18.ClauseHolds'. -/
def clauseHoldsCard : Claim7 := { stood := { row := clauseHoldsRow, standIns := [], harness := (true, "c2e00489b9a0fc78c28857a40522ce2dd78ffac23fdf421a62b41f9393931ebe"), looks := false }, kinds := [], alts := [], laidByText := true, laidKinds := [.data, .data, .data, .data, .pinned], laidTests := true, laidLooks := .later }
def ClauseHoldsCardSaid : Prop := Claim7.holds Tryz.pinned (.plain (OpenSpec.ofChange clauseHoldsSpec)) clauseHoldsCard

/-- THE TIED CARD OF 'litmuslaw18.ClauseKnown'. -/
def clauseKnownCard : Claim7 := { stood := { row := clauseKnownRow, standIns := [], harness := (true, "c2e00489b9a0fc78c28857a40522ce2dd78ffac23fdf421a62b41f9393931ebe"), looks := false }, kinds := [], alts := [], laidByText := true, laidKinds := [.data, .data, .data, .data, .pinned], laidTests := true, laidLooks := .later }
def ClauseKnownCardSaid : Prop := Claim7.holds Tryz.pinned (.plain (OpenSpec.ofChange clauseKnownSpec)) clauseKnownCard

/-- THE SECOND FORM's CARD OF 'litmuslaw18.ClauseHolds'. -/
def clauseHoldsUptoCard : Claim7 := { stood := { row := clauseHoldsUptoRow, standIns := [], harness := (true, "c2e00489b9a0fc78c28857a40522ce2dd78ffac23fdf421a62b41f9393931ebe"), looks := false }, kinds := [], alts := [], laidByText := true, laidKinds := [.data, .data, .data, .data, .pinned], laidTests := true, laidLooks := .later }
def ClauseHoldsUptoCardSaid : Prop := Claim7.holds Tryz.pinned (.plain (OpenSpec.upto clauseHoldsSpec)) clauseHoldsUptoCard

/-- THE SECOND FORM's CARD OF 'litmuslaw18.ClauseKnown'. -/
def clauseKnownUptoCard : Claim7 := { stood := { row := clauseKnownUptoRow, standIns := [], harness := (true, "c2e00489b9a0fc78c28857a40522ce2dd78ffac23fdf421a62b41f9393931ebe"), looks := false }, kinds := [], alts := [], laidByText := true, laidKinds := [.data, .data, .data, .data, .pinned], laidTests := true, laidLooks := .later }
def ClauseKnownUptoCardSaid : Prop := Claim7.holds Tryz.pinned (.plain (OpenSpec.upto clauseKnownSpec)) clauseKnownUptoCard
end Rows
end Go.Proofs.YtniabnfoflogaaaGreatDoor
