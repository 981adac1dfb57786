/-
  DERIVED. GIVEN WITH THE SEED: THE CARDS: each row of YtfgmceookgelcaaGreatDoorRows.lean that lists a variable, with what it lists TIED to the program's text (the seventh form; the later family's looks); each row that meets fmt, with fmt's text TOLD by the authors' own Lean function (tested against real Go, not proved from fmt's source: count such statements apart). THE CARD IS WHAT COUNTS. Prove the row's statement (the work); the ties are given (YtfgmceookgelcaaGreatDoorTie.lean); close each card by the builder's one call (the guide's Derived/Test/ToyasCard.lean, 'card_holds'). Laid BY PROGRAM, IN A SANDBOX (cutbox-door.mjs). By AI agents, Wed Nov 11 2026. No macro, syntax, notation, axiom, sorry.
-/
import Derived.Test.YtfgmceookgelcaaGreatDoorRows
import GoSem.ClaimSeven
namespace Go.Proofs.YtfgmceookgelcaaGreatDoor
namespace Rows

/-- THE TIED CARD OF 'litmuslaw31.FactsKnown'. -/
def factsKnownCard : Claim7 := { stood := { row := factsKnownRow, standIns := [], harness := (true, "a9eb42de821d0995a42928888a1efe0576b568b8bd4d29bba43b48b321277c9b"), looks := false }, kinds := [], alts := [], laidByText := true, laidKinds := [.data, .data, .data, .data, .pinned], laidTests := true, laidLooks := .later }
def FactsKnownCardSaid : Prop := Claim7.holds Tryz.pinned (.plain (OpenSpec.ofChange factsKnownSpec)) factsKnownCard

/-- THE SECOND FORM's CARD OF 'litmuslaw31.FactsKnown'. -/
def factsKnownUptoCard : Claim7 := { stood := { row := factsKnownUptoRow, standIns := [], harness := (true, "a9eb42de821d0995a42928888a1efe0576b568b8bd4d29bba43b48b321277c9b"), looks := false }, kinds := [], alts := [], laidByText := true, laidKinds := [.data, .data, .data, .data, .pinned], laidTests := true, laidLooks := .later }
def FactsKnownUptoCardSaid : Prop := Claim7.holds Tryz.pinned (.plain (OpenSpec.upto factsKnownSpec)) factsKnownUptoCard
end Rows
end Go.Proofs.YtfgmceookgelcaaGreatDoor
