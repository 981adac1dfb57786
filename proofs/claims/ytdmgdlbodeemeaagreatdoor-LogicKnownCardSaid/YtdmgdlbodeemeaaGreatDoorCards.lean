/-
  DERIVED. GIVEN WITH THE SEED: THE CARDS: each row of YtdmgdlbodeemeaaGreatDoorRows.lean that lists a variable, with what it lists TIED to the program's text (the seventh form; the later family's looks); each row that meets fmt, with fmt's text TOLD by the authors' own Lean function (tested against real Go, not proved from fmt's source: count such statements apart). THE CARD IS WHAT COUNTS. Prove the row's statement (the work); the ties are given (YtdmgdlbodeemeaaGreatDoorTie.lean); close each card by the builder's one call (the guide's Derived/Test/ToyasCard.lean, 'card_holds'). Laid BY PROGRAM, IN A SANDBOX (cutbox-door.mjs). By AI agents, Wed Nov 11 2026. No macro, syntax, notation, axiom, sorry.
-/
import Derived.Test.YtdmgdlbodeemeaaGreatDoorRows
import GoSem.ClaimSeven
namespace Go.Proofs.YtdmgdlbodeemeaaGreatDoor
namespace Rows

/-- THE TIED CARD OF 'litmuslaw15.LogicSimple'. -/
def logicSimpleCard : Claim7 := { stood := { row := logicSimpleRow, standIns := [], harness := (true, "75b634578772461a552d85295f518b310e57166076a1d292916aa29d79743ded"), looks := false }, kinds := [], alts := [], laidByText := true, laidKinds := [.data, .data, .data, .data, .pinned], laidTests := true, laidLooks := .later }
def LogicSimpleCardSaid : Prop := Claim7.holds Tryz.pinned (.plain (OpenSpec.ofChange logicSimpleSpec)) logicSimpleCard

/-- THE TIED CARD OF 'litmuslaw15.LogicKnown'. -/
def logicKnownCard : Claim7 := { stood := { row := logicKnownRow, standIns := [], harness := (true, "75b634578772461a552d85295f518b310e57166076a1d292916aa29d79743ded"), looks := false }, kinds := [], alts := [], laidByText := true, laidKinds := [.data, .data, .data, .data, .pinned], laidTests := true, laidLooks := .later }
def LogicKnownCardSaid : Prop := Claim7.holds Tryz.pinned (.plain (OpenSpec.ofChange logicKnownSpec)) logicKnownCard

/-- THE SECOND FORM's CARD OF 'litmuslaw15.LogicSimple'. -/
def logicSimpleUptoCard : Claim7 := { stood := { row := logicSimpleUptoRow, standIns := [], harness := (true, "75b634578772461a552d85295f518b310e57166076a1d292916aa29d79743ded"), looks := false }, kinds := [], alts := [], laidByText := true, laidKinds := [.data, .data, .data, .data, .pinned], laidTests := true, laidLooks := .later }
def LogicSimpleUptoCardSaid : Prop := Claim7.holds Tryz.pinned (.plain (OpenSpec.upto logicSimpleSpec)) logicSimpleUptoCard

/-- THE SECOND FORM's CARD OF 'litmuslaw15.LogicKnown'. -/
def logicKnownUptoCard : Claim7 := { stood := { row := logicKnownUptoRow, standIns := [], harness := (true, "75b634578772461a552d85295f518b310e57166076a1d292916aa29d79743ded"), looks := false }, kinds := [], alts := [], laidByText := true, laidKinds := [.data, .data, .data, .data, .pinned], laidTests := true, laidLooks := .later }
def LogicKnownUptoCardSaid : Prop := Claim7.holds Tryz.pinned (.plain (OpenSpec.upto logicKnownSpec)) logicKnownUptoCard
end Rows
end Go.Proofs.YtdmgdlbodeemeaaGreatDoor
