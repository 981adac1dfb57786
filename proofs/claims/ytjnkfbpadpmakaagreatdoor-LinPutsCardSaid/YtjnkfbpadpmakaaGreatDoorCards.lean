/-
  DERIVED. GIVEN WITH THE SEED: THE CARDS: each row of YtjnkfbpadpmakaaGreatDoorRows.lean that lists a variable, with what it lists TIED to the program's text (the seventh form; the later family's looks); each row that meets fmt, with fmt's text TOLD by the authors' own Lean function (tested against real Go, not proved from fmt's source: count such statements apart). THE CARD IS WHAT COUNTS. Prove the row's statement (the work); the ties are given (YtjnkfbpadpmakaaGreatDoorTie.lean); close each card by the builder's one call (the guide's Derived/Test/ToyasCard.lean, 'card_holds'). Laid BY PROGRAM, IN A SANDBOX (cutbox-door.mjs). By AI agents, Wed Nov 11 2026. No macro, syntax, notation, axiom, sorry.
-/
import Derived.Test.YtjnkfbpadpmakaaGreatDoorRows
import GoSem.ClaimSeven
namespace Go.Proofs.YtjnkfbpadpmakaaGreatDoor
namespace Rows

/-- THE TIED CARD OF 'litmuslaw04.LinPuts'. -/
def linPutsCard : Claim7 := { stood := { row := linPutsRow, standIns := [], harness := (true, "2f5674697d3f268890ac0cbca6b784c87b3e763319dcab65221adff63a119694"), looks := false }, kinds := [], alts := [], laidByText := true, laidKinds := [.data, .data, .data, .data, .pinned], laidTests := true, laidLooks := .later }
def LinPutsCardSaid : Prop := Claim7.holds Tryz.pinned (.plain (OpenSpec.ofChange linPutsSpec)) linPutsCard

/-- THE TIED CARD OF 'litmuslaw04.LinWholes'. -/
def linWholesCard : Claim7 := { stood := { row := linWholesRow, standIns := [], harness := (true, "2f5674697d3f268890ac0cbca6b784c87b3e763319dcab65221adff63a119694"), looks := false }, kinds := [], alts := [], laidByText := true, laidKinds := [.data, .data, .data, .data, .pinned], laidTests := true, laidLooks := .later }
def LinWholesCardSaid : Prop := Claim7.holds Tryz.pinned (.plain (OpenSpec.ofChange linWholesSpec)) linWholesCard

/-- THE TIED CARD OF 'litmuslaw04.LinShares'. -/
def linSharesCard : Claim7 := { stood := { row := linSharesRow, standIns := [], harness := (true, "2f5674697d3f268890ac0cbca6b784c87b3e763319dcab65221adff63a119694"), looks := false }, kinds := [], alts := [], laidByText := true, laidKinds := [.data, .data, .data, .data, .pinned], laidTests := true, laidLooks := .later }
def LinSharesCardSaid : Prop := Claim7.holds Tryz.pinned (.plain (OpenSpec.ofChange linSharesSpec)) linSharesCard

/-- THE TIED CARD OF 'litmuslaw04.LinPlaces'. -/
def linPlacesCard : Claim7 := { stood := { row := linPlacesRow, standIns := [], harness := (true, "2f5674697d3f268890ac0cbca6b784c87b3e763319dcab65221adff63a119694"), looks := false }, kinds := [], alts := [], laidByText := true, laidKinds := [.data, .data, .data, .data, .pinned], laidTests := true, laidLooks := .later }
def LinPlacesCardSaid : Prop := Claim7.holds Tryz.pinned (.plain (OpenSpec.ofChange linPlacesSpec)) linPlacesCard

/-- THE SECOND FORM's CARD OF 'litmuslaw04.LinPuts'. -/
def linPutsUptoCard : Claim7 := { stood := { row := linPutsUptoRow, standIns := [], harness := (true, "2f5674697d3f268890ac0cbca6b784c87b3e763319dcab65221adff63a119694"), looks := false }, kinds := [], alts := [], laidByText := true, laidKinds := [.data, .data, .data, .data, .pinned], laidTests := true, laidLooks := .later }
def LinPutsUptoCardSaid : Prop := Claim7.holds Tryz.pinned (.plain (OpenSpec.upto linPutsSpec)) linPutsUptoCard

/-- THE SECOND FORM's CARD OF 'litmuslaw04.LinWholes'. -/
def linWholesUptoCard : Claim7 := { stood := { row := linWholesUptoRow, standIns := [], harness := (true, "2f5674697d3f268890ac0cbca6b784c87b3e763319dcab65221adff63a119694"), looks := false }, kinds := [], alts := [], laidByText := true, laidKinds := [.data, .data, .data, .data, .pinned], laidTests := true, laidLooks := .later }
def LinWholesUptoCardSaid : Prop := Claim7.holds Tryz.pinned (.plain (OpenSpec.upto linWholesSpec)) linWholesUptoCard

/-- THE SECOND FORM's CARD OF 'litmuslaw04.LinShares'. -/
def linSharesUptoCard : Claim7 := { stood := { row := linSharesUptoRow, standIns := [], harness := (true, "2f5674697d3f268890ac0cbca6b784c87b3e763319dcab65221adff63a119694"), looks := false }, kinds := [], alts := [], laidByText := true, laidKinds := [.data, .data, .data, .data, .pinned], laidTests := true, laidLooks := .later }
def LinSharesUptoCardSaid : Prop := Claim7.holds Tryz.pinned (.plain (OpenSpec.upto linSharesSpec)) linSharesUptoCard

/-- THE SECOND FORM's CARD OF 'litmuslaw04.LinPlaces'. -/
def linPlacesUptoCard : Claim7 := { stood := { row := linPlacesUptoRow, standIns := [], harness := (true, "2f5674697d3f268890ac0cbca6b784c87b3e763319dcab65221adff63a119694"), looks := false }, kinds := [], alts := [], laidByText := true, laidKinds := [.data, .data, .data, .data, .pinned], laidTests := true, laidLooks := .later }
def LinPlacesUptoCardSaid : Prop := Claim7.holds Tryz.pinned (.plain (OpenSpec.upto linPlacesSpec)) linPlacesUptoCard
end Rows
end Go.Proofs.YtjnkfbpadpmakaaGreatDoor
