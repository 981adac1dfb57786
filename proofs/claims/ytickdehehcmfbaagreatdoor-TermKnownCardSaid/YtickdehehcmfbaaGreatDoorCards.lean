/-
  DERIVED. GIVEN WITH THE SEED: THE CARDS: each row of YtickdehehcmfbaaGreatDoorRows.lean that lists a variable, with what it lists TIED to the program's text (the seventh form; the later family's looks); each row that meets fmt, with fmt's text TOLD by the authors' own Lean function (tested against real Go, not proved from fmt's source: count such statements apart). THE CARD IS WHAT COUNTS. Prove the row's statement (the work); the ties are given (YtickdehehcmfbaaGreatDoorTie.lean); close each card by the builder's one call (the guide's Derived/Test/ToyasCard.lean, 'card_holds'). Laid BY PROGRAM, IN A SANDBOX (cutbox-door.mjs). By AI agents, Wed Nov 11 2026. No macro, syntax, notation, axiom, sorry.
-/
import Derived.Test.YtickdehehcmfbaaGreatDoorRows
import GoSem.ClaimSeven
namespace Go.Proofs.YtickdehehcmfbaaGreatDoor
namespace Rows

/-- THE TIED CARD OF 'litmuslaw14.TermOpens'. -/
def termOpensCard : Claim7 := { stood := { row := termOpensRow, standIns := [], harness := (true, "888e5b8484451aadcfbd8e1c28b131afdce1e1afbf809f1a3e5177baf1a5d265"), looks := false }, kinds := [], alts := [], laidByText := true, laidKinds := [.data, .data, .data, .data, .pinned], laidTests := true, laidLooks := .later }
def TermOpensCardSaid : Prop := Claim7.holds Tryz.pinned (.plain (OpenSpec.ofChange termOpensSpec)) termOpensCard

/-- THE TIED CARD OF 'litmuslaw14.TermOnce'. -/
def termOnceCard : Claim7 := { stood := { row := termOnceRow, standIns := [], harness := (true, "888e5b8484451aadcfbd8e1c28b131afdce1e1afbf809f1a3e5177baf1a5d265"), looks := false }, kinds := [], alts := [], laidByText := true, laidKinds := [.data, .data, .data, .data, .pinned], laidTests := true, laidLooks := .later }
def TermOnceCardSaid : Prop := Claim7.holds Tryz.pinned (.plain (OpenSpec.ofChange termOnceSpec)) termOnceCard

/-- THE TIED CARD OF 'litmuslaw14.TermSubst'. -/
def termSubstCard : Claim7 := { stood := { row := termSubstRow, standIns := [], harness := (true, "888e5b8484451aadcfbd8e1c28b131afdce1e1afbf809f1a3e5177baf1a5d265"), looks := false }, kinds := [], alts := [], laidByText := true, laidKinds := [.data, .data, .data, .data, .pinned], laidTests := true, laidLooks := .later }
def TermSubstCardSaid : Prop := Claim7.holds Tryz.pinned (.plain (OpenSpec.ofChange termSubstSpec)) termSubstCard

/-- THE TIED CARD OF 'litmuslaw14.TermKnown'. -/
def termKnownCard : Claim7 := { stood := { row := termKnownRow, standIns := [], harness := (true, "888e5b8484451aadcfbd8e1c28b131afdce1e1afbf809f1a3e5177baf1a5d265"), looks := false }, kinds := [], alts := [], laidByText := true, laidKinds := [.data, .data, .data, .data, .pinned], laidTests := true, laidLooks := .later }
def TermKnownCardSaid : Prop := Claim7.holds Tryz.pinned (.plain (OpenSpec.ofChange termKnownSpec)) termKnownCard

/-- THE SECOND FORM's CARD OF 'litmuslaw14.TermOpens'. -/
def termOpensUptoCard : Claim7 := { stood := { row := termOpensUptoRow, standIns := [], harness := (true, "888e5b8484451aadcfbd8e1c28b131afdce1e1afbf809f1a3e5177baf1a5d265"), looks := false }, kinds := [], alts := [], laidByText := true, laidKinds := [.data, .data, .data, .data, .pinned], laidTests := true, laidLooks := .later }
def TermOpensUptoCardSaid : Prop := Claim7.holds Tryz.pinned (.plain (OpenSpec.upto termOpensSpec)) termOpensUptoCard

/-- THE SECOND FORM's CARD OF 'litmuslaw14.TermOnce'. -/
def termOnceUptoCard : Claim7 := { stood := { row := termOnceUptoRow, standIns := [], harness := (true, "888e5b8484451aadcfbd8e1c28b131afdce1e1afbf809f1a3e5177baf1a5d265"), looks := false }, kinds := [], alts := [], laidByText := true, laidKinds := [.data, .data, .data, .data, .pinned], laidTests := true, laidLooks := .later }
def TermOnceUptoCardSaid : Prop := Claim7.holds Tryz.pinned (.plain (OpenSpec.upto termOnceSpec)) termOnceUptoCard

/-- THE SECOND FORM's CARD OF 'litmuslaw14.TermSubst'. -/
def termSubstUptoCard : Claim7 := { stood := { row := termSubstUptoRow, standIns := [], harness := (true, "888e5b8484451aadcfbd8e1c28b131afdce1e1afbf809f1a3e5177baf1a5d265"), looks := false }, kinds := [], alts := [], laidByText := true, laidKinds := [.data, .data, .data, .data, .pinned], laidTests := true, laidLooks := .later }
def TermSubstUptoCardSaid : Prop := Claim7.holds Tryz.pinned (.plain (OpenSpec.upto termSubstSpec)) termSubstUptoCard

/-- THE SECOND FORM's CARD OF 'litmuslaw14.TermKnown'. -/
def termKnownUptoCard : Claim7 := { stood := { row := termKnownUptoRow, standIns := [], harness := (true, "888e5b8484451aadcfbd8e1c28b131afdce1e1afbf809f1a3e5177baf1a5d265"), looks := false }, kinds := [], alts := [], laidByText := true, laidKinds := [.data, .data, .data, .data, .pinned], laidTests := true, laidLooks := .later }
def TermKnownUptoCardSaid : Prop := Claim7.holds Tryz.pinned (.plain (OpenSpec.upto termKnownSpec)) termKnownUptoCard
end Rows
end Go.Proofs.YtickdehehcmfbaaGreatDoor
