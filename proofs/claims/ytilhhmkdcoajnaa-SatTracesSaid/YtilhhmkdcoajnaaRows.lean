/-
  No cell of these rows narrows 'for every input' (looked for: loops, veiled, ifaces, maps, wideKeys, modest, calm, conditions, laid).
  DERIVED. THE GIVEN ROWS OF THIS SEAT. 14 by the template 'for every input the law returns true; each argument reads behind the call as it read before'; 0 by the template 'total and deterministic' (their statements: YtilhhmkdcoajnaaTotals.lean).
  GIVEN WITH THE SEED: the statements are not yours to turn. If you find one false, say at which input.
  Laid BY PROGRAM, IN A SANDBOX (cutbox-rows.mjs): the forced cells as the released guide's own fill.sh prints them over the translation 426d948fd751a7db… (all of the seat's roots in one cut). By AI agents, Wed Nov 11 2026. No macro, syntax, notation, axiom, sorry.
-/
import Derived.Test.YtilhhmkdcoajnaaChecked
import GoSem.Claim
import GoSem.ClaimJoined
import GoSem.ClaimMapViews
import Derived.JoinedTies
import Derived.KernelRfl
namespace Go.Proofs.Ytilhhmkdcoajnaa
/- THE CELL 'sum', in the pinned program and in every row, IS THE sha256 OF THE DUMP (.gsa) THAT YtilhhmkdcoajnaaProg.lean LOADS. Nothing in Lean hashes anything: it is a label: what it is worth is what the hold of that sum in a sandbox is worth. -/
noncomputable def Try.pinned : Pinned := { name := "ytilhhmkdcoajnaa", sum := "426d948fd751a7dbc4c342c9e379a10d41a71320134be208475845abc34c230f", checked := Try.checked }
namespace Rows
def none {H : Type} : Left H := { results := [], args := [] }

/-- 'litmuslaw20.DrupKnown': WHATEVER THE INPUT: true; the input reads as it did. -/
def drupKnownSpec : ChangeSpec := { name := "drupKnown", fn := fun _ => fun
  | [] => { results := [.lit (.bool true)], args := [] }
  | _ => none }
def drupKnownRow : OpenClaim := { program := "ytilhhmkdcoajnaa", sum := "426d948fd751a7dbc4c342c9e379a10d41a71320134be208475845abc34c230f", func := "litmus/litmuslaw20.DrupKnown", spec := "drupKnown", unfollowed := true, recurses := true, apart := false }
def DrupKnownSaid : Prop := drupKnownRow.holds Try.pinned (OpenSpec.ofChange drupKnownSpec)

/-- ITS FALSE NEIGHBOUR: 'it returns false'. Refute it at one input. -/
def drupKnownWrong : ChangeSpec := { name := "drupKnown", fn := fun _ => fun
  | [] => { results := [.lit (.bool false)], args := [] }
  | _ => none }
def DrupKnownWrongFalsely : Prop := drupKnownRow.holds Try.pinned (OpenSpec.ofChange drupKnownWrong)

/-- 'litmuslaw20.DrupTells': WHATEVER THE INPUT: true; the input reads as it did. -/
def drupTellsSpec : ChangeSpec := { name := "drupTells", fn := fun _ => fun
  | [d1, d2, d3] => { results := [.lit (.bool true)], args := [d1, d2, d3] }
  | _ => none }
def drupTellsRow : OpenClaim := { program := "ytilhhmkdcoajnaa", sum := "426d948fd751a7dbc4c342c9e379a10d41a71320134be208475845abc34c230f", func := "litmus/litmuslaw20.DrupTells", spec := "drupTells", unfollowed := true, recurses := true, apart := false }
def DrupTellsSaid : Prop := drupTellsRow.holds Try.pinned (OpenSpec.ofChange drupTellsSpec)

/-- ITS FALSE NEIGHBOUR: 'it returns false'. Refute it at one input. -/
def drupTellsWrong : ChangeSpec := { name := "drupTells", fn := fun _ => fun
  | [d1, d2, d3] => { results := [.lit (.bool false)], args := [d1, d2, d3] }
  | _ => none }
def DrupTellsWrongFalsely : Prop := drupTellsRow.holds Try.pinned (OpenSpec.ofChange drupTellsWrong)

/-- 'litmuslaw20.DrupSound': WHATEVER THE INPUT: true; the input reads as it did. -/
def drupSoundSpec : ChangeSpec := { name := "drupSound", fn := fun _ => fun
  | [d1, d2] => { results := [.lit (.bool true)], args := [d1, d2] }
  | _ => none }
def drupSoundRow : OpenClaim := { program := "ytilhhmkdcoajnaa", sum := "426d948fd751a7dbc4c342c9e379a10d41a71320134be208475845abc34c230f", func := "litmus/litmuslaw20.DrupSound", spec := "drupSound", unfollowed := true, recurses := true, apart := false }
def DrupSoundSaid : Prop := drupSoundRow.holds Try.pinned (OpenSpec.ofChange drupSoundSpec)

/-- ITS FALSE NEIGHBOUR: 'it returns false'. Refute it at one input. -/
def drupSoundWrong : ChangeSpec := { name := "drupSound", fn := fun _ => fun
  | [d1, d2] => { results := [.lit (.bool false)], args := [d1, d2] }
  | _ => none }
def DrupSoundWrongFalsely : Prop := drupSoundRow.holds Try.pinned (OpenSpec.ofChange drupSoundWrong)

/-- 'litmuslaw20.DrupShares': WHATEVER THE INPUT: true; the input reads as it did. -/
def drupSharesSpec : ChangeSpec := { name := "drupShares", fn := fun _ => fun
  | [d1, d2] => { results := [.lit (.bool true)], args := [d1, d2] }
  | _ => none }
def drupSharesRow : OpenClaim := { program := "ytilhhmkdcoajnaa", sum := "426d948fd751a7dbc4c342c9e379a10d41a71320134be208475845abc34c230f", func := "litmus/litmuslaw20.DrupShares", spec := "drupShares", unfollowed := true, recurses := true, apart := false }
def DrupSharesSaid : Prop := drupSharesRow.holds Try.pinned (OpenSpec.ofChange drupSharesSpec)

/-- ITS FALSE NEIGHBOUR: 'it returns false'. Refute it at one input. -/
def drupSharesWrong : ChangeSpec := { name := "drupShares", fn := fun _ => fun
  | [d1, d2] => { results := [.lit (.bool false)], args := [d1, d2] }
  | _ => none }
def DrupSharesWrongFalsely : Prop := drupSharesRow.holds Try.pinned (OpenSpec.ofChange drupSharesWrong)

/-- 'litmuslaw19.SatTells': WHATEVER THE INPUT: true; the input reads as it did. -/
def satTellsSpec : ChangeSpec := { name := "satTells", fn := fun _ => fun
  | [d1, d2] => { results := [.lit (.bool true)], args := [d1, d2] }
  | _ => none }
def satTellsRow : OpenClaim := { program := "ytilhhmkdcoajnaa", sum := "426d948fd751a7dbc4c342c9e379a10d41a71320134be208475845abc34c230f", func := "litmus/litmuslaw19.SatTells", spec := "satTells", unfollowed := true, recurses := true, apart := false }
def SatTellsSaid : Prop := satTellsRow.holds Try.pinned (OpenSpec.ofChange satTellsSpec)

/-- ITS FALSE NEIGHBOUR: 'it returns false'. Refute it at one input. -/
def satTellsWrong : ChangeSpec := { name := "satTells", fn := fun _ => fun
  | [d1, d2] => { results := [.lit (.bool false)], args := [d1, d2] }
  | _ => none }
def SatTellsWrongFalsely : Prop := satTellsRow.holds Try.pinned (OpenSpec.ofChange satTellsWrong)

/-- 'litmuslaw19.SatStays': WHATEVER THE INPUT: true; the input reads as it did. -/
def satStaysSpec : ChangeSpec := { name := "satStays", fn := fun _ => fun
  | [d1, d2, d3] => { results := [.lit (.bool true)], args := [d1, d2, d3] }
  | _ => none }
def satStaysRow : OpenClaim := { program := "ytilhhmkdcoajnaa", sum := "426d948fd751a7dbc4c342c9e379a10d41a71320134be208475845abc34c230f", func := "litmus/litmuslaw19.SatStays", spec := "satStays", unfollowed := true, recurses := true, apart := false }
def SatStaysSaid : Prop := satStaysRow.holds Try.pinned (OpenSpec.ofChange satStaysSpec)

/-- ITS FALSE NEIGHBOUR: 'it returns false'. Refute it at one input. -/
def satStaysWrong : ChangeSpec := { name := "satStays", fn := fun _ => fun
  | [d1, d2, d3] => { results := [.lit (.bool false)], args := [d1, d2, d3] }
  | _ => none }
def SatStaysWrongFalsely : Prop := satStaysRow.holds Try.pinned (OpenSpec.ofChange satStaysWrong)

/-- 'litmuslaw19.SatHoles': WHATEVER THE INPUT: true; the input reads as it did. -/
def satHolesSpec : ChangeSpec := { name := "satHoles", fn := fun _ => fun
  | [d1, d2] => { results := [.lit (.bool true)], args := [d1, d2] }
  | _ => none }
def satHolesRow : OpenClaim := { program := "ytilhhmkdcoajnaa", sum := "426d948fd751a7dbc4c342c9e379a10d41a71320134be208475845abc34c230f", func := "litmus/litmuslaw19.SatHoles", spec := "satHoles", unfollowed := true, recurses := true, apart := false }
def SatHolesSaid : Prop := satHolesRow.holds Try.pinned (OpenSpec.ofChange satHolesSpec)

/-- ITS FALSE NEIGHBOUR: 'it returns false'. Refute it at one input. -/
def satHolesWrong : ChangeSpec := { name := "satHoles", fn := fun _ => fun
  | [d1, d2] => { results := [.lit (.bool false)], args := [d1, d2] }
  | _ => none }
def SatHolesWrongFalsely : Prop := satHolesRow.holds Try.pinned (OpenSpec.ofChange satHolesWrong)

/-- 'litmuslaw19.SatLarge': WHATEVER THE INPUT: true; the input reads as it did. -/
def satLargeSpec : ChangeSpec := { name := "satLarge", fn := fun _ => fun
  | [d1, d2, d3] => { results := [.lit (.bool true)], args := [d1, d2, d3] }
  | _ => none }
def satLargeRow : OpenClaim := { program := "ytilhhmkdcoajnaa", sum := "426d948fd751a7dbc4c342c9e379a10d41a71320134be208475845abc34c230f", func := "litmus/litmuslaw19.SatLarge", spec := "satLarge", unfollowed := true, recurses := true, apart := false }
def SatLargeSaid : Prop := satLargeRow.holds Try.pinned (OpenSpec.ofChange satLargeSpec)

/-- ITS FALSE NEIGHBOUR: 'it returns false'. Refute it at one input. -/
def satLargeWrong : ChangeSpec := { name := "satLarge", fn := fun _ => fun
  | [d1, d2, d3] => { results := [.lit (.bool false)], args := [d1, d2, d3] }
  | _ => none }
def SatLargeWrongFalsely : Prop := satLargeRow.holds Try.pinned (OpenSpec.ofChange satLargeWrong)

/-- 'litmuslaw19.SatTraces': WHATEVER THE INPUT: true; the input reads as it did. -/
def satTracesSpec : ChangeSpec := { name := "satTraces", fn := fun _ => fun
  | [d1, d2, d3] => { results := [.lit (.bool true)], args := [d1, d2, d3] }
  | _ => none }
def satTracesRow : OpenClaim := { program := "ytilhhmkdcoajnaa", sum := "426d948fd751a7dbc4c342c9e379a10d41a71320134be208475845abc34c230f", func := "litmus/litmuslaw19.SatTraces", spec := "satTraces", unfollowed := true, recurses := true, apart := false }
def SatTracesSaid : Prop := satTracesRow.holds Try.pinned (OpenSpec.ofChange satTracesSpec)

/-- ITS FALSE NEIGHBOUR: 'it returns false'. Refute it at one input. -/
def satTracesWrong : ChangeSpec := { name := "satTraces", fn := fun _ => fun
  | [d1, d2, d3] => { results := [.lit (.bool false)], args := [d1, d2, d3] }
  | _ => none }
def SatTracesWrongFalsely : Prop := satTracesRow.holds Try.pinned (OpenSpec.ofChange satTracesWrong)

/-- 'litmuslaw19.SatOrder': WHATEVER THE INPUT: true; the input reads as it did. -/
def satOrderSpec : ChangeSpec := { name := "satOrder", fn := fun _ => fun
  | [d1, d2, d3] => { results := [.lit (.bool true)], args := [d1, d2, d3] }
  | _ => none }
def satOrderRow : OpenClaim := { program := "ytilhhmkdcoajnaa", sum := "426d948fd751a7dbc4c342c9e379a10d41a71320134be208475845abc34c230f", func := "litmus/litmuslaw19.SatOrder", spec := "satOrder", unfollowed := true, recurses := true, apart := false }
def SatOrderSaid : Prop := satOrderRow.holds Try.pinned (OpenSpec.ofChange satOrderSpec)

/-- ITS FALSE NEIGHBOUR: 'it returns false'. Refute it at one input. -/
def satOrderWrong : ChangeSpec := { name := "satOrder", fn := fun _ => fun
  | [d1, d2, d3] => { results := [.lit (.bool false)], args := [d1, d2, d3] }
  | _ => none }
def SatOrderWrongFalsely : Prop := satOrderRow.holds Try.pinned (OpenSpec.ofChange satOrderWrong)

/-- 'litmuslaw19.SatWrong': WHATEVER THE INPUT: true; the input reads as it did. -/
def satWrongSpec : ChangeSpec := { name := "satWrong", fn := fun _ => fun
  | [d1, d2, d3] => { results := [.lit (.bool true)], args := [d1, d2, d3] }
  | _ => none }
def satWrongRow : OpenClaim := { program := "ytilhhmkdcoajnaa", sum := "426d948fd751a7dbc4c342c9e379a10d41a71320134be208475845abc34c230f", func := "litmus/litmuslaw19.SatWrong", spec := "satWrong", unfollowed := true, recurses := true, apart := false }
def SatWrongSaid : Prop := satWrongRow.holds Try.pinned (OpenSpec.ofChange satWrongSpec)

/-- ITS FALSE NEIGHBOUR: 'it returns false'. Refute it at one input. -/
def satWrongWrong : ChangeSpec := { name := "satWrong", fn := fun _ => fun
  | [d1, d2, d3] => { results := [.lit (.bool false)], args := [d1, d2, d3] }
  | _ => none }
def SatWrongWrongFalsely : Prop := satWrongRow.holds Try.pinned (OpenSpec.ofChange satWrongWrong)

/-- 'litmuslaw19.SatKnown': WHATEVER THE INPUT: true; the input reads as it did. -/
def satKnownSpec : ChangeSpec := { name := "satKnown", fn := fun _ => fun
  | [] => { results := [.lit (.bool true)], args := [] }
  | _ => none }
def satKnownRow : OpenClaim := { program := "ytilhhmkdcoajnaa", sum := "426d948fd751a7dbc4c342c9e379a10d41a71320134be208475845abc34c230f", func := "litmus/litmuslaw19.SatKnown", spec := "satKnown", unfollowed := true, recurses := true, apart := false }
def SatKnownSaid : Prop := satKnownRow.holds Try.pinned (OpenSpec.ofChange satKnownSpec)

/-- ITS FALSE NEIGHBOUR: 'it returns false'. Refute it at one input. -/
def satKnownWrong : ChangeSpec := { name := "satKnown", fn := fun _ => fun
  | [] => { results := [.lit (.bool false)], args := [] }
  | _ => none }
def SatKnownWrongFalsely : Prop := satKnownRow.holds Try.pinned (OpenSpec.ofChange satKnownWrong)

/-- 'litmuslaw20.DrupSat': WHATEVER THE INPUT: true; the input reads as it did. -/
def drupSatSpec : ChangeSpec := { name := "drupSat", fn := fun _ => fun
  | [d] => { results := [.lit (.bool true)], args := [d] }
  | _ => none }
def drupSatRow : OpenClaim := { program := "ytilhhmkdcoajnaa", sum := "426d948fd751a7dbc4c342c9e379a10d41a71320134be208475845abc34c230f", func := "litmus/litmuslaw20.DrupSat", spec := "drupSat", unfollowed := true, recurses := true, apart := false }
def DrupSatSaid : Prop := drupSatRow.holds Try.pinned (OpenSpec.ofChange drupSatSpec)

/-- ITS FALSE NEIGHBOUR: 'it returns false'. Refute it at one input. -/
def drupSatWrong : ChangeSpec := { name := "drupSat", fn := fun _ => fun
  | [d] => { results := [.lit (.bool false)], args := [d] }
  | _ => none }
def DrupSatWrongFalsely : Prop := drupSatRow.holds Try.pinned (OpenSpec.ofChange drupSatWrong)

/-- 'litmuslaw20.DrupMore': WHATEVER THE INPUT: true; the input reads as it did. -/
def drupMoreSpec : ChangeSpec := { name := "drupMore", fn := fun _ => fun
  | [d1, d2, d3] => { results := [.lit (.bool true)], args := [d1, d2, d3] }
  | _ => none }
def drupMoreRow : OpenClaim := { program := "ytilhhmkdcoajnaa", sum := "426d948fd751a7dbc4c342c9e379a10d41a71320134be208475845abc34c230f", func := "litmus/litmuslaw20.DrupMore", spec := "drupMore", unfollowed := true, recurses := true, apart := false }
def DrupMoreSaid : Prop := drupMoreRow.holds Try.pinned (OpenSpec.ofChange drupMoreSpec)

/-- ITS FALSE NEIGHBOUR: 'it returns false'. Refute it at one input. -/
def drupMoreWrong : ChangeSpec := { name := "drupMore", fn := fun _ => fun
  | [d1, d2, d3] => { results := [.lit (.bool false)], args := [d1, d2, d3] }
  | _ => none }
def DrupMoreWrongFalsely : Prop := drupMoreRow.holds Try.pinned (OpenSpec.ofChange drupMoreWrong)

/- THE SECOND FORM. 'bulk': how many values and letters a reading holds, each counted each time it is reached (what is shared counts as often as it is met; a slice's spare places count too). A statement '..UptoSaid' is the law's where the arguments, and the package variables that the reading takes, are together of bulk at most 1048576: NARROWER than '..Said'. Prove '..Said' where nothing that the law and all that it calls make is longer than what came in: it says more and counts as full. Else prove '..UptoSaid'. A law counts once. -/
mutual
def uptoBulk {H : Type} : DataW H → Nat
  | .lit (.string bytes) => bytes.length + 1
  | .lit _ => 1
  | .nil => 1
  | .ptr d => uptoBulk d + 1
  | .slice elems spare => uptoBulkAll elems + uptoBulkAll spare + 1
  | .agg parts => uptoBulkAll parts + 1
  | .iface _ d => uptoBulk d + 1
  | .map entries => uptoBulkEntries entries + 1
  | .held _ => 1
def uptoBulkAll {H : Type} : List (DataW H) → Nat
  | [] => 0
  | d :: r => uptoBulk d + uptoBulkAll r
def uptoBulkEntries {H : Type} : List (Lit × DataW H) → Nat
  | [] => 0
  | x :: r => uptoBulkEntry x + uptoBulkEntries r
def uptoBulkEntry {H : Type} : Lit × DataW H → Nat
  | (.string bytes, d) => bytes.length + uptoBulk d + 1
  | (_, d) => uptoBulk d + 1
 end
def uptoSmall : (H : Type) → List (DataW H) → Bool := fun _ ds => decide (uptoBulkAll ds ≤ 1048576)
def OpenSpec.upto (s : _root_.Go.ChangeSpec) : _root_.Go.OpenSpec := { _root_.Go.OpenSpec.ofChange s with cond := some uptoSmall }

/-- 'litmuslaw20.DrupKnown', WHERE WHAT IT READS IS OF BULK AT MOST 1048576: true; the input reads as it did. -/
def drupKnownUptoRow : OpenClaim := { program := "ytilhhmkdcoajnaa", sum := "426d948fd751a7dbc4c342c9e379a10d41a71320134be208475845abc34c230f", func := "litmus/litmuslaw20.DrupKnown", spec := "drupKnown", unfollowed := true, recurses := true, apart := false, narrowed := true }
def DrupKnownUptoSaid : Prop := drupKnownUptoRow.holds Try.pinned (OpenSpec.upto drupKnownSpec)

/-- 'litmuslaw20.DrupTells', WHERE WHAT IT READS IS OF BULK AT MOST 1048576: true; the input reads as it did. -/
def drupTellsUptoRow : OpenClaim := { program := "ytilhhmkdcoajnaa", sum := "426d948fd751a7dbc4c342c9e379a10d41a71320134be208475845abc34c230f", func := "litmus/litmuslaw20.DrupTells", spec := "drupTells", unfollowed := true, recurses := true, apart := false, narrowed := true }
def DrupTellsUptoSaid : Prop := drupTellsUptoRow.holds Try.pinned (OpenSpec.upto drupTellsSpec)

/-- 'litmuslaw20.DrupSound', WHERE WHAT IT READS IS OF BULK AT MOST 1048576: true; the input reads as it did. -/
def drupSoundUptoRow : OpenClaim := { program := "ytilhhmkdcoajnaa", sum := "426d948fd751a7dbc4c342c9e379a10d41a71320134be208475845abc34c230f", func := "litmus/litmuslaw20.DrupSound", spec := "drupSound", unfollowed := true, recurses := true, apart := false, narrowed := true }
def DrupSoundUptoSaid : Prop := drupSoundUptoRow.holds Try.pinned (OpenSpec.upto drupSoundSpec)

/-- 'litmuslaw20.DrupShares', WHERE WHAT IT READS IS OF BULK AT MOST 1048576: true; the input reads as it did. -/
def drupSharesUptoRow : OpenClaim := { program := "ytilhhmkdcoajnaa", sum := "426d948fd751a7dbc4c342c9e379a10d41a71320134be208475845abc34c230f", func := "litmus/litmuslaw20.DrupShares", spec := "drupShares", unfollowed := true, recurses := true, apart := false, narrowed := true }
def DrupSharesUptoSaid : Prop := drupSharesUptoRow.holds Try.pinned (OpenSpec.upto drupSharesSpec)

/-- 'litmuslaw19.SatTells', WHERE WHAT IT READS IS OF BULK AT MOST 1048576: true; the input reads as it did. -/
def satTellsUptoRow : OpenClaim := { program := "ytilhhmkdcoajnaa", sum := "426d948fd751a7dbc4c342c9e379a10d41a71320134be208475845abc34c230f", func := "litmus/litmuslaw19.SatTells", spec := "satTells", unfollowed := true, recurses := true, apart := false, narrowed := true }
def SatTellsUptoSaid : Prop := satTellsUptoRow.holds Try.pinned (OpenSpec.upto satTellsSpec)

/-- 'litmuslaw19.SatStays', WHERE WHAT IT READS IS OF BULK AT MOST 1048576: true; the input reads as it did. -/
def satStaysUptoRow : OpenClaim := { program := "ytilhhmkdcoajnaa", sum := "426d948fd751a7dbc4c342c9e379a10d41a71320134be208475845abc34c230f", func := "litmus/litmuslaw19.SatStays", spec := "satStays", unfollowed := true, recurses := true, apart := false, narrowed := true }
def SatStaysUptoSaid : Prop := satStaysUptoRow.holds Try.pinned (OpenSpec.upto satStaysSpec)

/-- 'litmuslaw19.SatHoles', WHERE WHAT IT READS IS OF BULK AT MOST 1048576: true; the input reads as it did. -/
def satHolesUptoRow : OpenClaim := { program := "ytilhhmkdcoajnaa", sum := "426d948fd751a7dbc4c342c9e379a10d41a71320134be208475845abc34c230f", func := "litmus/litmuslaw19.SatHoles", spec := "satHoles", unfollowed := true, recurses := true, apart := false, narrowed := true }
def SatHolesUptoSaid : Prop := satHolesUptoRow.holds Try.pinned (OpenSpec.upto satHolesSpec)

/-- 'litmuslaw19.SatLarge', WHERE WHAT IT READS IS OF BULK AT MOST 1048576: true; the input reads as it did. -/
def satLargeUptoRow : OpenClaim := { program := "ytilhhmkdcoajnaa", sum := "426d948fd751a7dbc4c342c9e379a10d41a71320134be208475845abc34c230f", func := "litmus/litmuslaw19.SatLarge", spec := "satLarge", unfollowed := true, recurses := true, apart := false, narrowed := true }
def SatLargeUptoSaid : Prop := satLargeUptoRow.holds Try.pinned (OpenSpec.upto satLargeSpec)

/-- 'litmuslaw19.SatTraces', WHERE WHAT IT READS IS OF BULK AT MOST 1048576: true; the input reads as it did. -/
def satTracesUptoRow : OpenClaim := { program := "ytilhhmkdcoajnaa", sum := "426d948fd751a7dbc4c342c9e379a10d41a71320134be208475845abc34c230f", func := "litmus/litmuslaw19.SatTraces", spec := "satTraces", unfollowed := true, recurses := true, apart := false, narrowed := true }
def SatTracesUptoSaid : Prop := satTracesUptoRow.holds Try.pinned (OpenSpec.upto satTracesSpec)

/-- 'litmuslaw19.SatOrder', WHERE WHAT IT READS IS OF BULK AT MOST 1048576: true; the input reads as it did. -/
def satOrderUptoRow : OpenClaim := { program := "ytilhhmkdcoajnaa", sum := "426d948fd751a7dbc4c342c9e379a10d41a71320134be208475845abc34c230f", func := "litmus/litmuslaw19.SatOrder", spec := "satOrder", unfollowed := true, recurses := true, apart := false, narrowed := true }
def SatOrderUptoSaid : Prop := satOrderUptoRow.holds Try.pinned (OpenSpec.upto satOrderSpec)

/-- 'litmuslaw19.SatWrong', WHERE WHAT IT READS IS OF BULK AT MOST 1048576: true; the input reads as it did. -/
def satWrongUptoRow : OpenClaim := { program := "ytilhhmkdcoajnaa", sum := "426d948fd751a7dbc4c342c9e379a10d41a71320134be208475845abc34c230f", func := "litmus/litmuslaw19.SatWrong", spec := "satWrong", unfollowed := true, recurses := true, apart := false, narrowed := true }
def SatWrongUptoSaid : Prop := satWrongUptoRow.holds Try.pinned (OpenSpec.upto satWrongSpec)

/-- 'litmuslaw19.SatKnown', WHERE WHAT IT READS IS OF BULK AT MOST 1048576: true; the input reads as it did. -/
def satKnownUptoRow : OpenClaim := { program := "ytilhhmkdcoajnaa", sum := "426d948fd751a7dbc4c342c9e379a10d41a71320134be208475845abc34c230f", func := "litmus/litmuslaw19.SatKnown", spec := "satKnown", unfollowed := true, recurses := true, apart := false, narrowed := true }
def SatKnownUptoSaid : Prop := satKnownUptoRow.holds Try.pinned (OpenSpec.upto satKnownSpec)

/-- 'litmuslaw20.DrupSat', WHERE WHAT IT READS IS OF BULK AT MOST 1048576: true; the input reads as it did. -/
def drupSatUptoRow : OpenClaim := { program := "ytilhhmkdcoajnaa", sum := "426d948fd751a7dbc4c342c9e379a10d41a71320134be208475845abc34c230f", func := "litmus/litmuslaw20.DrupSat", spec := "drupSat", unfollowed := true, recurses := true, apart := false, narrowed := true }
def DrupSatUptoSaid : Prop := drupSatUptoRow.holds Try.pinned (OpenSpec.upto drupSatSpec)

/-- 'litmuslaw20.DrupMore', WHERE WHAT IT READS IS OF BULK AT MOST 1048576: true; the input reads as it did. -/
def drupMoreUptoRow : OpenClaim := { program := "ytilhhmkdcoajnaa", sum := "426d948fd751a7dbc4c342c9e379a10d41a71320134be208475845abc34c230f", func := "litmus/litmuslaw20.DrupMore", spec := "drupMore", unfollowed := true, recurses := true, apart := false, narrowed := true }
def DrupMoreUptoSaid : Prop := drupMoreUptoRow.holds Try.pinned (OpenSpec.upto drupMoreSpec)

end Rows
end Go.Proofs.Ytilhhmkdcoajnaa
