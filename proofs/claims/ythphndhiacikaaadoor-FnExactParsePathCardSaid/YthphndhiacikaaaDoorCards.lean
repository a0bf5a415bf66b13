/-
  DERIVED. GIVEN WITH THE SEED: THE CARDS: each row of YthphndhiacikaaaDoorRows.lean that lists a variable, with what it lists TIED to the program's text (the seventh form; the later family's looks); each row that meets fmt, with fmt's text TOLD by the authors' own Lean function (tested against real Go, not proved from fmt's source: count such statements apart). THE CARD IS WHAT COUNTS. Prove the row's statement (the work); the ties are given (YthphndhiacikaaaDoorTie.lean); close each card by the builder's one call (the guide's Derived/Test/ToyasCard.lean, 'card_holds'). Laid BY PROGRAM, IN A SANDBOX (cutbox-door.mjs). By AI agents, Wed Nov 11 2026. No macro, syntax, notation, axiom, sorry.
-/
import Derived.Test.YthphndhiacikaaaDoorRows
import GoSem.ClaimSeven
namespace Go.Proofs.YthphndhiacikaaaDoor
namespace Rows

/-- THE TIED CARD OF 'laws.FnExactFormatPath'. -/
def fnExactFormatPathCard : Claim7 := { stood := { row := fnExactFormatPathRow, standIns := [], harness := (true, "2e57377e29252e3d6288cffbd56b5f455b638e2dbca733367b50cb04b0e6f4ea"), looks := true }, kinds := [], alts := [], laidByText := true, laidKinds := [.data, .data, .data], laidTests := true, laidLooks := .later }
def FnExactFormatPathCardSaid : Prop := Claim7.holds Tryd.pinned (.plain (OpenSpec.ofChange fnExactFormatPathSpec)) fnExactFormatPathCard

/-- THE TIED CARD OF 'laws.FnPathRoundTrip'. -/
def fnPathRoundTripCard : Claim7 := { stood := { row := fnPathRoundTripRow, standIns := [], harness := (true, "2e57377e29252e3d6288cffbd56b5f455b638e2dbca733367b50cb04b0e6f4ea"), looks := true }, kinds := [], alts := [], laidByText := true, laidKinds := [.data, .data, .data, .data, .sentinel, .sentinel, .pinned], laidTests := true, laidLooks := .later }
def FnPathRoundTripCardSaid : Prop := Claim7.holds Tryd.pinned (.plain (OpenSpec.ofChange fnPathRoundTripSpec)) fnPathRoundTripCard

/-- THE TIED CARD OF 'laws.FnExactParsePath'. -/
def fnExactParsePathCard : Claim7 := { stood := { row := fnExactParsePathRow, standIns := [], harness := (true, "2e57377e29252e3d6288cffbd56b5f455b638e2dbca733367b50cb04b0e6f4ea"), looks := true }, kinds := [], alts := [], laidByText := true, laidKinds := [.data, .data, .data, .data, .sentinel, .sentinel, .pinned], laidTests := true, laidLooks := .later }
def FnExactParsePathCardSaid : Prop := Claim7.holds Tryd.pinned (.plain (OpenSpec.ofChange fnExactParsePathSpec)) fnExactParsePathCard

/-- THE SECOND FORM's CARD OF 'laws.FnExactFormatPath'. -/
def fnExactFormatPathUptoCard : Claim7 := { stood := { row := fnExactFormatPathUptoRow, standIns := [], harness := (true, "2e57377e29252e3d6288cffbd56b5f455b638e2dbca733367b50cb04b0e6f4ea"), looks := true }, kinds := [], alts := [], laidByText := true, laidKinds := [.data, .data, .data], laidTests := true, laidLooks := .later }
def FnExactFormatPathUptoCardSaid : Prop := Claim7.holds Tryd.pinned (.plain (OpenSpec.upto fnExactFormatPathSpec)) fnExactFormatPathUptoCard

/-- THE SECOND FORM's CARD OF 'laws.FnPathRoundTrip'. -/
def fnPathRoundTripUptoCard : Claim7 := { stood := { row := fnPathRoundTripUptoRow, standIns := [], harness := (true, "2e57377e29252e3d6288cffbd56b5f455b638e2dbca733367b50cb04b0e6f4ea"), looks := true }, kinds := [], alts := [], laidByText := true, laidKinds := [.data, .data, .data, .data, .sentinel, .sentinel, .pinned], laidTests := true, laidLooks := .later }
def FnPathRoundTripUptoCardSaid : Prop := Claim7.holds Tryd.pinned (.plain (OpenSpec.upto fnPathRoundTripSpec)) fnPathRoundTripUptoCard

/-- THE SECOND FORM's CARD OF 'laws.FnExactParsePath'. -/
def fnExactParsePathUptoCard : Claim7 := { stood := { row := fnExactParsePathUptoRow, standIns := [], harness := (true, "2e57377e29252e3d6288cffbd56b5f455b638e2dbca733367b50cb04b0e6f4ea"), looks := true }, kinds := [], alts := [], laidByText := true, laidKinds := [.data, .data, .data, .data, .sentinel, .sentinel, .pinned], laidTests := true, laidLooks := .later }
def FnExactParsePathUptoCardSaid : Prop := Claim7.holds Tryd.pinned (.plain (OpenSpec.upto fnExactParsePathSpec)) fnExactParsePathUptoCard
end Rows
end Go.Proofs.YthphndhiacikaaaDoor
