/-
  DERIVED. GIVEN WITH THE SEED: THE CARDS: each row of YthphndhiacikaaaGreatDoorRows.lean that lists a variable, with what it lists TIED to the program's text (the seventh form; the later family's looks); each row that meets fmt, with fmt's text TOLD by the authors' own Lean function (tested against real Go, not proved from fmt's source: count such statements apart). THE CARD IS WHAT COUNTS. Prove the row's statement (the work); the ties are given (YthphndhiacikaaaGreatDoorTie.lean); close each card by the builder's one call (the guide's Derived/Test/ToyasCard.lean, 'card_holds'). Laid BY PROGRAM, IN A SANDBOX (cutbox-door.mjs). By AI agents, Wed Nov 11 2026. No macro, syntax, notation, axiom, sorry.
-/
import Derived.Test.YthphndhiacikaaaGreatDoorRows
import GoSem.ClaimSeven
namespace Go.Proofs.YthphndhiacikaaaGreatDoor
namespace Rows

/-- THE TIED CARD OF 'laws.FnPathCanonical'. -/
def fnPathCanonicalCard : Claim7 := { stood := { row := fnPathCanonicalRow, standIns := [], harness := (true, "c94e4644071dd41270cc9248470f6ab7c83bc215a032629aea4d4b8aac037ec6"), looks := true }, kinds := [], alts := [], laidByText := true, laidKinds := [.data, .data, .data, .data, .sentinel, .sentinel, .pinned], laidTests := true, laidLooks := .later }
def FnPathCanonicalCardSaid : Prop := Claim7.holds Tryz.pinned (.plain (OpenSpec.ofChange fnPathCanonicalSpec)) fnPathCanonicalCard

/-- THE TIED CARD OF 'laws.FnSessionFill'. -/
def fnSessionFillCard : Claim7 := { stood := { row := fnSessionFillRow, standIns := [], harness := (true, "c94e4644071dd41270cc9248470f6ab7c83bc215a032629aea4d4b8aac037ec6"), looks := true }, kinds := [], alts := [], laidByText := true, laidKinds := [.data, .data, .data, .data, .sentinel, .sentinel, .pinned], laidTests := true, laidLooks := .later }
def FnSessionFillCardSaid : Prop := Claim7.holds Tryz.pinned (.plain (OpenSpec.ofChange fnSessionFillSpec)) fnSessionFillCard

/-- THE TIED CARD OF 'laws.FnSessionNew'. -/
def fnSessionNewCard : Claim7 := { stood := { row := fnSessionNewRow, standIns := [], harness := (true, "c94e4644071dd41270cc9248470f6ab7c83bc215a032629aea4d4b8aac037ec6"), looks := true }, kinds := [], alts := [], laidByText := true, laidKinds := [.data, .data, .data, .data, .sentinel, .sentinel, .pinned], laidTests := true, laidLooks := .later }
def FnSessionNewCardSaid : Prop := Claim7.holds Tryz.pinned (.plain (OpenSpec.ofChange fnSessionNewSpec)) fnSessionNewCard

/-- THE TIED CARD OF 'laws.FnSessionPrefix'. -/
def fnSessionPrefixCard : Claim7 := { stood := { row := fnSessionPrefixRow, standIns := [], harness := (true, "c94e4644071dd41270cc9248470f6ab7c83bc215a032629aea4d4b8aac037ec6"), looks := true }, kinds := [], alts := [], laidByText := true, laidKinds := [.data, .data, .data, .data, .sentinel, .sentinel, .pinned], laidTests := true, laidLooks := .later }
def FnSessionPrefixCardSaid : Prop := Claim7.holds Tryz.pinned (.plain (OpenSpec.ofChange fnSessionPrefixSpec)) fnSessionPrefixCard

/-- THE TIED CARD OF 'laws.FnExactRunSession'. -/
def fnExactRunSessionCard : Claim7 := { stood := { row := fnExactRunSessionRow, standIns := [], harness := (true, "c94e4644071dd41270cc9248470f6ab7c83bc215a032629aea4d4b8aac037ec6"), looks := true }, kinds := [], alts := [], laidByText := true, laidKinds := [.data, .data, .data, .data, .sentinel, .sentinel, .pinned], laidTests := true, laidLooks := .later }
def FnExactRunSessionCardSaid : Prop := Claim7.holds Tryz.pinned (.plain (OpenSpec.ofChange fnExactRunSessionSpec)) fnExactRunSessionCard

/-- THE SECOND FORM's CARD OF 'laws.FnPathCanonical'. -/
def fnPathCanonicalUptoCard : Claim7 := { stood := { row := fnPathCanonicalUptoRow, standIns := [], harness := (true, "c94e4644071dd41270cc9248470f6ab7c83bc215a032629aea4d4b8aac037ec6"), looks := true }, kinds := [], alts := [], laidByText := true, laidKinds := [.data, .data, .data, .data, .sentinel, .sentinel, .pinned], laidTests := true, laidLooks := .later }
def FnPathCanonicalUptoCardSaid : Prop := Claim7.holds Tryz.pinned (.plain (OpenSpec.upto fnPathCanonicalSpec)) fnPathCanonicalUptoCard

/-- THE SECOND FORM's CARD OF 'laws.FnSessionFill'. -/
def fnSessionFillUptoCard : Claim7 := { stood := { row := fnSessionFillUptoRow, standIns := [], harness := (true, "c94e4644071dd41270cc9248470f6ab7c83bc215a032629aea4d4b8aac037ec6"), looks := true }, kinds := [], alts := [], laidByText := true, laidKinds := [.data, .data, .data, .data, .sentinel, .sentinel, .pinned], laidTests := true, laidLooks := .later }
def FnSessionFillUptoCardSaid : Prop := Claim7.holds Tryz.pinned (.plain (OpenSpec.upto fnSessionFillSpec)) fnSessionFillUptoCard

/-- THE SECOND FORM's CARD OF 'laws.FnSessionNew'. -/
def fnSessionNewUptoCard : Claim7 := { stood := { row := fnSessionNewUptoRow, standIns := [], harness := (true, "c94e4644071dd41270cc9248470f6ab7c83bc215a032629aea4d4b8aac037ec6"), looks := true }, kinds := [], alts := [], laidByText := true, laidKinds := [.data, .data, .data, .data, .sentinel, .sentinel, .pinned], laidTests := true, laidLooks := .later }
def FnSessionNewUptoCardSaid : Prop := Claim7.holds Tryz.pinned (.plain (OpenSpec.upto fnSessionNewSpec)) fnSessionNewUptoCard

/-- THE SECOND FORM's CARD OF 'laws.FnSessionPrefix'. -/
def fnSessionPrefixUptoCard : Claim7 := { stood := { row := fnSessionPrefixUptoRow, standIns := [], harness := (true, "c94e4644071dd41270cc9248470f6ab7c83bc215a032629aea4d4b8aac037ec6"), looks := true }, kinds := [], alts := [], laidByText := true, laidKinds := [.data, .data, .data, .data, .sentinel, .sentinel, .pinned], laidTests := true, laidLooks := .later }
def FnSessionPrefixUptoCardSaid : Prop := Claim7.holds Tryz.pinned (.plain (OpenSpec.upto fnSessionPrefixSpec)) fnSessionPrefixUptoCard

/-- THE SECOND FORM's CARD OF 'laws.FnExactRunSession'. -/
def fnExactRunSessionUptoCard : Claim7 := { stood := { row := fnExactRunSessionUptoRow, standIns := [], harness := (true, "c94e4644071dd41270cc9248470f6ab7c83bc215a032629aea4d4b8aac037ec6"), looks := true }, kinds := [], alts := [], laidByText := true, laidKinds := [.data, .data, .data, .data, .sentinel, .sentinel, .pinned], laidTests := true, laidLooks := .later }
def FnExactRunSessionUptoCardSaid : Prop := Claim7.holds Tryz.pinned (.plain (OpenSpec.upto fnExactRunSessionSpec)) fnExactRunSessionUptoCard
end Rows
end Go.Proofs.YthphndhiacikaaaGreatDoor
