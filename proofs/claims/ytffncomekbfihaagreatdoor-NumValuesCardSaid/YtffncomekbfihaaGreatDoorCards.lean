/-
  DERIVED. GIVEN WITH THE SEED: THE CARDS: each row of YtffncomekbfihaaGreatDoorRows.lean that lists a variable, with what it lists TIED to the program's text (the seventh form; the later family's looks); each row that meets fmt, with fmt's text TOLD by the authors' own Lean function (tested against real Go, not proved from fmt's source: count such statements apart). THE CARD IS WHAT COUNTS. Prove the row's statement (the work); the ties are given (YtffncomekbfihaaGreatDoorTie.lean); close each card by the builder's one call (the guide's Derived/Test/ToyasCard.lean, 'card_holds'). Laid BY PROGRAM, IN A SANDBOX (cutbox-door.mjs). By AI agents, Wed Nov 11 2026. No macro, syntax, notation, axiom, sorry.
-/
import Derived.Test.YtffncomekbfihaaGreatDoorRows
import GoSem.ClaimSeven
namespace Go.Proofs.YtffncomekbfihaaGreatDoor
namespace Rows

/-- THE TIED CARD OF 'glossatorlaw06.FdecShorts'. -/
def fdecShortsCard : Claim7 := { stood := { row := fdecShortsRow, standIns := [], harness := (true, "81bf39f7dd9b25f0f9f5910c66abfe9fb69958a1f9eda9e9ba3740006e3bb2dc"), looks := true }, kinds := [], alts := [], laidByText := true, laidKinds := [.data, .data, .data], laidTests := true, laidLooks := .later }
def FdecShortsCardSaid : Prop := Claim7.holds Tryz.pinned (.plain (OpenSpec.ofChange fdecShortsSpec)) fdecShortsCard

/-- THE TIED CARD OF 'glossatorlaw07.NumTexts'. -/
def numTextsCard : Claim7 := { stood := { row := numTextsRow, standIns := [], harness := (true, "81bf39f7dd9b25f0f9f5910c66abfe9fb69958a1f9eda9e9ba3740006e3bb2dc"), looks := true }, kinds := [], alts := [], laidByText := true, laidKinds := [.data, .data, .data], laidTests := true, laidLooks := .later }
def NumTextsCardSaid : Prop := Claim7.holds Tryz.pinned (.plain (OpenSpec.ofChange numTextsSpec)) numTextsCard

/-- THE TIED CARD OF 'glossatorlaw07.NumValues'. -/
def numValuesCard : Claim7 := { stood := { row := numValuesRow, standIns := [], harness := (true, "81bf39f7dd9b25f0f9f5910c66abfe9fb69958a1f9eda9e9ba3740006e3bb2dc"), looks := true }, kinds := [], alts := [], laidByText := true, laidKinds := [.data, .data, .data, .sentinel, .sentinel], laidTests := true, laidLooks := .later }
def NumValuesCardSaid : Prop := Claim7.holds Tryz.pinned (.plain (OpenSpec.ofChange numValuesSpec)) numValuesCard

/-- THE TIED CARD OF 'glossatorlaw07.NumBack'. -/
def numBackCard : Claim7 := { stood := { row := numBackRow, standIns := [], harness := (true, "81bf39f7dd9b25f0f9f5910c66abfe9fb69958a1f9eda9e9ba3740006e3bb2dc"), looks := true }, kinds := [], alts := [], laidByText := true, laidKinds := [.data, .data, .data, .sentinel, .sentinel], laidTests := true, laidLooks := .later }
def NumBackCardSaid : Prop := Claim7.holds Tryz.pinned (.plain (OpenSpec.ofChange numBackSpec)) numBackCard

/-- THE SECOND FORM's CARD OF 'glossatorlaw06.FdecShorts'. -/
def fdecShortsUptoCard : Claim7 := { stood := { row := fdecShortsUptoRow, standIns := [], harness := (true, "81bf39f7dd9b25f0f9f5910c66abfe9fb69958a1f9eda9e9ba3740006e3bb2dc"), looks := true }, kinds := [], alts := [], laidByText := true, laidKinds := [.data, .data, .data], laidTests := true, laidLooks := .later }
def FdecShortsUptoCardSaid : Prop := Claim7.holds Tryz.pinned (.plain (OpenSpec.upto fdecShortsSpec)) fdecShortsUptoCard

/-- THE SECOND FORM's CARD OF 'glossatorlaw07.NumTexts'. -/
def numTextsUptoCard : Claim7 := { stood := { row := numTextsUptoRow, standIns := [], harness := (true, "81bf39f7dd9b25f0f9f5910c66abfe9fb69958a1f9eda9e9ba3740006e3bb2dc"), looks := true }, kinds := [], alts := [], laidByText := true, laidKinds := [.data, .data, .data], laidTests := true, laidLooks := .later }
def NumTextsUptoCardSaid : Prop := Claim7.holds Tryz.pinned (.plain (OpenSpec.upto numTextsSpec)) numTextsUptoCard

/-- THE SECOND FORM's CARD OF 'glossatorlaw07.NumValues'. -/
def numValuesUptoCard : Claim7 := { stood := { row := numValuesUptoRow, standIns := [], harness := (true, "81bf39f7dd9b25f0f9f5910c66abfe9fb69958a1f9eda9e9ba3740006e3bb2dc"), looks := true }, kinds := [], alts := [], laidByText := true, laidKinds := [.data, .data, .data, .sentinel, .sentinel], laidTests := true, laidLooks := .later }
def NumValuesUptoCardSaid : Prop := Claim7.holds Tryz.pinned (.plain (OpenSpec.upto numValuesSpec)) numValuesUptoCard

/-- THE SECOND FORM's CARD OF 'glossatorlaw07.NumBack'. -/
def numBackUptoCard : Claim7 := { stood := { row := numBackUptoRow, standIns := [], harness := (true, "81bf39f7dd9b25f0f9f5910c66abfe9fb69958a1f9eda9e9ba3740006e3bb2dc"), looks := true }, kinds := [], alts := [], laidByText := true, laidKinds := [.data, .data, .data, .sentinel, .sentinel], laidTests := true, laidLooks := .later }
def NumBackUptoCardSaid : Prop := Claim7.holds Tryz.pinned (.plain (OpenSpec.upto numBackSpec)) numBackUptoCard
end Rows
end Go.Proofs.YtffncomekbfihaaGreatDoor
