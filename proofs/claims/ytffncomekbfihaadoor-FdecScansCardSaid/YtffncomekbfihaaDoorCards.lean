/-
  DERIVED. GIVEN WITH THE SEED: THE CARDS: each row of YtffncomekbfihaaDoorRows.lean that lists a variable, with what it lists TIED to the program's text (the seventh form; the later family's looks); each row that meets fmt, with fmt's text TOLD by the authors' own Lean function (tested against real Go, not proved from fmt's source: count such statements apart). THE CARD IS WHAT COUNTS. Prove the row's statement (the work); the ties are given (YtffncomekbfihaaDoorTie.lean); close each card by the builder's one call (the guide's Derived/Test/ToyasCard.lean, 'card_holds'). Laid BY PROGRAM, IN A SANDBOX (cutbox-door.mjs). By AI agents, Wed Nov 11 2026. No macro, syntax, notation, axiom, sorry.
-/
import Derived.Test.YtffncomekbfihaaDoorRows
import GoSem.ClaimSeven
namespace Go.Proofs.YtffncomekbfihaaDoor
namespace Rows

/-- THE TIED CARD OF 'glossatorlaw06.FdecWhole'. -/
def fdecWholeCard : Claim7 := { stood := { row := fdecWholeRow, standIns := [], harness := (true, "4512c21ff3d801a6ea433b196319c9b4f7942e07339d9e041aaa8d5d6207f603"), looks := true }, kinds := [], alts := [], laidByText := true, laidKinds := [.data], laidTests := true, laidLooks := .later }
def FdecWholeCardSaid : Prop := Claim7.holds Tryd.pinned (.plain (OpenSpec.ofChange fdecWholeSpec)) fdecWholeCard

/-- THE TIED CARD OF 'glossatorlaw06.FdecScans'. -/
def fdecScansCard : Claim7 := { stood := { row := fdecScansRow, standIns := [], harness := (true, "4512c21ff3d801a6ea433b196319c9b4f7942e07339d9e041aaa8d5d6207f603"), looks := true }, kinds := [], alts := [], laidByText := true, laidKinds := [.data, .data, .data, .sentinel, .sentinel], laidTests := true, laidLooks := .later }
def FdecScansCardSaid : Prop := Claim7.holds Tryd.pinned (.plain (OpenSpec.ofChange fdecScansSpec)) fdecScansCard

/-- THE TIED CARD OF 'glossatorlaw07.NumWhole'. -/
def numWholeCard : Claim7 := { stood := { row := numWholeRow, standIns := [], harness := (true, "4512c21ff3d801a6ea433b196319c9b4f7942e07339d9e041aaa8d5d6207f603"), looks := true }, kinds := [], alts := [], laidByText := true, laidKinds := [.data, .data, .data, .sentinel, .sentinel], laidTests := true, laidLooks := .later }
def NumWholeCardSaid : Prop := Claim7.holds Tryd.pinned (.plain (OpenSpec.ofChange numWholeSpec)) numWholeCard

/-- THE TIED CARD OF 'glossatorlaw06.FdecBack'. -/
def fdecBackCard : Claim7 := { stood := { row := fdecBackRow, standIns := [], harness := (true, "4512c21ff3d801a6ea433b196319c9b4f7942e07339d9e041aaa8d5d6207f603"), looks := true }, kinds := [], alts := [], laidByText := true, laidKinds := [.data, .data, .data, .sentinel, .sentinel], laidTests := true, laidLooks := .later }
def FdecBackCardSaid : Prop := Claim7.holds Tryd.pinned (.plain (OpenSpec.ofChange fdecBackSpec)) fdecBackCard

/-- THE SECOND FORM's CARD OF 'glossatorlaw06.FdecWhole'. -/
def fdecWholeUptoCard : Claim7 := { stood := { row := fdecWholeUptoRow, standIns := [], harness := (true, "4512c21ff3d801a6ea433b196319c9b4f7942e07339d9e041aaa8d5d6207f603"), looks := true }, kinds := [], alts := [], laidByText := true, laidKinds := [.data], laidTests := true, laidLooks := .later }
def FdecWholeUptoCardSaid : Prop := Claim7.holds Tryd.pinned (.plain (OpenSpec.upto fdecWholeSpec)) fdecWholeUptoCard

/-- THE SECOND FORM's CARD OF 'glossatorlaw06.FdecScans'. -/
def fdecScansUptoCard : Claim7 := { stood := { row := fdecScansUptoRow, standIns := [], harness := (true, "4512c21ff3d801a6ea433b196319c9b4f7942e07339d9e041aaa8d5d6207f603"), looks := true }, kinds := [], alts := [], laidByText := true, laidKinds := [.data, .data, .data, .sentinel, .sentinel], laidTests := true, laidLooks := .later }
def FdecScansUptoCardSaid : Prop := Claim7.holds Tryd.pinned (.plain (OpenSpec.upto fdecScansSpec)) fdecScansUptoCard

/-- THE SECOND FORM's CARD OF 'glossatorlaw07.NumWhole'. -/
def numWholeUptoCard : Claim7 := { stood := { row := numWholeUptoRow, standIns := [], harness := (true, "4512c21ff3d801a6ea433b196319c9b4f7942e07339d9e041aaa8d5d6207f603"), looks := true }, kinds := [], alts := [], laidByText := true, laidKinds := [.data, .data, .data, .sentinel, .sentinel], laidTests := true, laidLooks := .later }
def NumWholeUptoCardSaid : Prop := Claim7.holds Tryd.pinned (.plain (OpenSpec.upto numWholeSpec)) numWholeUptoCard

/-- THE SECOND FORM's CARD OF 'glossatorlaw06.FdecBack'. -/
def fdecBackUptoCard : Claim7 := { stood := { row := fdecBackUptoRow, standIns := [], harness := (true, "4512c21ff3d801a6ea433b196319c9b4f7942e07339d9e041aaa8d5d6207f603"), looks := true }, kinds := [], alts := [], laidByText := true, laidKinds := [.data, .data, .data, .sentinel, .sentinel], laidTests := true, laidLooks := .later }
def FdecBackUptoCardSaid : Prop := Claim7.holds Tryd.pinned (.plain (OpenSpec.upto fdecBackSpec)) fdecBackUptoCard
end Rows
end Go.Proofs.YtffncomekbfihaaDoor
