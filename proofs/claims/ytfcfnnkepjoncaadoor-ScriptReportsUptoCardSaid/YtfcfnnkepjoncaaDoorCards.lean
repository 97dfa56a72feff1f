/-
  DERIVED. GIVEN WITH THE SEED: THE CARDS: each row of YtfcfnnkepjoncaaDoorRows.lean that lists a variable, with what it lists TIED to the program's text (the seventh form; the later family's looks); each row that meets fmt, with fmt's text TOLD by the authors' own Lean function (tested against real Go, not proved from fmt's source: count such statements apart). THE CARD IS WHAT COUNTS. Prove the row's statement (the work); the ties are given (YtfcfnnkepjoncaaDoorTie.lean); close each card by the builder's one call (the guide's Derived/Test/ToyasCard.lean, 'card_holds'). Laid BY PROGRAM, IN A SANDBOX (cutbox-door.mjs). By AI agents, Wed Nov 11 2026. No macro, syntax, notation, axiom, sorry.
-/
import Derived.Test.YtfcfnnkepjoncaaDoorRows
import GoSem.ClaimSeven
namespace Go.Proofs.YtfcfnnkepjoncaaDoor
namespace Rows

/-- THE TIED CARD OF 'glossatorlaw22.ScriptReports'. -/
def scriptReportsCard : Claim7 := { stood := { row := scriptReportsRow, standIns := [], harness := (true, "d116037f4bca771a2056d4b01ad8de20dea25cdc0c29268b9d98eb05ac8ba73b"), looks := false }, kinds := [], alts := [], laidByText := true, laidKinds := [.data, .data, .data], laidTests := true, laidLooks := .later }
def ScriptReportsCardSaid : Prop := Claim7.holds Tryd.pinned (.plain (OpenSpec.ofChange scriptReportsSpec)) scriptReportsCard

/-- THE SECOND FORM's CARD OF 'glossatorlaw22.ScriptReports'. -/
def scriptReportsUptoCard : Claim7 := { stood := { row := scriptReportsUptoRow, standIns := [], harness := (true, "d116037f4bca771a2056d4b01ad8de20dea25cdc0c29268b9d98eb05ac8ba73b"), looks := false }, kinds := [], alts := [], laidByText := true, laidKinds := [.data, .data, .data], laidTests := true, laidLooks := .later }
def ScriptReportsUptoCardSaid : Prop := Claim7.holds Tryd.pinned (.plain (OpenSpec.upto scriptReportsSpec)) scriptReportsUptoCard
end Rows
end Go.Proofs.YtfcfnnkepjoncaaDoor
