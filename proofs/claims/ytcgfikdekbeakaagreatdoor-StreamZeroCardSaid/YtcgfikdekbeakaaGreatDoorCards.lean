/-
  DERIVED. GIVEN WITH THE SEED: THE CARDS: each row of YtcgfikdekbeakaaGreatDoorRows.lean that lists a variable, with what it lists TIED to the program's text (the seventh form; the later family's looks); each row that meets fmt, with fmt's text TOLD by the authors' own Lean function (tested against real Go, not proved from fmt's source: count such statements apart). THE CARD IS WHAT COUNTS. Prove the row's statement (the work); the ties are given (YtcgfikdekbeakaaGreatDoorTie.lean); close each card by the builder's one call (the guide's Derived/Test/ToyasCard.lean, 'card_holds'). Laid BY PROGRAM, IN A SANDBOX (cutbox-door.mjs). By AI agents, Wed Nov 11 2026. No macro, syntax, notation, axiom, sorry.
-/
import Derived.Test.YtcgfikdekbeakaaGreatDoorRows
import GoSem.ClaimSeven
namespace Go.Proofs.YtcgfikdekbeakaaGreatDoor
namespace Rows

/-- THE TIED CARD OF 'glossatorlaw21.StreamZero'. -/
def streamZeroCard : Claim7 := { stood := { row := streamZeroRow, standIns := [], harness := (true, "991bedcf435c660becd24a87a4440f4e1aa894d4ca97f0c371c904bb7cbf8d8f"), looks := true }, kinds := [], alts := [], laidByText := true, laidKinds := [.data, .data, .data], laidTests := true, laidLooks := .later }
def StreamZeroCardSaid : Prop := Claim7.holds Tryz.pinned (.plain (OpenSpec.ofChange streamZeroSpec)) streamZeroCard

/-- THE SECOND FORM's CARD OF 'glossatorlaw21.StreamZero'. -/
def streamZeroUptoCard : Claim7 := { stood := { row := streamZeroUptoRow, standIns := [], harness := (true, "991bedcf435c660becd24a87a4440f4e1aa894d4ca97f0c371c904bb7cbf8d8f"), looks := true }, kinds := [], alts := [], laidByText := true, laidKinds := [.data, .data, .data], laidTests := true, laidLooks := .later }
def StreamZeroUptoCardSaid : Prop := Claim7.holds Tryz.pinned (.plain (OpenSpec.upto streamZeroSpec)) streamZeroUptoCard
end Rows
end Go.Proofs.YtcgfikdekbeakaaGreatDoor
