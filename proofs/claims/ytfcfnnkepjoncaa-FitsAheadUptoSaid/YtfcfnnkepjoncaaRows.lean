/-
  NARROWER THAN 'FOR EVERY INPUT', by the rows' own cells (each row's printed sentence says how): FitsWithin: loops · FitsAll: loops · FitsAhead: loops.
  DERIVED. THE GIVEN ROWS OF THIS SEAT. 8 by the template 'for every input the law returns true; each argument reads behind the call as it read before'; 0 by the template 'total and deterministic' (their statements: YtfcfnnkepjoncaaTotals.lean).
  GIVEN WITH THE SEED: the statements are not yours to turn. If you find one false, say at which input.
  Laid BY PROGRAM, IN A SANDBOX (cutbox-rows.mjs): the forced cells as the released guide's own fill.sh prints them over the translation 432f7c6883ec90a3… (all of the seat's roots in one cut). By AI agents, Wed Nov 11 2026. No macro, syntax, notation, axiom, sorry.
-/
import Derived.Test.YtfcfnnkepjoncaaChecked
import GoSem.Claim
import GoSem.ClaimJoined
import GoSem.ClaimMapViews
import Derived.JoinedTies
import Derived.KernelRfl
namespace Go.Proofs.Ytfcfnnkepjoncaa
/- THE CELL 'sum', in the pinned program and in every row, IS THE sha256 OF THE DUMP (.gsa) THAT YtfcfnnkepjoncaaProg.lean LOADS. Nothing in Lean hashes anything: it is a label: what it is worth is what the hold of that sum in a sandbox is worth. -/
noncomputable def Try.pinned : Pinned := { name := "ytfcfnnkepjoncaa", sum := "432f7c6883ec90a3133e6cf807be173d38e4cbce47c4746f29460c8c6052c627", checked := Try.checked }
namespace Rows
def none {H : Type} : Left H := { results := [], args := [] }

/-- 'glossatorlaw04.BaseEncodes': WHATEVER THE INPUT: true; the input reads as it did. -/
def baseEncodesSpec : ChangeSpec := { name := "baseEncodes", fn := fun _ => fun
  | [d1, d2, d3] => { results := [.lit (.bool true)], args := [d1, d2, d3] }
  | _ => none }
def baseEncodesRow : OpenClaim := { program := "ytfcfnnkepjoncaa", sum := "432f7c6883ec90a3133e6cf807be173d38e4cbce47c4746f29460c8c6052c627", func := "glossator/glossatorlaw04.BaseEncodes", spec := "baseEncodes", unfollowed := true, recurses := true, apart := false }
def BaseEncodesSaid : Prop := baseEncodesRow.holds Try.pinned (OpenSpec.ofChange baseEncodesSpec)

/-- ITS FALSE NEIGHBOUR: 'it returns false'. Refute it at one input. -/
def baseEncodesWrong : ChangeSpec := { name := "baseEncodes", fn := fun _ => fun
  | [d1, d2, d3] => { results := [.lit (.bool false)], args := [d1, d2, d3] }
  | _ => none }
def BaseEncodesWrongFalsely : Prop := baseEncodesRow.holds Try.pinned (OpenSpec.ofChange baseEncodesWrong)

/-- 'glossatorlaw04.BaseLetters': WHATEVER THE INPUT: true; the input reads as it did. -/
def baseLettersSpec : ChangeSpec := { name := "baseLetters", fn := fun _ => fun
  | [d] => { results := [.lit (.bool true)], args := [d] }
  | _ => none }
def baseLettersRow : OpenClaim := { program := "ytfcfnnkepjoncaa", sum := "432f7c6883ec90a3133e6cf807be173d38e4cbce47c4746f29460c8c6052c627", func := "glossator/glossatorlaw04.BaseLetters", spec := "baseLetters", unfollowed := true, recurses := true, apart := false }
def BaseLettersSaid : Prop := baseLettersRow.holds Try.pinned (OpenSpec.ofChange baseLettersSpec)

/-- ITS FALSE NEIGHBOUR: 'it returns false'. Refute it at one input. -/
def baseLettersWrong : ChangeSpec := { name := "baseLetters", fn := fun _ => fun
  | [d] => { results := [.lit (.bool false)], args := [d] }
  | _ => none }
def BaseLettersWrongFalsely : Prop := baseLettersRow.holds Try.pinned (OpenSpec.ofChange baseLettersWrong)

/-- 'glossatorlaw04.BaseJoins': WHATEVER THE INPUT: true; the input reads as it did. -/
def baseJoinsSpec : ChangeSpec := { name := "baseJoins", fn := fun _ => fun
  | [d1, d2, d3] => { results := [.lit (.bool true)], args := [d1, d2, d3] }
  | _ => none }
def baseJoinsRow : OpenClaim := { program := "ytfcfnnkepjoncaa", sum := "432f7c6883ec90a3133e6cf807be173d38e4cbce47c4746f29460c8c6052c627", func := "glossator/glossatorlaw04.BaseJoins", spec := "baseJoins", unfollowed := true, recurses := true, apart := false }
def BaseJoinsSaid : Prop := baseJoinsRow.holds Try.pinned (OpenSpec.ofChange baseJoinsSpec)

/-- ITS FALSE NEIGHBOUR: 'it returns false'. Refute it at one input. -/
def baseJoinsWrong : ChangeSpec := { name := "baseJoins", fn := fun _ => fun
  | [d1, d2, d3] => { results := [.lit (.bool false)], args := [d1, d2, d3] }
  | _ => none }
def BaseJoinsWrongFalsely : Prop := baseJoinsRow.holds Try.pinned (OpenSpec.ofChange baseJoinsWrong)

/-- 'glossatorlaw07.NumScans': WHATEVER THE INPUT: true; the input reads as it did. -/
def numScansSpec : ChangeSpec := { name := "numScans", fn := fun _ => fun
  | [d] => { results := [.lit (.bool true)], args := [d] }
  | _ => none }
def numScansRow : OpenClaim := { program := "ytfcfnnkepjoncaa", sum := "432f7c6883ec90a3133e6cf807be173d38e4cbce47c4746f29460c8c6052c627", func := "glossator/glossatorlaw07.NumScans", spec := "numScans", unfollowed := true, recurses := true, apart := false }
def NumScansSaid : Prop := numScansRow.holds Try.pinned (OpenSpec.ofChange numScansSpec)

/-- ITS FALSE NEIGHBOUR: 'it returns false'. Refute it at one input. -/
def numScansWrong : ChangeSpec := { name := "numScans", fn := fun _ => fun
  | [d] => { results := [.lit (.bool false)], args := [d] }
  | _ => none }
def NumScansWrongFalsely : Prop := numScansRow.holds Try.pinned (OpenSpec.ofChange numScansWrong)

/-- 'glossatorlaw07.NumFirst': WHATEVER THE INPUT: true; the input reads as it did. -/
def numFirstSpec : ChangeSpec := { name := "numFirst", fn := fun _ => fun
  | [d1, d2] => { results := [.lit (.bool true)], args := [d1, d2] }
  | _ => none }
def numFirstRow : OpenClaim := { program := "ytfcfnnkepjoncaa", sum := "432f7c6883ec90a3133e6cf807be173d38e4cbce47c4746f29460c8c6052c627", func := "glossator/glossatorlaw07.NumFirst", spec := "numFirst", unfollowed := true, recurses := true, apart := false }
def NumFirstSaid : Prop := numFirstRow.holds Try.pinned (OpenSpec.ofChange numFirstSpec)

/-- ITS FALSE NEIGHBOUR: 'it returns false'. Refute it at one input. -/
def numFirstWrong : ChangeSpec := { name := "numFirst", fn := fun _ => fun
  | [d1, d2] => { results := [.lit (.bool false)], args := [d1, d2] }
  | _ => none }
def NumFirstWrongFalsely : Prop := numFirstRow.holds Try.pinned (OpenSpec.ofChange numFirstWrong)

/-- 'glossatorlaw17.FitsWithin': WHATEVER THE INPUT: true; the input reads as it did. -/
def fitsWithinSpec : ChangeSpec := { name := "fitsWithin", fn := fun _ => fun
  | [d1, d2] => { results := [.lit (.bool true)], args := [d1, d2] }
  | _ => none }
def fitsWithinRow : OpenClaim := { program := "ytfcfnnkepjoncaa", sum := "432f7c6883ec90a3133e6cf807be173d38e4cbce47c4746f29460c8c6052c627", func := "glossator/glossatorlaw17.FitsWithin", spec := "fitsWithin", unfollowed := true, recurses := true, loops := true, apart := false }
def FitsWithinSaid : Prop := fitsWithinRow.holds Try.pinned (OpenSpec.ofChange fitsWithinSpec)

/-- ITS FALSE NEIGHBOUR: 'it returns false'. Refute it at one input. -/
def fitsWithinWrong : ChangeSpec := { name := "fitsWithin", fn := fun _ => fun
  | [d1, d2] => { results := [.lit (.bool false)], args := [d1, d2] }
  | _ => none }
def FitsWithinWrongFalsely : Prop := fitsWithinRow.holds Try.pinned (OpenSpec.ofChange fitsWithinWrong)

/-- 'glossatorlaw17.FitsAll': WHATEVER THE INPUT: true; the input reads as it did. -/
def fitsAllSpec : ChangeSpec := { name := "fitsAll", fn := fun _ => fun
  | [d] => { results := [.lit (.bool true)], args := [d] }
  | _ => none }
def fitsAllRow : OpenClaim := { program := "ytfcfnnkepjoncaa", sum := "432f7c6883ec90a3133e6cf807be173d38e4cbce47c4746f29460c8c6052c627", func := "glossator/glossatorlaw17.FitsAll", spec := "fitsAll", unfollowed := true, recurses := true, loops := true, apart := false }
def FitsAllSaid : Prop := fitsAllRow.holds Try.pinned (OpenSpec.ofChange fitsAllSpec)

/-- ITS FALSE NEIGHBOUR: 'it returns false'. Refute it at one input. -/
def fitsAllWrong : ChangeSpec := { name := "fitsAll", fn := fun _ => fun
  | [d] => { results := [.lit (.bool false)], args := [d] }
  | _ => none }
def FitsAllWrongFalsely : Prop := fitsAllRow.holds Try.pinned (OpenSpec.ofChange fitsAllWrong)

/-- 'glossatorlaw17.FitsAhead': WHATEVER THE INPUT: true; the input reads as it did. -/
def fitsAheadSpec : ChangeSpec := { name := "fitsAhead", fn := fun _ => fun
  | [d1, d2] => { results := [.lit (.bool true)], args := [d1, d2] }
  | _ => none }
def fitsAheadRow : OpenClaim := { program := "ytfcfnnkepjoncaa", sum := "432f7c6883ec90a3133e6cf807be173d38e4cbce47c4746f29460c8c6052c627", func := "glossator/glossatorlaw17.FitsAhead", spec := "fitsAhead", unfollowed := true, recurses := true, loops := true, apart := false }
def FitsAheadSaid : Prop := fitsAheadRow.holds Try.pinned (OpenSpec.ofChange fitsAheadSpec)

/-- ITS FALSE NEIGHBOUR: 'it returns false'. Refute it at one input. -/
def fitsAheadWrong : ChangeSpec := { name := "fitsAhead", fn := fun _ => fun
  | [d1, d2] => { results := [.lit (.bool false)], args := [d1, d2] }
  | _ => none }
def FitsAheadWrongFalsely : Prop := fitsAheadRow.holds Try.pinned (OpenSpec.ofChange fitsAheadWrong)

/- THE SECOND FORM. 'bulk': how many values and letters a reading holds, each counted each time it is reached (what is shared counts as often as it is met; a slice's spare places count too). A statement '..UptoSaid' is the law's where the arguments, and the package variables that the reading takes, are together of bulk at most 1048576: NARROWER than '..Said'. Prove '..Said' where nothing that the law and all that it calls make is longer than what came in: it says more and counts as full. Else prove '..UptoSaid'. A law counts once. -/
mutual
def uptoBulk {H : Type} : DataW H → Nat
  | .lit (.string bytes) => bytes.length + 1
  | .lit _ => 1
  | .nil => 1
  | .ptr d => uptoBulk d + 1
  | .slice elems spare => uptoBulkAll elems + uptoBulkAll spare + 1
  | .agg parts => uptoBulkAll parts + 1
  | .iface _ d => uptoBulk d + 1
  | .map entries => uptoBulkEntries entries + 1
  | .held _ => 1
def uptoBulkAll {H : Type} : List (DataW H) → Nat
  | [] => 0
  | d :: r => uptoBulk d + uptoBulkAll r
def uptoBulkEntries {H : Type} : List (Lit × DataW H) → Nat
  | [] => 0
  | x :: r => uptoBulkEntry x + uptoBulkEntries r
def uptoBulkEntry {H : Type} : Lit × DataW H → Nat
  | (.string bytes, d) => bytes.length + uptoBulk d + 1
  | (_, d) => uptoBulk d + 1
 end
def uptoSmall : (H : Type) → List (DataW H) → Bool := fun _ ds => decide (uptoBulkAll ds ≤ 1048576)
def OpenSpec.upto (s : _root_.Go.ChangeSpec) : _root_.Go.OpenSpec := { _root_.Go.OpenSpec.ofChange s with cond := some uptoSmall }

/-- 'glossatorlaw04.BaseEncodes', WHERE WHAT IT READS IS OF BULK AT MOST 1048576: true; the input reads as it did. -/
def baseEncodesUptoRow : OpenClaim := { program := "ytfcfnnkepjoncaa", sum := "432f7c6883ec90a3133e6cf807be173d38e4cbce47c4746f29460c8c6052c627", func := "glossator/glossatorlaw04.BaseEncodes", spec := "baseEncodes", unfollowed := true, recurses := true, apart := false, narrowed := true }
def BaseEncodesUptoSaid : Prop := baseEncodesUptoRow.holds Try.pinned (OpenSpec.upto baseEncodesSpec)

/-- 'glossatorlaw04.BaseLetters', WHERE WHAT IT READS IS OF BULK AT MOST 1048576: true; the input reads as it did. -/
def baseLettersUptoRow : OpenClaim := { program := "ytfcfnnkepjoncaa", sum := "432f7c6883ec90a3133e6cf807be173d38e4cbce47c4746f29460c8c6052c627", func := "glossator/glossatorlaw04.BaseLetters", spec := "baseLetters", unfollowed := true, recurses := true, apart := false, narrowed := true }
def BaseLettersUptoSaid : Prop := baseLettersUptoRow.holds Try.pinned (OpenSpec.upto baseLettersSpec)

/-- 'glossatorlaw04.BaseJoins', WHERE WHAT IT READS IS OF BULK AT MOST 1048576: true; the input reads as it did. -/
def baseJoinsUptoRow : OpenClaim := { program := "ytfcfnnkepjoncaa", sum := "432f7c6883ec90a3133e6cf807be173d38e4cbce47c4746f29460c8c6052c627", func := "glossator/glossatorlaw04.BaseJoins", spec := "baseJoins", unfollowed := true, recurses := true, apart := false, narrowed := true }
def BaseJoinsUptoSaid : Prop := baseJoinsUptoRow.holds Try.pinned (OpenSpec.upto baseJoinsSpec)

/-- 'glossatorlaw07.NumScans', WHERE WHAT IT READS IS OF BULK AT MOST 1048576: true; the input reads as it did. -/
def numScansUptoRow : OpenClaim := { program := "ytfcfnnkepjoncaa", sum := "432f7c6883ec90a3133e6cf807be173d38e4cbce47c4746f29460c8c6052c627", func := "glossator/glossatorlaw07.NumScans", spec := "numScans", unfollowed := true, recurses := true, apart := false, narrowed := true }
def NumScansUptoSaid : Prop := numScansUptoRow.holds Try.pinned (OpenSpec.upto numScansSpec)

/-- 'glossatorlaw07.NumFirst', WHERE WHAT IT READS IS OF BULK AT MOST 1048576: true; the input reads as it did. -/
def numFirstUptoRow : OpenClaim := { program := "ytfcfnnkepjoncaa", sum := "432f7c6883ec90a3133e6cf807be173d38e4cbce47c4746f29460c8c6052c627", func := "glossator/glossatorlaw07.NumFirst", spec := "numFirst", unfollowed := true, recurses := true, apart := false, narrowed := true }
def NumFirstUptoSaid : Prop := numFirstUptoRow.holds Try.pinned (OpenSpec.upto numFirstSpec)

/-- 'glossatorlaw17.FitsWithin', WHERE WHAT IT READS IS OF BULK AT MOST 1048576: true; the input reads as it did. -/
def fitsWithinUptoRow : OpenClaim := { program := "ytfcfnnkepjoncaa", sum := "432f7c6883ec90a3133e6cf807be173d38e4cbce47c4746f29460c8c6052c627", func := "glossator/glossatorlaw17.FitsWithin", spec := "fitsWithin", unfollowed := true, recurses := true, loops := true, apart := false, narrowed := true }
def FitsWithinUptoSaid : Prop := fitsWithinUptoRow.holds Try.pinned (OpenSpec.upto fitsWithinSpec)

/-- 'glossatorlaw17.FitsAll', WHERE WHAT IT READS IS OF BULK AT MOST 1048576: true; the input reads as it did. -/
def fitsAllUptoRow : OpenClaim := { program := "ytfcfnnkepjoncaa", sum := "432f7c6883ec90a3133e6cf807be173d38e4cbce47c4746f29460c8c6052c627", func := "glossator/glossatorlaw17.FitsAll", spec := "fitsAll", unfollowed := true, recurses := true, loops := true, apart := false, narrowed := true }
def FitsAllUptoSaid : Prop := fitsAllUptoRow.holds Try.pinned (OpenSpec.upto fitsAllSpec)

/-- 'glossatorlaw17.FitsAhead', WHERE WHAT IT READS IS OF BULK AT MOST 1048576: true; the input reads as it did. -/
def fitsAheadUptoRow : OpenClaim := { program := "ytfcfnnkepjoncaa", sum := "432f7c6883ec90a3133e6cf807be173d38e4cbce47c4746f29460c8c6052c627", func := "glossator/glossatorlaw17.FitsAhead", spec := "fitsAhead", unfollowed := true, recurses := true, loops := true, apart := false, narrowed := true }
def FitsAheadUptoSaid : Prop := fitsAheadUptoRow.holds Try.pinned (OpenSpec.upto fitsAheadSpec)

end Rows
end Go.Proofs.Ytfcfnnkepjoncaa
