/-
  No cell of these rows narrows 'for every input' (looked for: loops, veiled, ifaces, maps, wideKeys, modest, calm, conditions, laid).
  DERIVED. THE GIVEN ROWS OF THIS SEAT. 2 by the template 'for every input the law returns true; each argument reads behind the call as it read before'; 0 by the template 'total and deterministic' (their statements: YtffncomekbfihaaTotals.lean).
  GIVEN WITH THE SEED: the statements are not yours to turn. If you find one false, say at which input.
  Laid BY PROGRAM, IN A SANDBOX (cutbox-rows.mjs): the forced cells as the released guide's own fill.sh prints them over the translation a3af49719dbb770e… (all of the seat's roots in one cut). By AI agents, Wed Nov 11 2026. No macro, syntax, notation, axiom, sorry.
-/
import Derived.Test.YtffncomekbfihaaChecked
import GoSem.Claim
import GoSem.ClaimJoined
import GoSem.ClaimMapViews
import Derived.JoinedTies
import Derived.KernelRfl
namespace Go.Proofs.Ytffncomekbfihaa
/- THE CELL 'sum', in the pinned program and in every row, IS THE sha256 OF THE DUMP (.gsa) THAT YtffncomekbfihaaProg.lean LOADS. Nothing in Lean hashes anything: it is a label: what it is worth is what the hold of that sum in a sandbox is worth. -/
noncomputable def Try.pinned : Pinned := { name := "ytffncomekbfihaa", sum := "a3af49719dbb770e340e33fdaaf054929737421f6edfbd42d22678cedd3c77ab", checked := Try.checked }
namespace Rows
def none {H : Type} : Left H := { results := [], args := [] }

/-- 'glossatorlaw06.FdecOrder': WHATEVER THE INPUT: true; the input reads as it did. -/
def fdecOrderSpec : ChangeSpec := { name := "fdecOrder", fn := fun _ => fun
  | [d1, d2] => { results := [.lit (.bool true)], args := [d1, d2] }
  | _ => none }
def fdecOrderRow : OpenClaim := { program := "ytffncomekbfihaa", sum := "a3af49719dbb770e340e33fdaaf054929737421f6edfbd42d22678cedd3c77ab", func := "glossator/glossatorlaw06.FdecOrder", spec := "fdecOrder", recurses := true, named := ["math/bits.overflowError"], apart := false }
def FdecOrderSaid : Prop := fdecOrderRow.holds Try.pinned (OpenSpec.ofChange fdecOrderSpec)

/-- ITS FALSE NEIGHBOUR: 'it returns false'. Refute it at one input. -/
def fdecOrderWrong : ChangeSpec := { name := "fdecOrder", fn := fun _ => fun
  | [d1, d2] => { results := [.lit (.bool false)], args := [d1, d2] }
  | _ => none }
def FdecOrderWrongFalsely : Prop := fdecOrderRow.holds Try.pinned (OpenSpec.ofChange fdecOrderWrong)

/-- 'glossatorlaw06.FdecFewest': WHATEVER THE INPUT: true; the input reads as it did. -/
def fdecFewestSpec : ChangeSpec := { name := "fdecFewest", fn := fun _ => fun
  | [d] => { results := [.lit (.bool true)], args := [d] }
  | _ => none }
def fdecFewestRow : OpenClaim := { program := "ytffncomekbfihaa", sum := "a3af49719dbb770e340e33fdaaf054929737421f6edfbd42d22678cedd3c77ab", func := "glossator/glossatorlaw06.FdecFewest", spec := "fdecFewest", recurses := true, named := ["math/bits.overflowError"], apart := false }
def FdecFewestSaid : Prop := fdecFewestRow.holds Try.pinned (OpenSpec.ofChange fdecFewestSpec)

/-- ITS FALSE NEIGHBOUR: 'it returns false'. Refute it at one input. -/
def fdecFewestWrong : ChangeSpec := { name := "fdecFewest", fn := fun _ => fun
  | [d] => { results := [.lit (.bool false)], args := [d] }
  | _ => none }
def FdecFewestWrongFalsely : Prop := fdecFewestRow.holds Try.pinned (OpenSpec.ofChange fdecFewestWrong)

/- THE SECOND FORM. 'bulk': how many values and letters a reading holds, each counted each time it is reached (what is shared counts as often as it is met; a slice's spare places count too). A statement '..UptoSaid' is the law's where the arguments, and the package variables that the reading takes, are together of bulk at most 1048576: NARROWER than '..Said'. Prove '..Said' where nothing that the law and all that it calls make is longer than what came in: it says more and counts as full. Else prove '..UptoSaid'. A law counts once. -/
mutual
def uptoBulk {H : Type} : DataW H → Nat
  | .lit (.string bytes) => bytes.length + 1
  | .lit _ => 1
  | .nil => 1
  | .ptr d => uptoBulk d + 1
  | .slice elems spare => uptoBulkAll elems + uptoBulkAll spare + 1
  | .agg parts => uptoBulkAll parts + 1
  | .iface _ d => uptoBulk d + 1
  | .map entries => uptoBulkEntries entries + 1
  | .held _ => 1
def uptoBulkAll {H : Type} : List (DataW H) → Nat
  | [] => 0
  | d :: r => uptoBulk d + uptoBulkAll r
def uptoBulkEntries {H : Type} : List (Lit × DataW H) → Nat
  | [] => 0
  | x :: r => uptoBulkEntry x + uptoBulkEntries r
def uptoBulkEntry {H : Type} : Lit × DataW H → Nat
  | (.string bytes, d) => bytes.length + uptoBulk d + 1
  | (_, d) => uptoBulk d + 1
 end
def uptoSmall : (H : Type) → List (DataW H) → Bool := fun _ ds => decide (uptoBulkAll ds ≤ 1048576)
def OpenSpec.upto (s : _root_.Go.ChangeSpec) : _root_.Go.OpenSpec := { _root_.Go.OpenSpec.ofChange s with cond := some uptoSmall }

/-- 'glossatorlaw06.FdecOrder', WHERE WHAT IT READS IS OF BULK AT MOST 1048576: true; the input reads as it did. -/
def fdecOrderUptoRow : OpenClaim := { program := "ytffncomekbfihaa", sum := "a3af49719dbb770e340e33fdaaf054929737421f6edfbd42d22678cedd3c77ab", func := "glossator/glossatorlaw06.FdecOrder", spec := "fdecOrder", recurses := true, named := ["math/bits.overflowError"], apart := false, narrowed := true }
def FdecOrderUptoSaid : Prop := fdecOrderUptoRow.holds Try.pinned (OpenSpec.upto fdecOrderSpec)

/-- 'glossatorlaw06.FdecFewest', WHERE WHAT IT READS IS OF BULK AT MOST 1048576: true; the input reads as it did. -/
def fdecFewestUptoRow : OpenClaim := { program := "ytffncomekbfihaa", sum := "a3af49719dbb770e340e33fdaaf054929737421f6edfbd42d22678cedd3c77ab", func := "glossator/glossatorlaw06.FdecFewest", spec := "fdecFewest", recurses := true, named := ["math/bits.overflowError"], apart := false, narrowed := true }
def FdecFewestUptoSaid : Prop := fdecFewestUptoRow.holds Try.pinned (OpenSpec.upto fdecFewestSpec)

end Rows
end Go.Proofs.Ytffncomekbfihaa
