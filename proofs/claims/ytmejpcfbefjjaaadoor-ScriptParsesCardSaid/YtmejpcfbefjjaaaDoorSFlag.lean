/- (*script.Job).flag, (*glossatorref22.Job).one: a line of one word. -/
import Derived.Test.YtmejpcfbefjjaaaDoorSPick
namespace Go.Proofs.YtmejpcfbefjjaaaDoor.Scr
open Go.RowKit
set_option linter.unusedVariables false
set_option linter.unusedSimpArgs false
def jobCells (j : Job) (ch : Value) : Array Value := #[.int .i64 j.frm, .int .i64 j.too, .int .i64 j.mode, .int .i64 j.depth, .int .i64 j.size, .bool j.once, .bool j.opn, .int .i64 j.indent, .bool j.srt, ch]
/-- a job in a block -/
def JB (w : World) (T : TypeId) (J : Nat) (j : Job) (ch : Value) : Prop := w.heap[J]? = some (.cells (jobCells j ch) T (0, 0))
theorem JB.set {w : World} {T : TypeId} {J : Nat} {j : Job} {ch : Value} (h : JB w T J j ch) (i : Nat) (v : Value) {j' : Job} {ch' : Value} (e : (jobCells j ch).setIfInBounds i v = jobCells j' ch') : JB (w.setCell ⟨J, i, none⟩ v) T J j' ch' := by
  unfold JB at h ⊢
  rw [heap_setCell_same w J i _ T v h, e]
theorem JB.cell {w : World} {T : TypeId} {J : Nat} {j : Job} {ch : Value} (h : JB w T J j ch) (i : Nat) : w.cell? ⟨J, i, none⟩ = (jobCells j ch)[i]? := cell_of_row w J i _ T (0, 0) h
theorem JB.free {w : World} {T : TypeId} {J : Nat} {j : Job} {ch : Value} (h : JB w T J j ch) (i : Nat) : w.frozen? ⟨J, i, none⟩ = false := frozen_of_row w J i _ T h
theorem JB.lt {w : World} {T : TypeId} {J : Nat} {j : Job} {ch : Value} (h : JB w T J j ch) : J < w.heap.size := (Array.getElem?_eq_some_iff.1 h).1
/-- what a line of one word does -/
def FlagPost (T : TypeId) (J : Nat) (j : Job) (ch : Value) (s : ByteArray) (w : World) (e : Ending) (w' : World) : Prop :=
  (flagV j s = none ∧ e = .returned (.bool false) ∧ w' = w) ∨ ∃ j' i, flagV j s = some j' ∧ e = .returned (.bool true) ∧ JB w' T J j' ch ∧ j'.chunks = j.chunks ∧ w' = w.setCell ⟨J, i, none⟩ (.bool true)

set_option maxRecDepth 100000 in
set_option maxHeartbeats 8000000 in
theorem flag_calls (J : Nat) (j : Job) (ch : Value) (s : ByteArray) (w : World) (h : JB w 28 J j ch) : Calls Tryd.prog 15 #[.pointer (some ⟨J, 0, none⟩), .string s] w (FlagPost 28 J j ch s w) := by
  have f0 := h.free
  have c0 := h.cell
  by_cases h1 : s = wOnce
  · subst h1
    go_enter Tryd.func15, Tryd.ntmps15
    have c5 : w.cell? ⟨J, 5, none⟩ = some (.bool j.once) := c0 5
    go_wp2
    go_ret
    exact .inr ⟨{ j with once := true }, 5, rfl, rfl, h.set 5 _ rfl, rfl, rfl⟩
  by_cases h2 : s = wOpen
  · subst h2
    go_enter Tryd.func15, Tryd.ntmps15
    have c5 : w.cell? ⟨J, 6, none⟩ = some (.bool j.opn) := c0 6
    go_wp2
    go_ret
    exact .inr ⟨{ j with opn := true }, 6, rfl, rfl, h.set 6 _ rfl, rfl, rfl⟩
  by_cases h3 : s = wSort
  · subst h3
    go_enter Tryd.func15, Tryd.ntmps15
    have c5 : w.cell? ⟨J, 8, none⟩ = some (.bool j.srt) := c0 8
    go_wp2
    go_ret
    exact .inr ⟨{ j with srt := true }, 8, rfl, rfl, h.set 8 _ rfl, rfl, rfl⟩
  have hv : flagV j s = none := by unfold flagV; rw [if_neg h1, if_neg h2, if_neg h3]
  have b1 := (tl_f s _).2 h1
  have b2 := (tl_f s _).2 h2
  have b3 := (tl_f s _).2 h3
  go_enter Tryd.func15, Tryd.ntmps15
  go_wp2
  go_ret
  exact .inl ⟨hv, rfl, rfl⟩

set_option maxRecDepth 100000 in
set_option maxHeartbeats 8000000 in
theorem one_calls (J : Nat) (j : Job) (ch : Value) (s : ByteArray) (w : World) (h : JB w 32 J j ch) : Calls Tryd.prog 11 #[.pointer (some ⟨J, 0, none⟩), .string s] w (FlagPost 32 J j ch s w) := by
  have f0 := h.free
  have c0 := h.cell
  by_cases h1 : s = wOnce
  · subst h1
    go_enter Tryd.func11, Tryd.ntmps11
    have c5 : w.cell? ⟨J, 5, none⟩ = some (.bool j.once) := c0 5
    go_wp2
    go_ret
    exact .inr ⟨{ j with once := true }, 5, rfl, rfl, h.set 5 _ rfl, rfl, rfl⟩
  by_cases h2 : s = wOpen
  · subst h2
    go_enter Tryd.func11, Tryd.ntmps11
    have c5 : w.cell? ⟨J, 6, none⟩ = some (.bool j.opn) := c0 6
    go_wp2
    go_ret
    exact .inr ⟨{ j with opn := true }, 6, rfl, rfl, h.set 6 _ rfl, rfl, rfl⟩
  by_cases h3 : s = wSort
  · subst h3
    go_enter Tryd.func11, Tryd.ntmps11
    have c5 : w.cell? ⟨J, 8, none⟩ = some (.bool j.srt) := c0 8
    go_wp2
    go_ret
    exact .inr ⟨{ j with srt := true }, 8, rfl, rfl, h.set 8 _ rfl, rfl, rfl⟩
  have hv : flagV j s = none := by unfold flagV; rw [if_neg h1, if_neg h2, if_neg h3]
  have b1 := (tl_f s _).2 h1
  have b2 := (tl_f s _).2 h2
  have b3 := (tl_f s _).2 h3
  go_enter Tryd.func11, Tryd.ntmps11
  go_wp2
  go_ret
  exact .inl ⟨hv, rfl, rfl⟩
end Go.Proofs.YtmejpcfbefjjaaaDoor.Scr
