/- The contracts of the feed that nobody made (walks over the nil pointer and the zero struct). -/
import Derived.Test.YtcgfikdekbeakaaProg
import Derived.Below
import Derived.OwnWalk
import Derived.Tactics
import Derived.WalkKit
import Derived.KernelRfl
import Derived.Deep.QuietTactic
import Derived.BigQuiet
import Derived.Maps.AppendAt
namespace Go.Proofs.Ytcgfikdekbeakaa.Zero
open Go.RowKit
set_option linter.unusedVariables false
set_option linter.unusedSimpArgs false
theorem may_nil (w : World) : Calls Try.prog 8 #[.pointer none] w fun e w' => e = .returned (.int .i64 7) ∧ w = w' := by
  go_enter Try.func8, Try.ntmps8
  go_wp2
  go_ret
  exact ⟨rfl, rfl⟩
theorem may_zero (w : World) (b : Nat) (h : w.cell? ⟨b, 0, none⟩ = some .nilIface) : Calls Try.prog 8 #[.pointer (some ⟨b, 0, none⟩)] w fun e w' => e = .returned (.int .i64 7) ∧ w = w' := by
  go_enter Try.func8, Try.ntmps8
  go_wp2
  go_ret
  exact ⟨rfl, rfl⟩
theorem write_nil (w : World) (v : Value) : Calls Try.prog 4 #[.pointer none, v] w fun e w' => e = .returned (.tuple #[.slice none 0 0, .int .i64 7]) ∧ w = w' := by
  go_enter Try.func4, Try.ntmps4
  go_wp2_with (go_at_call 8; refine (may_nil _).mono ?_; rintro e w' ⟨rfl, rfl⟩)
  go_ret2
  exact ⟨rfl, rfl⟩
theorem write_zero (w : World) (v : Value) (b : Nat) (h : w.cell? ⟨b, 0, none⟩ = some .nilIface) : Calls Try.prog 4 #[.pointer (some ⟨b, 0, none⟩), v] w fun e w' => e = .returned (.tuple #[.slice none 0 0, .int .i64 7]) ∧ w = w' := by
  go_enter Try.func4, Try.ntmps4
  go_wp2_with (go_at_call 8; refine (may_zero _ b h).mono ?_; rintro e w' ⟨rfl, rfl⟩)
  go_ret2
  exact ⟨rfl, rfl⟩
theorem close_nil (w : World) : Calls Try.prog 5 #[.pointer none] w fun e w' => e = .returned (.tuple #[.slice none 0 0, .int .i64 7]) ∧ w = w' := by
  go_enter Try.func5, Try.ntmps5
  go_wp2_with (go_at_call 8; refine (may_nil _).mono ?_; rintro e w' ⟨rfl, rfl⟩)
  go_ret2
  exact ⟨rfl, rfl⟩
theorem close_zero (w : World) (b : Nat) (h : w.cell? ⟨b, 0, none⟩ = some .nilIface) : Calls Try.prog 5 #[.pointer (some ⟨b, 0, none⟩)] w fun e w' => e = .returned (.tuple #[.slice none 0 0, .int .i64 7]) ∧ w = w' := by
  go_enter Try.func5, Try.ntmps5
  go_wp2_with (go_at_call 8; refine (may_zero _ b h).mono ?_; rintro e w' ⟨rfl, rfl⟩)
  go_ret2
  exact ⟨rfl, rfl⟩
theorem at_nil (w : World) : Calls Try.prog 6 #[.pointer none] w fun e w' => e = .returned (.int .i64 0) ∧ w = w' := by
  go_enter Try.func6, Try.ntmps6
  go_wp2
  go_ret
  exact ⟨rfl, rfl⟩
theorem at_zero (w : World) (b : Nat) (h : w.cell? ⟨b, 7, none⟩ = some (.pointer none)) (h2 : w.cell? ⟨b, 4, none⟩ = some (.slice none 0 0)) : Calls Try.prog 6 #[.pointer (some ⟨b, 0, none⟩)] w fun e w' => e = .returned (.int .i64 0) ∧ w = w' := by
  go_enter Try.func6, Try.ntmps6
  go_wp2
  go_ret
  exact ⟨rfl, rfl⟩
theorem done_nil (w : World) : Calls Try.prog 7 #[.pointer none] w fun e w' => e = .returned (.bool false) ∧ w = w' := by
  go_enter Try.func7, Try.ntmps7
  go_wp2
  go_ret
  exact ⟨rfl, rfl⟩
theorem done_zero (w : World) (b : Nat) (h : w.cell? ⟨b, 6, none⟩ = some (.bool false)) : Calls Try.prog 7 #[.pointer (some ⟨b, 0, none⟩)] w fun e w' => e = .returned (.bool false) ∧ w = w' := by
  go_enter Try.func7, Try.ntmps7
  go_wp2
  go_ret
  exact ⟨rfl, rfl⟩
set_option maxHeartbeats 4000000 in
theorem walk (v : Value) (w : World) : Calls Try.prog 3 #[v] w fun e w' => e = .returned (.bool true) ∧ Below w.heap.size w w' := by
  go_enter Try.func3, Try.ntmps3
  go_wp2_with (first
    | (go_at_call 4; first | ((with_reducible refine (write_nil _ _).mono ?_); rintro e w' ⟨rfl, rfl⟩) | ((with_reducible refine (write_zero _ _ _ (by simp)).mono ?_); rintro e w' ⟨rfl, rfl⟩))
    | (go_at_call 5; first | ((with_reducible refine (close_nil _).mono ?_); rintro e w' ⟨rfl, rfl⟩) | ((with_reducible refine (close_zero _ _ (by simp)).mono ?_); rintro e w' ⟨rfl, rfl⟩))
    | (go_at_call 6; first | ((with_reducible refine (at_nil _).mono ?_); rintro e w' ⟨rfl, rfl⟩) | ((with_reducible refine (at_zero _ _ (by simp) (by simp)).mono ?_); rintro e w' ⟨rfl, rfl⟩))
    | (go_at_call 7; first | ((with_reducible refine (done_nil _).mono ?_); rintro e w' ⟨rfl, rfl⟩) | ((with_reducible refine (done_zero _ _ (by simp)).mono ?_); rintro e w' ⟨rfl, rfl⟩)))
  go_ret
  exact ⟨rfl, (Below.refl _ _).alloc (Nat.le_refl _) _⟩
end Go.Proofs.Ytcgfikdekbeakaa.Zero
