/- glossatorlaw06.awake. -/
import Derived.Test.YtffncomekbfihaaGreatDoorMore
namespace Go.Proofs.YtffncomekbfihaaGreatDoor.Nat
open Go.RowKit Go.Shelf
set_option linter.unusedVariables false
theorem near_one : near 1 1 = 4607182418800017408 := by decide +kernel
theorem rnd_one : rnd false (bts ⟨#[49]⟩) 0 = (4607182418800017408, 0) := by
  have hd : dval (bts ⟨#[49]⟩) = 1 := by decide +kernel
  unfold rnd
  rw [if_neg (by decide +kernel), if_neg (by decide +kernel), if_neg (by decide +kernel), if_neg (by decide), hd, if_neg (by decide), show 1 * tp 0 = 1 from rfl, show tp (-0) = 1 from rfl, near_one]
  rfl
set_option maxHeartbeats 8000000 in
theorem awake_calls (w : World) : Calls Tryz.prog 11 #[] w fun e w' => e = .returned (.bool true) ∧ Below w.heap.size w w' := by
  have k1 : Calls Tryz.prog 25 #[.bool false, .string ⟨#[49]⟩, .int .i64 0] w fun e w' => e = .returned (.tuple #[.int .u64 4607182418800017408, .int .i64 0]) ∧ Below w.heap.size w w' := by
    have h := round_calls false ⟨#[49]⟩ 0 w
    rw [rnd_one] at h
    exact h
  go_enter Tryz.func11, Tryz.ntmps11
  go_wp2_with (go_at_call 25; (with_reducible refine k1.mono ?_); clear k1; rintro e1 w1 ⟨rfl, hb1⟩)
  go_ret
  exact ⟨rfl, hb1⟩
end Go.Proofs.YtffncomekbfihaaGreatDoor.Nat
