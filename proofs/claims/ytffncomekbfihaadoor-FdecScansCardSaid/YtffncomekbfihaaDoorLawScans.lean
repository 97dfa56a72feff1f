/- glossatorlaw06.FdecScans. -/
import Derived.Test.YtffncomekbfihaaDoorRef10
import Derived.Test.YtffncomekbfihaaDoorAwake
namespace Go.Proofs.YtffncomekbfihaaDoor.Nat
open Go.RowKit Go.Shelf
set_option linter.unusedVariables false
theorem rnd_err (neg : Bool) (L : List Nat) (e : Int) : (rnd neg L e).2 ≤ 8 := by
  unfold rnd
  repeat' split
  all_goals simp
theorem sc_err (s : List Nat) : (sc s).2 ≤ 8 := by
  unfold sc scT
  repeat' split
  all_goals first | exact rnd_err _ _ _ | simp
set_option maxHeartbeats 8000000 in
set_option maxRecDepth 100000 in
theorem scans_calls (s : ByteArray) (w : World) (hs : s.size ≤ 9223372036854775807) :
    Calls Tryd.prog 4 #[.string s] w fun e w' => e = .returned (.bool true) ∧ Below w.heap.size w w' := by
  have ka := fun W => awake_calls W
  have k1 := fun W => scan_calls s W hs
  have k2 := fun W => scan_ref s W hs
  have he := sc_err (bts s)
  unfold rndV at k1 k2
  generalize sc (bts s) = R at *
  obtain ⟨a, b⟩ := R
  simp only at k1 k2 he
  have hwb : IntKind.i64.wrap (b : Int) = (b : Int) := by rw [IntKind.wrap_i64]; omega
  clear he
  go_enter Tryd.func4, Tryd.ntmps4
  go_wp2_with (first | (go_at_call 10; (with_reducible refine (k1 _).mono ?_); clear k1; rintro e1 w1 ⟨rfl, hb1⟩) | (go_at_call 11; (with_reducible refine (k2 _).mono ?_); clear k2; rintro e2 w2 ⟨rfl, hb2⟩) | (go_at_call 8; (with_reducible refine (ka _).mono ?_); clear ka; rintro e3 w3 ⟨rfl, hb3⟩))
  go_ret
  exact ⟨by simp, below_step (below_step hb1 hb2) hb3⟩
theorem scans_calls_s (s : ByteArray) (w : World) (hs : s.size ≤ maxLen) :
    Calls Tryd.prog 4 #[.string s] w fun e w' => e = .returned (.bool true) ∧ Below w.heap.size w w' :=
  scans_calls s w (by unfold maxLen at hs; omega)
end Go.Proofs.YtffncomekbfihaaDoor.Nat
