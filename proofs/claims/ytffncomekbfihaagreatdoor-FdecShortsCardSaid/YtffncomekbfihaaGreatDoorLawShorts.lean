/- glossatorlaw06.FdecShorts. -/
import Derived.Test.YtffncomekbfihaaGreatDoorRef16
import Derived.Test.YtffncomekbfihaaGreatDoorAwake
namespace Go.Proofs.YtffncomekbfihaaGreatDoor.Nat
open Go.RowKit Go.Shelf
set_option linter.unusedVariables false
theorem text_bad (x : Nat) (w : World) (hx : x < 18446744073709551616) (h : fe x = 2047) :
    Calls Tryz.prog 9 #[.int .u64 (x : Int)] w fun e w' => e = .returned (.tuple #[.string ⟨#[]⟩, .int .i64 1]) ∧ Below w.heap.size w w' := by
  have k1 := shortest_bad x w hx h
  clear h
  go_enter Tryz.func9, Tryz.ntmps9
  go_wp2_with (go_at_call 7; (with_reducible refine k1.mono ?_); clear k1; rintro e1 w1 ⟨rfl, hb1⟩)
  go_ret2
  exact ⟨rfl, hb1⟩
theorem rtext_bad (x : Nat) (w : World) (hx : x < 18446744073709551616) (h : fe x = 2047) :
    Calls Tryz.prog 10 #[.int .u64 (x : Int)] w fun e w' => e = .returned (.tuple #[.string ⟨#[]⟩, .int .i64 1]) ∧ Below w.heap.size w w' := by
  have k1 := rshortest_bad x w hx h
  clear h
  go_enter Tryz.func10, Tryz.ntmps10
  go_wp2_with (go_at_call 8; (with_reducible refine k1.mono ?_); clear k1; rintro e1 w1 ⟨rfl, hb1⟩)
  go_ret2
  exact ⟨rfl, hb1⟩
set_option maxHeartbeats 8000000 in
set_option maxRecDepth 100000 in
theorem shorts_calls (x : Nat) (w : World) (hx : x < 18446744073709551616) (T : Lib.TabIs Tryz.prog w "internal/strconv.uint64pow10" .u64 Lib.pow10Tab) :
    Calls Tryz.prog 3 #[.int .u64 (x : Int)] w fun e w' => e = .returned (.bool true) ∧ Below w.heap.size w w' := by
  have ka := fun W => awake_calls W
  by_cases h : fe x = 2047
  · have k1 := fun W => shortest_bad x W hx h
    have k2 := fun W => rshortest_bad x W hx h
    have k3 := fun W => text_bad x W hx h
    have k4 := fun W => rtext_bad x W hx h
    clear h T
    go_enter Tryz.func3, Tryz.ntmps3
    go_wp2_with (first
      | (go_at_call 7; (with_reducible refine (k1 _).mono ?_); clear k1; rintro e1 w1 ⟨rfl, hb1⟩)
      | (go_at_call 8; (with_reducible refine (k2 _).mono ?_); clear k2; rintro e2 w2 ⟨rfl, hb2⟩)
      | (go_at_call 9; (with_reducible refine (k3 _).mono ?_); clear k3; rintro e3 w3 ⟨rfl, hb3⟩)
      | (go_at_call 10; (with_reducible refine (k4 _).mono ?_); clear k4; rintro e4 w4 ⟨rfl, hb4⟩)
      | (go_at_call 11; (with_reducible refine (ka _).mono ?_); clear ka; rintro e5 w5 ⟨rfl, hb5⟩))
    go_ret
    exact ⟨rfl, below_step (below_step (below_step (below_step hb1 hb2) hb3) hb4) hb5⟩
  · have k1 := fun W => short_any x W hx h
    have k2 := fun W => rshort_any x W hx h
    have k3 := fun W (hb : Below w.heap.size w W) => text_calls x W hx h (Lib.tabBelow_of_tabIs T W hb)
    have k4 := fun W => rtext_calls x W hx h
    clear h T
    go_enter Tryz.func3, Tryz.ntmps3
    go_wp2_with (first
      | (go_at_call 7; (with_reducible refine (k1 _).mono ?_); clear k1; rintro e1 w1 ⟨s1, x1, rfl, hd1, hb1⟩)
      | (go_at_call 8; (with_reducible refine (k2 _).mono ?_); clear k2; rintro e2 w2 ⟨s2, x2, rfl, hd2, hb2⟩; obtain ⟨q1, q2⟩ := digs_uniq hd1 hd2; obtain rfl := bts_inj q1; subst q2; clear hd2 q1; have hbA := below_step hb1 hb2)
      | (go_at_call 9; (with_reducible refine (k3 _ hbA).mono ?_); clear k3; rintro e3 w3 ⟨S3, d3, y3, rfl, hS3, hd3, hb3⟩; have hbB := below_step hbA hb3)
      | (go_at_call 10; (with_reducible refine (k4 _).mono ?_); clear k4; rintro e4 w4 ⟨S4, d4, y4, rfl, hS4, hd4, hb4⟩; obtain ⟨q3, q4⟩ := digs_uniq hd3 hd4; subst q3; subst q4; obtain rfl := bts_inj (hS3.trans hS4.symm); clear hd4 hS4; have hbC := below_step hbB hb4)
      | (go_at_call 11; (with_reducible refine (ka _).mono ?_); clear ka; rintro e5 w5 ⟨rfl, hb5⟩))
    go_ret
    exact ⟨by simp, below_step hbC hb5⟩
theorem shorts_calls_i (a : Int) (w : World) (ha : (Lit.int .u64 a).wf = true) (T : Lib.TabIs Tryz.prog w "internal/strconv.uint64pow10" .u64 Lib.pow10Tab) :
    Calls Tryz.prog 3 #[.int .u64 a] w fun e w' => e = .returned (.bool true) ∧ Below w.heap.size w w' := by
  have h1 : IntKind.u64.min = 0 := by decide
  have h2 : IntKind.u64.max = 18446744073709551615 := by decide
  simp [Lit.wf] at ha
  obtain ⟨n, rfl⟩ : ∃ n : Nat, a = n := ⟨a.toNat, by omega⟩
  exact shorts_calls n w (by omega) T
end Go.Proofs.YtffncomekbfihaaGreatDoor.Nat
