/- fbits.Exact. -/
import Derived.Test.YtffncomekbfihaaGreatDoorFbits
namespace Go.Proofs.YtffncomekbfihaaGreatDoor.Nat
open Go.RowKit Go.Shelf
set_option linter.unusedVariables false
/-- a float's exponent, and its fraction -/
def fe (b : Nat) : Nat := b / 4503599627370496 % 2048
def ff (b : Nat) : Nat := b % 4503599627370496
/-- what Exact says: the number, and the power of two -/
def exM (b : Nat) : Nat := if fe b = 0 then ff b else 4503599627370496 + ff b
def exX (b : Nat) : Int := if fe b = 0 then -1074 else (fe b : Int) - 1075
def fsg (b : Nat) : Bool := decide (b / 9223372036854775808 = 1)
theorem or_hidden {f : Nat} (h : f < 4503599627370496) : Go.bits BinOp.or IntKind.u64 (f : Int) 4503599627370496 = ((4503599627370496 + f : Nat) : Int) := by
  have h1 := (bits_nat .u64 64 (by decide) (fun n h0 h1 => by rw [IntKind.wrap_u64]; omega) f 4503599627370496 (by omega) (by decide)).2
  have h2 : f ||| 4503599627370496 = 4503599627370496 + f := by
    rw [Nat.or_comm]
    have h3 := Nat.two_pow_add_eq_or_of_lt (i := 52) (b := f) (by exact h) 1
    exact h3.symm
  rw [h2] at h1
  exact h1
theorem results_tmp4 {fn : Func} {t u v x : Tmp} (h : fn.results = #[.tmp t, .tmp u, .tmp v, .tmp x]) (tmps : Array Value) (P : Program) (w : World) : (results fn tmps).run P w = .ok (.tuple #[tmps.getD t undef, tmps.getD u undef, tmps.getD v undef, tmps.getD x undef]) w := by simp [results, h]
theorem idx_w3 (W : World) : (Instr.index 91 (.agg #[.int .i64 16, .int .i64 5, .int .i64 10, .int .i64 32, .int .i64 8, .int .i64 23, .int .i64 64, .int .i64 11, .int .i64 52]) (.int .i64 2)).run Tryz.prog W = .ok (.agg #[.int .i64 64, .int .i64 11, .int .i64 52]) W := by kernel_rfl
set_option maxHeartbeats 8000000 in
set_option maxRecDepth 100000 in
theorem exact_calls (b : Nat) (w : World) (hb : b < 18446744073709551616) : Calls Tryz.prog 19 #[.int .u64 (b : Int)] w fun e w' => e = .returned (if fe b = 2047 then .tuple #[.bool false, .int .u64 0, .int .i64 0, .bool false] else .tuple #[.bool (fsg b), .int .u64 (exM b : Nat), .int .i64 (exX b), .bool true]) ∧ Below w.heap.size w w' := by
  have k1 := fun w => widths_calls w
  have ki := idx_w3
  have k2 := fun w => split_calls b w hb
  have k3 := fun w => class_calls (fsg b) (fe b) (ff b) w
  have hff : ff b < 4503599627370496 := Nat.mod_lt _ (by decide)
  have hfe : fe b < 2048 := Nat.mod_lt _ (by decide)
  unfold w3 at k1
  unfold w64 at k2 k3
  have k2' : ∀ w, Calls Tryz.prog 50 #[.agg #[.int .i64 64, .int .i64 11, .int .i64 52], .int .u64 (b : Int)] w fun e w' => e = .returned (.agg #[.bool (fsg b), .int .i64 (fe b : Nat), .int .u64 (ff b : Nat)]) ∧ Below w.heap.size w w' := k2
  clear k2
  unfold exM exX
  generalize fsg b = s at *
  generalize fe b = x at *
  generalize ff b = f at *
  by_cases h1 : x = 2047
  · rw [if_pos h1]
    rw [if_pos h1] at k3
    clear h1
    by_cases h2 : f = 0
    · rw [if_pos h2] at k3
      clear h2
      go_enter Tryz.func19, Tryz.ntmps19
      go_wp2_with (first
        | (go_at_call 49; (with_reducible refine (k1 _).mono ?_); clear k1; rintro e1 w1 ⟨rfl, hb1⟩)
        | (go_at_call 50; (with_reducible refine (k2' _).mono ?_); clear k2'; rintro e2 w2 ⟨rfl, hb2⟩; have hx2 := bk_alloc (bk_below (heap_alloc_new w1 _) hb2) (.cells #[.bool s, .int .i64 (x : Int), .int .u64 (f : Int)] 94); have hy2 := heap_alloc_new w2 (.cells #[.bool s, .int .i64 (x : Int), .int .u64 (f : Int)] 94); have c0 := (cell_of_row _ w1.heap.size 0 _ _ (0, 0) hx2).trans rfl; have c1 := (cell_of_row _ w1.heap.size 1 _ _ (0, 0) hx2).trans rfl; have c2 := (cell_of_row _ w1.heap.size 2 _ _ (0, 0) hx2).trans rfl)
        | (go_at_call 51; (with_reducible refine (k3 _).mono ?_); clear k3; rintro e3 w4 ⟨rfl, hb3⟩; have hy4 := bk_below hy2 hb3; have hbE := below_step (below_step (below_step hb1 (below_alloc w1 _)) hb2) (below_step (below_alloc w2 _) hb3); have d0 := (cell_of_row _ w2.heap.size 0 _ _ (0, 0) hy4).trans rfl; have d1 := (cell_of_row _ w2.heap.size 1 _ _ (0, 0) hy4).trans rfl; have d2 := (cell_of_row _ w2.heap.size 2 _ _ (0, 0) hy4).trans rfl; have f1 := frozen_of_row w4 w2.heap.size 1 _ _ hy4; have f2 := frozen_of_row w4 w2.heap.size 2 _ _ hy4; clear c0 c1 c2))
      exact bodyPost_ret (results_tmp4 Tryz.results19 _ _ _) rfl ⟨rfl, hbE⟩
    · rw [if_neg h2] at k3
      clear h2
      go_enter Tryz.func19, Tryz.ntmps19
      go_wp2_with (first
        | (go_at_call 49; (with_reducible refine (k1 _).mono ?_); clear k1; rintro e1 w1 ⟨rfl, hb1⟩)
        | (go_at_call 50; (with_reducible refine (k2' _).mono ?_); clear k2'; rintro e2 w2 ⟨rfl, hb2⟩; have hx2 := bk_alloc (bk_below (heap_alloc_new w1 _) hb2) (.cells #[.bool s, .int .i64 (x : Int), .int .u64 (f : Int)] 94); have hy2 := heap_alloc_new w2 (.cells #[.bool s, .int .i64 (x : Int), .int .u64 (f : Int)] 94); have c0 := (cell_of_row _ w1.heap.size 0 _ _ (0, 0) hx2).trans rfl; have c1 := (cell_of_row _ w1.heap.size 1 _ _ (0, 0) hx2).trans rfl; have c2 := (cell_of_row _ w1.heap.size 2 _ _ (0, 0) hx2).trans rfl)
        | (go_at_call 51; (with_reducible refine (k3 _).mono ?_); clear k3; rintro e3 w4 ⟨rfl, hb3⟩; have hy4 := bk_below hy2 hb3; have hbE := below_step (below_step (below_step hb1 (below_alloc w1 _)) hb2) (below_step (below_alloc w2 _) hb3); have d0 := (cell_of_row _ w2.heap.size 0 _ _ (0, 0) hy4).trans rfl; have d1 := (cell_of_row _ w2.heap.size 1 _ _ (0, 0) hy4).trans rfl; have d2 := (cell_of_row _ w2.heap.size 2 _ _ (0, 0) hy4).trans rfl; have f1 := frozen_of_row w4 w2.heap.size 1 _ _ hy4; have f2 := frozen_of_row w4 w2.heap.size 2 _ _ hy4; clear c0 c1 c2))
      exact bodyPost_ret (results_tmp4 Tryz.results19 _ _ _) rfl ⟨rfl, hbE⟩
  · rw [if_neg h1]
    rw [if_neg h1] at k3
    clear h1
    by_cases h3 : x = 0
    · rw [if_pos h3, if_pos h3]
      rw [if_pos h3] at k3
      have H3 : Hid _ := Lib.hid h3
      clear h3
      have hx2 : (x : Int) < 2048 := by omega
      have q1 : IntKind.i64.wrap ((x : Int) - 1023) = (x : Int) - 1023 := by rw [IntKind.wrap_i64]; omega
      have q2 : IntKind.i64.wrap ((x : Int) - 1023 - 52) = (x : Int) - 1023 - 52 := by rw [IntKind.wrap_i64]; omega
      have q3 : IntKind.i64.wrap ((x : Int) - 1023 - 52 + 1) = (x : Int) - 1023 - 52 + 1 := by rw [IntKind.wrap_i64]; omega
      by_cases h2 : f = 0
      · rw [if_pos h2] at k3
        clear h2
        go_enter Tryz.func19, Tryz.ntmps19
        go_wp2_with (first
          | (go_at_call 49; (with_reducible refine (k1 _).mono ?_); clear k1; rintro e1 w1 ⟨rfl, hb1⟩)
          | (go_at_call 50; (with_reducible refine (k2' _).mono ?_); clear k2'; rintro e2 w2 ⟨rfl, hb2⟩; have hx2 := bk_alloc (bk_below (heap_alloc_new w1 _) hb2) (.cells #[.bool s, .int .i64 (x : Int), .int .u64 (f : Int)] 94); have hy2 := heap_alloc_new w2 (.cells #[.bool s, .int .i64 (x : Int), .int .u64 (f : Int)] 94); have c0 := (cell_of_row _ w1.heap.size 0 _ _ (0, 0) hx2).trans rfl; have c1 := (cell_of_row _ w1.heap.size 1 _ _ (0, 0) hx2).trans rfl; have c2 := (cell_of_row _ w1.heap.size 2 _ _ (0, 0) hx2).trans rfl)
          | (go_at_call 51; (with_reducible refine (k3 _).mono ?_); clear k3; rintro e3 w4 ⟨rfl, hb3⟩; have hy4 := bk_below hy2 hb3; have hbE := below_step (below_step (below_step hb1 (below_alloc w1 _)) hb2) (below_step (below_alloc w2 _) hb3); have d0 := (cell_of_row _ w2.heap.size 0 _ _ (0, 0) hy4).trans rfl; have d1 := (cell_of_row _ w2.heap.size 1 _ _ (0, 0) hy4).trans rfl; have d2 := (cell_of_row _ w2.heap.size 2 _ _ (0, 0) hy4).trans rfl; have f1 := frozen_of_row w4 w2.heap.size 1 _ _ hy4; have f2 := frozen_of_row w4 w2.heap.size 2 _ _ hy4; clear c0 c1 c2))
        go_quiet (fail)
        go_wp2_with fail
        exact bodyPost_ret (results_tmp4 Tryz.results19 _ _ _) rfl ⟨congrArg (fun z => Ending.returned (.tuple #[.bool s, .int .u64 (f : Int), .int .i64 z, .bool true])) (by have := H3.out; omega), below_dr hbE _⟩
      · rw [if_neg h2] at k3
        clear h2
        go_enter Tryz.func19, Tryz.ntmps19
        go_wp2_with (first
          | (go_at_call 49; (with_reducible refine (k1 _).mono ?_); clear k1; rintro e1 w1 ⟨rfl, hb1⟩)
          | (go_at_call 50; (with_reducible refine (k2' _).mono ?_); clear k2'; rintro e2 w2 ⟨rfl, hb2⟩; have hx2 := bk_alloc (bk_below (heap_alloc_new w1 _) hb2) (.cells #[.bool s, .int .i64 (x : Int), .int .u64 (f : Int)] 94); have hy2 := heap_alloc_new w2 (.cells #[.bool s, .int .i64 (x : Int), .int .u64 (f : Int)] 94); have c0 := (cell_of_row _ w1.heap.size 0 _ _ (0, 0) hx2).trans rfl; have c1 := (cell_of_row _ w1.heap.size 1 _ _ (0, 0) hx2).trans rfl; have c2 := (cell_of_row _ w1.heap.size 2 _ _ (0, 0) hx2).trans rfl)
          | (go_at_call 51; (with_reducible refine (k3 _).mono ?_); clear k3; rintro e3 w4 ⟨rfl, hb3⟩; have hy4 := bk_below hy2 hb3; have hbE := below_step (below_step (below_step hb1 (below_alloc w1 _)) hb2) (below_step (below_alloc w2 _) hb3); have d0 := (cell_of_row _ w2.heap.size 0 _ _ (0, 0) hy4).trans rfl; have d1 := (cell_of_row _ w2.heap.size 1 _ _ (0, 0) hy4).trans rfl; have d2 := (cell_of_row _ w2.heap.size 2 _ _ (0, 0) hy4).trans rfl; have f1 := frozen_of_row w4 w2.heap.size 1 _ _ hy4; have f2 := frozen_of_row w4 w2.heap.size 2 _ _ hy4; clear c0 c1 c2))
        go_quiet (fail)
        go_wp2_with fail
        exact bodyPost_ret (results_tmp4 Tryz.results19 _ _ _) rfl ⟨congrArg (fun z => Ending.returned (.tuple #[.bool s, .int .u64 (f : Int), .int .i64 z, .bool true])) (by have := H3.out; omega), below_dr hbE _⟩
    · rw [if_neg h3, if_neg h3]
      rw [if_neg h3] at k3
      have ho := or_hidden hff
      have hx2 : (x : Int) < 2048 := by omega
      obtain ⟨y, hy⟩ : ∃ y, (x : Int) - 1 = y := ⟨_, rfl⟩
      have q0 : IntKind.i64.wrap y = y := by rw [IntKind.wrap_i64]; omega
      have q1 : IntKind.i64.wrap (y - 1023) = y - 1023 := by rw [IntKind.wrap_i64]; omega
      have q2 : IntKind.i64.wrap (y - 1023 - 52) = y - 1023 - 52 := by rw [IntKind.wrap_i64]; omega
      have q3 : IntKind.i64.wrap (y - 1023 - 52 + 1) = y - 1023 - 52 + 1 := by rw [IntKind.wrap_i64]; omega
      go_enter Tryz.func19, Tryz.ntmps19
      go_wp2_with (first
        | (go_at_call 49; (with_reducible refine (k1 _).mono ?_); clear k1; rintro e1 w1 ⟨rfl, hb1⟩)
        | (go_at_call 50; (with_reducible refine (k2' _).mono ?_); clear k2'; rintro e2 w2 ⟨rfl, hb2⟩; have hx2 := bk_alloc (bk_below (heap_alloc_new w1 _) hb2) (.cells #[.bool s, .int .i64 (x : Int), .int .u64 (f : Int)] 94); have hy2 := heap_alloc_new w2 (.cells #[.bool s, .int .i64 (x : Int), .int .u64 (f : Int)] 94); have c0 := (cell_of_row _ w1.heap.size 0 _ _ (0, 0) hx2).trans rfl; have c1 := (cell_of_row _ w1.heap.size 1 _ _ (0, 0) hx2).trans rfl; have c2 := (cell_of_row _ w1.heap.size 2 _ _ (0, 0) hx2).trans rfl)
        | (go_at_call 51; (with_reducible refine (k3 _).mono ?_); clear k3; rintro e3 w4 ⟨rfl, hb3⟩; have hy4 := bk_below hy2 hb3; have hbE := below_step (below_step (below_step hb1 (below_alloc w1 _)) hb2) (below_step (below_alloc w2 _) hb3); have d0 := (cell_of_row _ w2.heap.size 0 _ _ (0, 0) hy4).trans rfl; have d1 := (cell_of_row _ w2.heap.size 1 _ _ (0, 0) hy4).trans rfl; have d2 := (cell_of_row _ w2.heap.size 2 _ _ (0, 0) hy4).trans rfl; have f1 := frozen_of_row w4 w2.heap.size 1 _ _ hy4; have f2 := frozen_of_row w4 w2.heap.size 2 _ _ hy4; clear c0 c1 c2))
      go_quiet (fail)
      go_wp2_with fail
      have hle : w.heap.size ≤ w2.heap.size := by
        have h1 := hb1.size
        have h2 := hb2.size
        rw [World.size_alloc] at h2
        omega
      exact bodyPost_ret (results_tmp4 Tryz.results19 _ _ _) rfl ⟨congrArg (fun z => Ending.returned (.tuple #[.bool s, .int .u64 ((4503599627370496 + f : Nat) : Int), .int .i64 z, .bool true])) (by omega), below_dr ((hbE.setCell (p := ⟨w2.heap.size, 2, none⟩) hle _).setCell (p := ⟨w2.heap.size, 1, none⟩) hle _) _⟩
end Go.Proofs.YtffncomekbfihaaGreatDoor.Nat
