/- fbits.widths, top, split, class, join. -/
import Derived.Test.YtffncomekbfihaaGreatDoorFdec5
import Derived.Deep.RegionHeld
namespace Go.Proofs.YtffncomekbfihaaGreatDoor.Nat
open Go.RowKit Go.Shelf
set_option linter.unusedVariables false
def w3 : Array Value := #[.int .i64 16, .int .i64 5, .int .i64 10, .int .i64 32, .int .i64 8, .int .i64 23, .int .i64 64, .int .i64 11, .int .i64 52]
set_option maxHeartbeats 4000000 in
set_option maxRecDepth 100000 in
theorem widths_calls (w : World) : Calls Tryz.prog 49 #[] w fun e w' => e = .returned (.agg w3) ∧ Below w.heap.size w w' := by
  have hb0 := below_alloc w (.cells w3 91)
  go_enter Tryz.func49, Tryz.ntmps49
  go_wp2
  refine bodyPost_ret (v := .agg w3) (results_cell_row Tryz.results49 _ _ w.heap.size 91 _ (0, 0) _ rfl (heap_alloc_new w _) Tryz.underlying91 rfl (by kernel_rfl)) rfl ⟨rfl, hb0⟩
theorem drew_heap {w : World} {g : Nat} {o : Obj} (h : w.heap[g]? = some o) : w.drew.heap[g]? = some o := h
/-- the widest width -/
def w64 : Value := .agg #[.int .i64 64, .int .i64 11, .int .i64 52]
set_option maxHeartbeats 4000000 in
theorem top_calls (w : World) : Calls Tryz.prog 99 #[w64] w fun e w' => e = .returned (.int .i64 2047) ∧ Below w.heap.size w w' := by
  have hb0 := below_alloc w (.cells #[.int .i64 64, .int .i64 11, .int .i64 52] 90)
  unfold w64
  go_enter Tryz.func99, Tryz.ntmps99
  go_wp2
  go_ret
  exact ⟨rfl, hb0⟩
set_option maxHeartbeats 8000000 in
set_option maxRecDepth 100000 in
theorem split_calls (b : Nat) (w : World) (hb : b < 18446744073709551616) : Calls Tryz.prog 50 #[w64, .int .u64 (b : Int)] w fun e w' => e = .returned (.agg #[.bool (decide (b / 9223372036854775808 = 1)), .int .i64 ((b / 4503599627370496 % 2048 : Nat) : Int), .int .u64 ((b % 4503599627370496 : Nat) : Int)]) ∧ Below w.heap.size w w' := by
  have hbA := (below_alloc w (.cells #[.int .i64 64, .int .i64 11, .int .i64 52] 90)).alloc (by simp) (.cells #[.bool false, .int .i64 0, .int .u64 0] 94)
  have kt := fun w => top_calls w
  unfold w64 at *
  have h63 : IntKind.i64.wrap 63 = 63 := by decide
  have hm1 : IntKind.u64.wrap 4503599627370496 = 4503599627370496 := by decide
  have hm2 : IntKind.u64.wrap 4503599627370495 = 4503599627370495 := by decide
  have hm3 : IntKind.i64.wrap ((b : Int) / 4503599627370496) = (b : Int) / 4503599627370496 := by rw [IntKind.wrap_i64]; omega
  have hm4 : Go.bits BinOp.and IntKind.i64 ((b : Int) / 4503599627370496) 2047 = ((b / 4503599627370496 % 2048 : Nat) : Int) := by
    have h := (bits_nat .i64 63 (by decide) (fun n h0 h1 => by rw [IntKind.wrap_i64]; omega) (b / 4503599627370496) 2047 (by omega) (by decide)).1
    rw [show (2047 : Nat) = 2 ^ 11 - 1 by decide, Nat.and_two_pow_sub_one_eq_mod] at h
    exact h
  have hm5 : Go.bits BinOp.and IntKind.u64 (b : Int) 4503599627370495 = ((b % 4503599627370496 : Nat) : Int) := by
    have h := (bits_nat .u64 64 (by decide) (fun n h0 h1 => by rw [IntKind.wrap_u64]; omega) b 4503599627370495 (by omega) (by decide)).1
    rw [show (4503599627370495 : Nat) = 2 ^ 52 - 1 by decide, Nat.and_two_pow_sub_one_eq_mod] at h
    exact h
  go_enter Tryz.func50, Tryz.ntmps50
  go_wp2_with fail
  have hx0 : ((w.alloc (.cells #[.int .i64 64, .int .i64 11, .int .i64 52] 90)).alloc (.cells #[.bool false, .int .i64 0, .int .u64 0] 94)).heap[w.heap.size]? = some (.cells #[.int .i64 64, .int .i64 11, .int .i64 52] 90 (0, 0)) := bk_alloc (heap_alloc_new w _) _
  have hy0 : ((w.alloc (.cells #[.int .i64 64, .int .i64 11, .int .i64 52] 90)).alloc (.cells #[.bool false, .int .i64 0, .int .u64 0] 94)).heap[w.heap.size + 1]? = some (.cells #[.bool false, .int .i64 0, .int .u64 0] 94 (0, 0)) := by have h := heap_alloc_new (w.alloc (.cells #[.int .i64 64, .int .i64 11, .int .i64 52] 90)) (.cells #[.bool false, .int .i64 0, .int .u64 0] 94); rwa [World.size_alloc] at h
  have hx0d : ((w.alloc (.cells #[.int .i64 64, .int .i64 11, .int .i64 52] 90)).alloc (.cells #[.bool false, .int .i64 0, .int .u64 0] 94)).drew.heap[w.heap.size]? = _ := hx0
  have hy0d : ((w.alloc (.cells #[.int .i64 64, .int .i64 11, .int .i64 52] 90)).alloc (.cells #[.bool false, .int .i64 0, .int .u64 0] 94)).drew.heap[w.heap.size + 1]? = _ := hy0
  have hbAd := hbA.drew
  go_region_held (fun w' => w'.cell? ⟨w.heap.size, 0, none⟩ = some (.int .i64 64) ∧ w'.cell? ⟨w.heap.size, 1, none⟩ = some (.int .i64 11) ∧ w'.cell? ⟨w.heap.size, 2, none⟩ = some (.int .i64 52)) (go_keep) (first
    | (go_simp; go_at_call 99; (with_reducible refine (kt _).mono ?_); rintro e1 w1 ⟨rfl, hb1⟩; (first | (have hx1 := bk_below hx0 hb1) | (have hx1 := bk_below hx0d hb1)); (first | (have hy1 := bk_below hy0 hb1) | (have hy1 := bk_below hy0d hb1)); (first | (have hbC := below_step hbA hb1) | (have hbC := below_step hbAd hb1)); have c0 := (cell_of_row w1 w.heap.size 0 _ _ (0, 0) hx1).trans rfl; have c1 := (cell_of_row w1 w.heap.size 1 _ _ (0, 0) hx1).trans rfl; have c2 := (cell_of_row w1 w.heap.size 2 _ _ (0, 0) hx1).trans rfl; have d0 := (cell_of_row w1 (w.heap.size + 1) 0 _ _ (0, 0) hy1).trans rfl; have d1 := (cell_of_row w1 (w.heap.size + 1) 1 _ _ (0, 0) hy1).trans rfl; have d2 := (cell_of_row w1 (w.heap.size + 1) 2 _ _ (0, 0) hy1).trans rfl; have f0 := frozen_of_row w1 (w.heap.size + 1) 0 _ _ hy1; have f1 := frozen_of_row w1 (w.heap.size + 1) 1 _ _ hy1; have f2 := frozen_of_row w1 (w.heap.size + 1) 2 _ _ hy1))
  have hy2 := bk_set (bk_set (bk_set hy1 0 (.bool ((b : Int) / 9223372036854775808 == 1))) 1 (.int .i64 ((b : Int) / 4503599627370496 % 2048))) 2 (.int .u64 ((b : Int) % 4503599627370496))
  have hs : w.heap.size ≤ w.heap.size + 1 := Nat.le_succ _
  have hbE := ((hbC.setCell (p := ⟨w.heap.size + 1, 0, none⟩) hs (.bool ((b : Int) / 9223372036854775808 == 1))).setCell (p := ⟨w.heap.size + 1, 1, none⟩) hs (.int .i64 ((b : Int) / 4503599627370496 % 2048))).setCell (p := ⟨w.heap.size + 1, 2, none⟩) hs (.int .u64 ((b : Int) % 4503599627370496))
  have he : ((b : Int) / 9223372036854775808 == 1) = decide (b / 9223372036854775808 = 1) := by
    rw [Bool.eq_iff_iff, beq_iff_eq, decide_eq_true_iff]
    omega
  clear c0 c1 c2 d0 d1 d2 f0 f1 f2 hx0 hx0d hy0 hy0d hx1
  go_wp2_with fail
  refine bodyPost_ret (v := .agg #[.bool ((b : Int) / 9223372036854775808 == 1), .int .i64 ((b : Int) / 4503599627370496 % 2048), .int .u64 ((b : Int) % 4503599627370496)]) (results_cell_row Tryz.results50 _ _ (w.heap.size + 1) 94 _ (0, 0) _ rfl hy2 Tryz.underlying94 rfl (by kernel_rfl)) rfl ⟨?_, hbE⟩
  rw [he]
  rfl
set_option maxHeartbeats 8000000 in
set_option maxRecDepth 100000 in
theorem class_int (s : Bool) (x f : Int) (w : World) : Calls Tryz.prog 51 #[w64, .agg #[.bool s, .int .i64 x, .int .u64 f]] w fun e w' => e = .returned (.int .i64 (if x = 2047 then (if f = 0 then 3 else 4) else if x = 0 then (if f = 0 then 0 else 1) else 2)) ∧ Below w.heap.size w w' := by
  have kt := fun w => top_calls w
  unfold w64 at *
  have hb0A := (below_alloc w (.cells #[.int .i64 64, .int .i64 11, .int .i64 52] 90)).alloc (by simp) (.cells #[.bool s, .int .i64 x, .int .u64 f] 94)
  have hx0 : ((w.alloc (.cells #[.int .i64 64, .int .i64 11, .int .i64 52] 90)).alloc (.cells #[.bool s, .int .i64 x, .int .u64 f] 94)).heap[w.heap.size]? = some (.cells #[.int .i64 64, .int .i64 11, .int .i64 52] 90 (0, 0)) := bk_alloc (heap_alloc_new w _) _
  have hy0 : ((w.alloc (.cells #[.int .i64 64, .int .i64 11, .int .i64 52] 90)).alloc (.cells #[.bool s, .int .i64 x, .int .u64 f] 94)).heap[w.heap.size + 1]? = some (.cells #[.bool s, .int .i64 x, .int .u64 f] 94 (0, 0)) := by have h := heap_alloc_new (w.alloc (.cells #[.int .i64 64, .int .i64 11, .int .i64 52] 90)) (.cells #[.bool s, .int .i64 x, .int .u64 f] 94); rwa [World.size_alloc] at h
  by_cases h1 : x = 2047
  · rw [if_pos h1]
    subst h1
    by_cases h2 : f = 0
    · rw [if_pos h2]
      subst h2
      go_enter Tryz.func51, Tryz.ntmps51
      go_wp2_with fail
      have hx0d := drew_heap hx0
      have hy0d := drew_heap hy0
      have hb0d := hb0A.drew
      have c0 := (cell_of_row _ w.heap.size 0 _ _ (0, 0) hx0).trans rfl; have c1 := (cell_of_row _ w.heap.size 1 _ _ (0, 0) hx0).trans rfl; have c2 := (cell_of_row _ w.heap.size 2 _ _ (0, 0) hx0).trans rfl
      have d1 := (cell_of_row _ (w.heap.size + 1) 1 _ _ (0, 0) hy0).trans rfl; have d2 := (cell_of_row _ (w.heap.size + 1) 2 _ _ (0, 0) hy0).trans rfl
      first | (go_region_law (first | (go_simp; go_at_call 99; (with_reducible refine (kt _).mono ?_); rintro e1 w1 ⟨rfl, hz1⟩; (first | (have hx1 := bk_below hx0 hz1) | (have hx1 := bk_below hx0d hz1)); (first | (have hy1 := bk_below hy0 hz1) | (have hy1 := bk_below hy0d hz1)); (first | (have hb1A := below_step hb0A hz1) | (have hb1A := below_step hb0d hz1)); have c0 := (cell_of_row _ w.heap.size 0 _ _ (0, 0) hx1).trans rfl; have c1 := (cell_of_row _ w.heap.size 1 _ _ (0, 0) hx1).trans rfl; have c2 := (cell_of_row _ w.heap.size 2 _ _ (0, 0) hx1).trans rfl; have d1 := (cell_of_row _ (w.heap.size + 1) 1 _ _ (0, 0) hy1).trans rfl; have d2 := (cell_of_row _ (w.heap.size + 1) 2 _ _ (0, 0) hy1).trans rfl))) | fail
      all_goals
        go_wp2_with fail
        have hx1d := drew_heap hx1
        have hy1d := drew_heap hy1
        have hb1d := hb1A.drew
        have c0 := (cell_of_row _ w.heap.size 0 _ _ (0, 0) hx1).trans rfl; have c1 := (cell_of_row _ w.heap.size 1 _ _ (0, 0) hx1).trans rfl; have c2 := (cell_of_row _ w.heap.size 2 _ _ (0, 0) hx1).trans rfl
        have d1 := (cell_of_row _ (w.heap.size + 1) 1 _ _ (0, 0) hy1).trans rfl; have d2 := (cell_of_row _ (w.heap.size + 1) 2 _ _ (0, 0) hy1).trans rfl
        first | (go_region_law (first | (go_simp; go_at_call 99; (with_reducible refine (kt _).mono ?_); rintro e2 w2 ⟨rfl, hz2⟩; (first | (have hx2 := bk_below hx1 hz2) | (have hx2 := bk_below hx1d hz2)); (first | (have hy2 := bk_below hy1 hz2) | (have hy2 := bk_below hy1d hz2)); (first | (have hb2A := below_step hb1A hz2) | (have hb2A := below_step hb1d hz2)); have c0 := (cell_of_row _ w.heap.size 0 _ _ (0, 0) hx2).trans rfl; have c1 := (cell_of_row _ w.heap.size 1 _ _ (0, 0) hx2).trans rfl; have c2 := (cell_of_row _ w.heap.size 2 _ _ (0, 0) hx2).trans rfl; have d1 := (cell_of_row _ (w.heap.size + 1) 1 _ _ (0, 0) hy2).trans rfl; have d2 := (cell_of_row _ (w.heap.size + 1) 2 _ _ (0, 0) hy2).trans rfl))) | fail
        all_goals
          go_wp2_with fail
          go_ret
          exact ⟨rfl, hb2A⟩
    · rw [if_neg h2]
      go_enter Tryz.func51, Tryz.ntmps51
      go_wp2_with fail
      have hx0d := drew_heap hx0
      have hy0d := drew_heap hy0
      have hb0d := hb0A.drew
      have c0 := (cell_of_row _ w.heap.size 0 _ _ (0, 0) hx0).trans rfl; have c1 := (cell_of_row _ w.heap.size 1 _ _ (0, 0) hx0).trans rfl; have c2 := (cell_of_row _ w.heap.size 2 _ _ (0, 0) hx0).trans rfl
      have d1 := (cell_of_row _ (w.heap.size + 1) 1 _ _ (0, 0) hy0).trans rfl; have d2 := (cell_of_row _ (w.heap.size + 1) 2 _ _ (0, 0) hy0).trans rfl
      first | (go_region_law (first | (go_simp; go_at_call 99; (with_reducible refine (kt _).mono ?_); rintro e1 w1 ⟨rfl, hz1⟩; (first | (have hx1 := bk_below hx0 hz1) | (have hx1 := bk_below hx0d hz1)); (first | (have hy1 := bk_below hy0 hz1) | (have hy1 := bk_below hy0d hz1)); (first | (have hb1A := below_step hb0A hz1) | (have hb1A := below_step hb0d hz1)); have c0 := (cell_of_row _ w.heap.size 0 _ _ (0, 0) hx1).trans rfl; have c1 := (cell_of_row _ w.heap.size 1 _ _ (0, 0) hx1).trans rfl; have c2 := (cell_of_row _ w.heap.size 2 _ _ (0, 0) hx1).trans rfl; have d1 := (cell_of_row _ (w.heap.size + 1) 1 _ _ (0, 0) hy1).trans rfl; have d2 := (cell_of_row _ (w.heap.size + 1) 2 _ _ (0, 0) hy1).trans rfl))) | fail
      all_goals
        go_wp2_with fail
        go_ret
        exact ⟨rfl, hb1A⟩
  · rw [if_neg h1]
    by_cases h3 : x = 0
    · rw [if_pos h3]
      subst h3
      clear h1
      by_cases h2 : f = 0
      · rw [if_pos h2]
        subst h2
        go_enter Tryz.func51, Tryz.ntmps51
        go_wp2_with fail
        have hx0d := drew_heap hx0
        have hy0d := drew_heap hy0
        have hb0d := hb0A.drew
        have c0 := (cell_of_row _ w.heap.size 0 _ _ (0, 0) hx0).trans rfl; have c1 := (cell_of_row _ w.heap.size 1 _ _ (0, 0) hx0).trans rfl; have c2 := (cell_of_row _ w.heap.size 2 _ _ (0, 0) hx0).trans rfl
        have d1 := (cell_of_row _ (w.heap.size + 1) 1 _ _ (0, 0) hy0).trans rfl; have d2 := (cell_of_row _ (w.heap.size + 1) 2 _ _ (0, 0) hy0).trans rfl
        first | (go_region_law (first | (go_simp; go_at_call 99; (with_reducible refine (kt _).mono ?_); rintro e1 w1 ⟨rfl, hz1⟩; (first | (have hx1 := bk_below hx0 hz1) | (have hx1 := bk_below hx0d hz1)); (first | (have hy1 := bk_below hy0 hz1) | (have hy1 := bk_below hy0d hz1)); (first | (have hb1A := below_step hb0A hz1) | (have hb1A := below_step hb0d hz1)); have c0 := (cell_of_row _ w.heap.size 0 _ _ (0, 0) hx1).trans rfl; have c1 := (cell_of_row _ w.heap.size 1 _ _ (0, 0) hx1).trans rfl; have c2 := (cell_of_row _ w.heap.size 2 _ _ (0, 0) hx1).trans rfl; have d1 := (cell_of_row _ (w.heap.size + 1) 1 _ _ (0, 0) hy1).trans rfl; have d2 := (cell_of_row _ (w.heap.size + 1) 2 _ _ (0, 0) hy1).trans rfl))) | fail
        all_goals
          go_wp2_with fail
          have hx1d := drew_heap hx1
          have hy1d := drew_heap hy1
          have hb1d := hb1A.drew
          have c0 := (cell_of_row _ w.heap.size 0 _ _ (0, 0) hx1).trans rfl; have c1 := (cell_of_row _ w.heap.size 1 _ _ (0, 0) hx1).trans rfl; have c2 := (cell_of_row _ w.heap.size 2 _ _ (0, 0) hx1).trans rfl
          have d1 := (cell_of_row _ (w.heap.size + 1) 1 _ _ (0, 0) hy1).trans rfl; have d2 := (cell_of_row _ (w.heap.size + 1) 2 _ _ (0, 0) hy1).trans rfl
          first | (go_region_law (first | (go_simp; go_at_call 99; (with_reducible refine (kt _).mono ?_); rintro e2 w2 ⟨rfl, hz2⟩; (first | (have hx2 := bk_below hx1 hz2) | (have hx2 := bk_below hx1d hz2)); (first | (have hy2 := bk_below hy1 hz2) | (have hy2 := bk_below hy1d hz2)); (first | (have hb2A := below_step hb1A hz2) | (have hb2A := below_step hb1d hz2)); have c0 := (cell_of_row _ w.heap.size 0 _ _ (0, 0) hx2).trans rfl; have c1 := (cell_of_row _ w.heap.size 1 _ _ (0, 0) hx2).trans rfl; have c2 := (cell_of_row _ w.heap.size 2 _ _ (0, 0) hx2).trans rfl; have d1 := (cell_of_row _ (w.heap.size + 1) 1 _ _ (0, 0) hy2).trans rfl; have d2 := (cell_of_row _ (w.heap.size + 1) 2 _ _ (0, 0) hy2).trans rfl))) | fail
          all_goals
            go_wp2_with fail
            go_ret
            exact ⟨rfl, hb2A⟩
      · rw [if_neg h2]
        go_enter Tryz.func51, Tryz.ntmps51
        go_wp2_with fail
        have hx0d := drew_heap hx0
        have hy0d := drew_heap hy0
        have hb0d := hb0A.drew
        have c0 := (cell_of_row _ w.heap.size 0 _ _ (0, 0) hx0).trans rfl; have c1 := (cell_of_row _ w.heap.size 1 _ _ (0, 0) hx0).trans rfl; have c2 := (cell_of_row _ w.heap.size 2 _ _ (0, 0) hx0).trans rfl
        have d1 := (cell_of_row _ (w.heap.size + 1) 1 _ _ (0, 0) hy0).trans rfl; have d2 := (cell_of_row _ (w.heap.size + 1) 2 _ _ (0, 0) hy0).trans rfl
        first | (go_region_law (first | (go_simp; go_at_call 99; (with_reducible refine (kt _).mono ?_); rintro e1 w1 ⟨rfl, hz1⟩; (first | (have hx1 := bk_below hx0 hz1) | (have hx1 := bk_below hx0d hz1)); (first | (have hy1 := bk_below hy0 hz1) | (have hy1 := bk_below hy0d hz1)); (first | (have hb1A := below_step hb0A hz1) | (have hb1A := below_step hb0d hz1)); have c0 := (cell_of_row _ w.heap.size 0 _ _ (0, 0) hx1).trans rfl; have c1 := (cell_of_row _ w.heap.size 1 _ _ (0, 0) hx1).trans rfl; have c2 := (cell_of_row _ w.heap.size 2 _ _ (0, 0) hx1).trans rfl; have d1 := (cell_of_row _ (w.heap.size + 1) 1 _ _ (0, 0) hy1).trans rfl; have d2 := (cell_of_row _ (w.heap.size + 1) 2 _ _ (0, 0) hy1).trans rfl))) | fail
        all_goals
          go_wp2_with fail
          have hx1d := drew_heap hx1
          have hy1d := drew_heap hy1
          have hb1d := hb1A.drew
          have c0 := (cell_of_row _ w.heap.size 0 _ _ (0, 0) hx1).trans rfl; have c1 := (cell_of_row _ w.heap.size 1 _ _ (0, 0) hx1).trans rfl; have c2 := (cell_of_row _ w.heap.size 2 _ _ (0, 0) hx1).trans rfl
          have d1 := (cell_of_row _ (w.heap.size + 1) 1 _ _ (0, 0) hy1).trans rfl; have d2 := (cell_of_row _ (w.heap.size + 1) 2 _ _ (0, 0) hy1).trans rfl
          first | (go_region_law (first | (go_simp; go_at_call 99; (with_reducible refine (kt _).mono ?_); rintro e2 w2 ⟨rfl, hz2⟩; (first | (have hx2 := bk_below hx1 hz2) | (have hx2 := bk_below hx1d hz2)); (first | (have hy2 := bk_below hy1 hz2) | (have hy2 := bk_below hy1d hz2)); (first | (have hb2A := below_step hb1A hz2) | (have hb2A := below_step hb1d hz2)); have c0 := (cell_of_row _ w.heap.size 0 _ _ (0, 0) hx2).trans rfl; have c1 := (cell_of_row _ w.heap.size 1 _ _ (0, 0) hx2).trans rfl; have c2 := (cell_of_row _ w.heap.size 2 _ _ (0, 0) hx2).trans rfl; have d1 := (cell_of_row _ (w.heap.size + 1) 1 _ _ (0, 0) hy2).trans rfl; have d2 := (cell_of_row _ (w.heap.size + 1) 2 _ _ (0, 0) hy2).trans rfl))) | fail
          all_goals
            go_wp2_with fail
            go_ret
            exact ⟨rfl, hb2A⟩
    · rw [if_neg h3]
      go_enter Tryz.func51, Tryz.ntmps51
      go_wp2_with fail
      have hx0d := drew_heap hx0
      have hy0d := drew_heap hy0
      have hb0d := hb0A.drew
      have c0 := (cell_of_row _ w.heap.size 0 _ _ (0, 0) hx0).trans rfl; have c1 := (cell_of_row _ w.heap.size 1 _ _ (0, 0) hx0).trans rfl; have c2 := (cell_of_row _ w.heap.size 2 _ _ (0, 0) hx0).trans rfl
      have d1 := (cell_of_row _ (w.heap.size + 1) 1 _ _ (0, 0) hy0).trans rfl; have d2 := (cell_of_row _ (w.heap.size + 1) 2 _ _ (0, 0) hy0).trans rfl
      first | (go_region_law (first | (go_simp; go_at_call 99; (with_reducible refine (kt _).mono ?_); rintro e1 w1 ⟨rfl, hz1⟩; (first | (have hx1 := bk_below hx0 hz1) | (have hx1 := bk_below hx0d hz1)); (first | (have hy1 := bk_below hy0 hz1) | (have hy1 := bk_below hy0d hz1)); (first | (have hb1A := below_step hb0A hz1) | (have hb1A := below_step hb0d hz1)); have c0 := (cell_of_row _ w.heap.size 0 _ _ (0, 0) hx1).trans rfl; have c1 := (cell_of_row _ w.heap.size 1 _ _ (0, 0) hx1).trans rfl; have c2 := (cell_of_row _ w.heap.size 2 _ _ (0, 0) hx1).trans rfl; have d1 := (cell_of_row _ (w.heap.size + 1) 1 _ _ (0, 0) hy1).trans rfl; have d2 := (cell_of_row _ (w.heap.size + 1) 2 _ _ (0, 0) hy1).trans rfl))) | fail
      all_goals
        go_wp2_with fail
        have hx1d := drew_heap hx1
        have hy1d := drew_heap hy1
        have hb1d := hb1A.drew
        have c0 := (cell_of_row _ w.heap.size 0 _ _ (0, 0) hx1).trans rfl; have c1 := (cell_of_row _ w.heap.size 1 _ _ (0, 0) hx1).trans rfl; have c2 := (cell_of_row _ w.heap.size 2 _ _ (0, 0) hx1).trans rfl
        have d1 := (cell_of_row _ (w.heap.size + 1) 1 _ _ (0, 0) hy1).trans rfl; have d2 := (cell_of_row _ (w.heap.size + 1) 2 _ _ (0, 0) hy1).trans rfl
        first | (go_region_law (first | (go_simp; go_at_call 99; (with_reducible refine (kt _).mono ?_); rintro e2 w2 ⟨rfl, hz2⟩; (first | (have hx2 := bk_below hx1 hz2) | (have hx2 := bk_below hx1d hz2)); (first | (have hy2 := bk_below hy1 hz2) | (have hy2 := bk_below hy1d hz2)); (first | (have hb2A := below_step hb1A hz2) | (have hb2A := below_step hb1d hz2)); have c0 := (cell_of_row _ w.heap.size 0 _ _ (0, 0) hx2).trans rfl; have c1 := (cell_of_row _ w.heap.size 1 _ _ (0, 0) hx2).trans rfl; have c2 := (cell_of_row _ w.heap.size 2 _ _ (0, 0) hx2).trans rfl; have d1 := (cell_of_row _ (w.heap.size + 1) 1 _ _ (0, 0) hy2).trans rfl; have d2 := (cell_of_row _ (w.heap.size + 1) 2 _ _ (0, 0) hy2).trans rfl))) | fail
        all_goals
          go_wp2_with fail
          go_ret
          exact ⟨rfl, hb2A⟩
theorem class_calls (s : Bool) (x : Nat) (f : Nat) (w : World) : Calls Tryz.prog 51 #[w64, .agg #[.bool s, .int .i64 (x : Int), .int .u64 (f : Int)]] w fun e w' => e = .returned (.int .i64 ((if x = 2047 then (if f = 0 then 3 else 4) else if x = 0 then (if f = 0 then 0 else 1) else 2 : Nat) : Int)) ∧ Below w.heap.size w w' := by
  have h := class_int s x f w
  refine h.mono ?_
  rintro e w' ⟨rfl, hb⟩
  refine ⟨congrArg (fun z => Ending.returned (.int .i64 z)) ?_, hb⟩
  by_cases h1 : x = 2047
  · subst h1; by_cases h2 : f = 0
    · subst h2; rfl
    · rw [if_pos (by rfl), if_neg (by omega), if_pos rfl, if_neg h2]; rfl
  · by_cases h3 : x = 0
    · subst h3; by_cases h2 : f = 0
      · subst h2; rfl
      · rw [if_neg (by decide), if_pos (by rfl), if_neg (by omega), if_neg (by decide), if_pos rfl, if_neg h2]; rfl
    · rw [if_neg (by omega), if_neg (by omega), if_neg h1, if_neg h3]; rfl
end Go.Proofs.YtffncomekbfihaaGreatDoor.Nat
