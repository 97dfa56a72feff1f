/- fbits.of, fbits.Class at 64 bits. -/
import Derived.Test.YtffncomekbfihaaDoorExact
namespace Go.Proofs.YtffncomekbfihaaDoor.Nat
open Go.RowKit Go.Shelf
set_option linter.unusedVariables false
theorem idx_w0 (W : World) : (Instr.index 52 (.agg #[.int .i64 16, .int .i64 5, .int .i64 10, .int .i64 32, .int .i64 8, .int .i64 23, .int .i64 64, .int .i64 11, .int .i64 52]) (.int .i64 0)).run Tryd.prog W = .ok (.agg #[.int .i64 16, .int .i64 5, .int .i64 10]) W := by kernel_rfl
theorem idx_w1 (W : World) : (Instr.index 52 (.agg #[.int .i64 16, .int .i64 5, .int .i64 10, .int .i64 32, .int .i64 8, .int .i64 23, .int .i64 64, .int .i64 11, .int .i64 52]) (.int .i64 1)).run Tryd.prog W = .ok (.agg #[.int .i64 32, .int .i64 8, .int .i64 23]) W := by kernel_rfl
theorem results_cell_tmp {P : Program} {fn : Func} {p q : Tmp} {ty : TypeId} (h : fn.results = #[.cell p ty, .tmp q]) (tmps : Array Value) (w : World) (g : Nat) (t : TypeId) (cs : Array Value) (fr : Nat × Nat) (d : TypeDesc)
    (hp : tmps.getD p undef = .pointer (some ⟨g, 0, none⟩)) (hg : w.heap[g]? = some (.cells cs t fr))
    (hu : P.underlying ty = some d) (hd : (match d with | .struct _ | .array _ _ => true | _ => false) = true) (hi : (P.info? ty).map (·.size) = some cs.size) :
    (results fn tmps).run P w = .ok (.tuple #[.agg cs, tmps.getD q undef]) w := by
  have hp' : tmps[p]?.getD undef = .pointer (some ⟨g, 0, none⟩) := by simpa using hp
  simp [results, h, hp', asAddr, run_loadVar_row w g t ty cs fr d hg hu hd hi]
set_option maxHeartbeats 8000000 in
set_option maxRecDepth 100000 in
theorem of64_calls (x : Nat) (w : World) : Calls Tryd.prog 41 #[.int .i64 64, .int .u64 (x : Int)] w fun e w' => e = .returned (.tuple #[w64, .bool true]) ∧ Below w.heap.size w w' := by
  have k1 := fun w => widths_calls w
  have i0 := idx_w0
  have i1 := idx_w1
  have i2 := idx_w3
  unfold w3 at k1
  unfold w64
  have hb0 := below_alloc w (.cells #[.int .i64 0, .int .i64 0, .int .i64 0] 51)
  have hh0 := heap_alloc_new w (.cells #[.int .i64 0, .int .i64 0, .int .i64 0] 51)
  go_enter Tryd.func41, Tryd.ntmps41
  go_wp2_with (go_at_call 19; (with_reducible refine (k1 _).mono ?_); clear k1; rintro e1 w1 ⟨rfl, hb1⟩; have hh1 := bk_below hh0 hb1; have hbA := below_step hb0 hb1)
  go_loopg [9] 3 (fun kq v9 wr => ∃ i : Nat, v9 = .int .i64 i ∧ i + kq = 3 ∧ i ≤ 2 ∧ wr.heap[w.heap.size]? = some (.cells #[.int .i64 0, .int .i64 0, .int .i64 0] 51 (0, 0)) ∧ Below w.heap.size w wr)
  case atStart => exact ⟨0, rfl, rfl, by decide, hh1, hbA⟩
  case round =>
    clear hh0 hh1 hbA hb1 hb0
    obtain ⟨i, rfl, hi, hi2, hh, hb⟩ := hrel
    rcases (show i = 0 ∨ i = 1 ∨ i = 2 by omega) with rfl | rfl | rfl
    · go_wp2
      go_roundg 2
      case rel => exact ⟨1, rfl, rfl, by decide, bk_alloc hh _, hb.alloc hb.size _⟩
      case measure => omega
    · go_wp2
      go_roundg 1
      case rel => exact ⟨2, rfl, rfl, by decide, bk_alloc hh _, hb.alloc hb.size _⟩
      case measure => omega
    · go_wp2_with fail
      have hx := heap_alloc_new wr (.cells #[.int .i64 64, .int .i64 11, .int .i64 52] 51)
      have hy := bk_alloc hh (.cells #[.int .i64 64, .int .i64 11, .int .i64 52] 51)
      have hbE := hb.alloc hb.size (.cells #[.int .i64 64, .int .i64 11, .int .i64 52] 51)
      generalize wr.alloc (.cells #[.int .i64 64, .int .i64 11, .int .i64 52] 51) = W1 at hx hy hbE ⊢
      have c0 := (cell_of_row W1 wr.heap.size 0 _ _ (0, 0) hx).trans rfl; have c1 := (cell_of_row W1 wr.heap.size 1 _ _ (0, 0) hx).trans rfl; have c2 := (cell_of_row W1 wr.heap.size 2 _ _ (0, 0) hx).trans rfl
      have d0 := (cell_of_row W1 w.heap.size 0 _ _ (0, 0) hy).trans rfl; have d1 := (cell_of_row W1 w.heap.size 1 _ _ (0, 0) hy).trans rfl; have d2 := (cell_of_row W1 w.heap.size 2 _ _ (0, 0) hy).trans rfl
      have f0 := frozen_of_row W1 w.heap.size 0 _ _ hy; have f1 := frozen_of_row W1 w.heap.size 1 _ _ hy; have f2 := frozen_of_row W1 w.heap.size 2 _ _ hy
      have hne : wr.heap.size ≠ w.heap.size := by have := bk_lt hh; omega
      have hne2 := hne.symm
      have hy3 : (((W1.setCell ⟨w.heap.size, 0, none⟩ (.int .i64 64)).setCell ⟨w.heap.size, 1, none⟩ (.int .i64 11)).setCell ⟨w.heap.size, 2, none⟩ (.int .i64 52)).drew.heap[w.heap.size]? = some (.cells #[.int .i64 64, .int .i64 11, .int .i64 52] 51 (0, 0)) := bk_set (bk_set (bk_set hy 0 (.int .i64 64)) 1 (.int .i64 11)) 2 (.int .i64 52)
      have hbF := (((hbE.setCell (p := ⟨w.heap.size, 0, none⟩) (Nat.le_refl _) (.int .i64 64)).setCell (p := ⟨w.heap.size, 1, none⟩) (Nat.le_refl _) (.int .i64 11)).setCell (p := ⟨w.heap.size, 2, none⟩) (Nat.le_refl _) (.int .i64 52)).drew
      have Hy3 : Hid _ := Lib.hid (And.intro hy3 hbF)
      clear hy3 hbF hx hy hbE
      first | (go_region_held (fun w' => w'.cell? ⟨wr.heap.size, 0, none⟩ = some (.int .i64 64) ∧ w'.cell? ⟨wr.heap.size, 1, none⟩ = some (.int .i64 11) ∧ w'.cell? ⟨wr.heap.size, 2, none⟩ = some (.int .i64 52)) (go_keep) (fail)) | fail
      all_goals
        go_wp2_with fail
        refine bodyPost_ret (results_cell_tmp Tryd.results41 _ _ w.heap.size 51 _ (0, 0) _ rfl Hy3.out.1 Tryd.underlying51 rfl (by kernel_rfl)) rfl ⟨rfl, Hy3.out.2⟩
/-- the class of 64 bits -/
def cls (x : Nat) : Nat := if fe x = 2047 then (if ff x = 0 then 3 else 4) else if fe x = 0 then (if ff x = 0 then 0 else 1) else 2
set_option maxHeartbeats 8000000 in
set_option maxRecDepth 100000 in
theorem class64_calls (x : Nat) (w : World) (hx : x < 18446744073709551616) : Calls Tryd.prog 15 #[.int .i64 64, .int .u64 (x : Int)] w fun e w' => e = .returned (.tuple #[.int .i64 (cls x : Nat), .int .i64 0]) ∧ Below w.heap.size w w' := by
  have k1 := of64_calls x w
  have k2 := fun w => split_calls x w hx
  have k3 := fun w => class_calls (fsg x) (fe x) (ff x) w
  have k2' : ∀ w, Calls Tryd.prog 43 #[.agg #[.int .i64 64, .int .i64 11, .int .i64 52], .int .u64 (x : Int)] w fun e w' => e = .returned (.agg #[.bool (fsg x), .int .i64 (fe x : Nat), .int .u64 (ff x : Nat)]) ∧ Below w.heap.size w w' := k2
  have k3' : ∀ w, Calls Tryd.prog 42 #[.agg #[.int .i64 64, .int .i64 11, .int .i64 52], .agg #[.bool (fsg x), .int .i64 (fe x : Nat), .int .u64 (ff x : Nat)]] w fun e w' => e = .returned (.int .i64 (cls x : Nat)) ∧ Below w.heap.size w w' := k3
  clear k2 k3
  unfold w64 at k1
  generalize cls x = cl at *
  generalize fsg x = sg at *
  generalize fe x = ex at *
  generalize ff x = fr at *
  go_enter Tryd.func15, Tryd.ntmps15
  go_wp2_with (go_at_call 41; (with_reducible refine k1.mono ?_); clear k1; rintro e1 w1 ⟨rfl, hb1⟩)
  have hx0 := heap_alloc_new w1 (.cells #[.int .i64 64, .int .i64 11, .int .i64 52] 51)
  have hbE := below_step hb1 (below_alloc w1 (.cells #[.int .i64 64, .int .i64 11, .int .i64 52] 51))
  generalize w1.alloc (.cells #[.int .i64 64, .int .i64 11, .int .i64 52] 51) = W1 at hx0 hbE ⊢
  generalize w1.heap.size = g at *
  have c0 := (cell_of_row W1 g 0 _ _ (0, 0) hx0).trans rfl; have c1 := (cell_of_row W1 g 1 _ _ (0, 0) hx0).trans rfl; have c2 := (cell_of_row W1 g 2 _ _ (0, 0) hx0).trans rfl
  have hx0d := drew_heap hx0
  have hbEd := hbE.drew
  first | (go_region_held (fun w' => w'.cell? ⟨g, 0, none⟩ = some (.int .i64 64) ∧ w'.cell? ⟨g, 1, none⟩ = some (.int .i64 11) ∧ w'.cell? ⟨g, 2, none⟩ = some (.int .i64 52)) (go_keep) (first
    | (go_simp; go_at_call 43; (with_reducible refine (k2' _).mono ?_); rintro e2 w2 ⟨rfl, hb2⟩; (first | (have hx2 := bk_below hx0 hb2) | (have hx2 := bk_below hx0d hb2)); (first | (have hbF := below_step hbE hb2) | (have hbF := below_step hbEd hb2)); have c0 := (cell_of_row _ g 0 _ _ (0, 0) hx2).trans rfl; have c1 := (cell_of_row _ g 1 _ _ (0, 0) hx2).trans rfl; have c2 := (cell_of_row _ g 2 _ _ (0, 0) hx2).trans rfl)
    | (go_simp; go_at_call 42; (with_reducible refine (k3' _).mono ?_); rintro e3 w3 ⟨rfl, hb3⟩; have hx3 := bk_below hx2 hb3; have hbG := below_step hbF hb3; have c0 := (cell_of_row _ g 0 _ _ (0, 0) hx3).trans rfl; have c1 := (cell_of_row _ g 1 _ _ (0, 0) hx3).trans rfl; have c2 := (cell_of_row _ g 2 _ _ (0, 0) hx3).trans rfl))) | fail
  all_goals
    go_wp2_with fail
    go_ret2
    exact ⟨rfl, hbG⟩
end Go.Proofs.YtffncomekbfihaaDoor.Nat
