/- The law ScriptParses: its walk. -/
import Derived.Test.YtmejpcfbefjjaaaDoorSTwin
namespace Go.Proofs.YtmejpcfbefjjaaaDoor.Scr
open Go.RowKit Go.Shelf Go.Proofs.YtmejpcfbefjjaaaDoor.Rep
set_option linter.unusedVariables false
set_option linter.unusedSimpArgs false
set_option maxRecDepth 100000 in
set_option maxHeartbeats 16000000 in
theorem parses_calls (s : ByteArray) (m : Int) (w : World) (hg : w.cell? ⟨0, 0, none⟩ = some (.iface 91 (.agg #[.pointer (some ⟨7, 39, none⟩)]))) (hm : w.cell? ⟨1, 0, none⟩ = some (.int .i64 m))
    (htab : Lib.TabIs Tryd.prog w "internal/strconv.uint64pow10" .u64 Lib.pow10Tab) :
    Calls Tryd.prog 3 #[.string s] w fun e w' => e = .returned (.bool true) ∧ Below w.heap.size w w' := by
  have k1 := job_calls s m w hg hm
  have hgT : Tryd.prog.globalNamed "internal/strconv.uint64pow10" = some 2 := by kernel_rfl
  clear hg hm
  go_enter Tryd.func3, Tryd.ntmps3
  go_wp2_with fail
  refine k1.mono ?_
  clear k1
  rintro e1 w1 ⟨hb1, ⟨n, y, rfl, hv1⟩ | ⟨j, A0, n0, c0, vs, rfl, hc, hv1⟩⟩
  · have k2 := rjob_calls s (w1.alloc (.cells zeroJ 28))
    have hb2 : Below w.heap.size w (w1.alloc (.cells zeroJ 28)) := hb1.alloc hb1.size _
    have Hv1 := Lib.hid hv1
    clear hv1
    unfold zeroJV
    go_wp2_with fail
    refine k2.mono ?_
    rintro e2 w2 ⟨hb3, ⟨n', y', rfl, hv2⟩ | ⟨j, A0, n0, c0, vs, rfl, hc, hv2⟩⟩
    · obtain ⟨rfl, rfl⟩ : n' = n ∧ y' = y := by
        have := Hv1.out.symm.trans hv2
        simp only [Prod.mk.injEq] at this
        exact ⟨this.2.1.symm, this.2.2.symm⟩
      have hb4 : Below w.heap.size w (w2.alloc (.cells zeroJ 32)) := (hb2.trans (hb3.mono hb2.size)).alloc (hb2.trans (hb3.mono hb2.size)).size _
      have k3 := twin_calls job00 (.slice none 0 0) (.slice none 0 0) [] [] 0 0 (w2.alloc (.cells zeroJ 32)) (Chunks.nil _ _) (Chunks.nil _ _)
      have ht : ∀ W, Below w.heap.size w W → Calls Tryd.prog 7 #[] W fun e' w' => e' = .returned (.bool true) ∧ Below W.heap.size W w' := fun W hW => awake_calls W (tab_below hgT htab hW)
      have z : ∀ i, w2.cell? ⟨w1.heap.size, i, none⟩ = zeroJ[i]? := fun i => cell_of_row _ _ i _ _ (0, 0) ((hb3.block _ (by simp)).trans (heap_alloc_new w1 _))
      have z0 : w2.cell? ⟨w1.heap.size, 0, none⟩ = some (.int .i64 0) := z 0
      have z1 : w2.cell? ⟨w1.heap.size, 1, none⟩ = some (.int .i64 0) := z 1
      have z2 : w2.cell? ⟨w1.heap.size, 2, none⟩ = some (.int .i64 0) := z 2
      have z3 : w2.cell? ⟨w1.heap.size, 3, none⟩ = some (.int .i64 0) := z 3
      have z4 : w2.cell? ⟨w1.heap.size, 4, none⟩ = some (.int .i64 0) := z 4
      have z5 : w2.cell? ⟨w1.heap.size, 5, none⟩ = some (.bool false) := z 5
      have z6 : w2.cell? ⟨w1.heap.size, 6, none⟩ = some (.bool false) := z 6
      have z7 : w2.cell? ⟨w1.heap.size, 7, none⟩ = some (.int .i64 0) := z 7
      have z8 : w2.cell? ⟨w1.heap.size, 8, none⟩ = some (.bool false) := z 8
      have z9 : w2.cell? ⟨w1.heap.size, 9, none⟩ = some (.slice none 0 0) := z 9
      have HB := Lib.hid hb4
      have hl12 : w1.heap.size < w2.heap.size := by have := hb3.size; simp at this; omega
      have hne12 : ¬ w1.heap.size = w2.heap.size := by omega
      clear hv2 k2 hb1 hb2 hb3 htab hgT Hv1 hb4 z
      unfold job00 jobCells at k3
      unfold zeroJV
      go_wp2_with (first | (go_at_call 6; refine k3.mono ?_; clear k3; rintro _ w3 ⟨rfl, hb5⟩; have hb6 := Lib.hid (HB.out.trans (hb5.mono HB.out.size)); clear hb5 HB) | (go_at_call 7; refine (ht _ hb6.out).mono ?_; rintro _ w4 ⟨rfl, hb7⟩))
      go_ret
      exact ⟨rfl, hb6.out.trans (hb7.mono hb6.out.size)⟩
    · exact absurd (Hv1.out.symm.trans hv2) (by simp)
  · have k2 := rjob_calls s (w1.alloc (.cells (jobCells j (.slice A0 n0 c0)) 28))
    have hb2 : Below w.heap.size w (w1.alloc (.cells (jobCells j (.slice A0 n0 c0)) 28)) := hb1.alloc hb1.size _
    have Hv1 := Lib.hid hv1
    have hc1 := hc.below ((Below.refl _ w1).alloc (Nat.le_refl _) (.cells (jobCells j (.slice A0 n0 c0)) 28))
    clear hv1 hc
    unfold jobCells at k2 hb2 hc1 ⊢
    go_wp2_with fail
    refine k2.mono ?_
    rintro e2 w2 ⟨hb3, ⟨n', y', rfl, hv2⟩ | ⟨j', A1, n1, c1, vs1, rfl, hc2, hv2⟩⟩
    · exact absurd (Hv1.out.symm.trans hv2) (by simp)
    · obtain rfl : j' = j := by
        have := Hv1.out.symm.trans hv2
        simp only [Prod.mk.injEq, Option.some.injEq] at this
        exact this.1.symm
      have z : ∀ i, w2.cell? ⟨w1.heap.size, i, none⟩ = (jobCells j' (.slice A0 n0 c0))[i]? := fun i => cell_of_row _ _ i _ _ (0, 0) ((hb3.block _ (by simp)).trans (heap_alloc_new w1 _))
      have hc3 := (hc1.below (hb3.mono (by simp))).below ((Below.refl _ w2).alloc (Nat.le_refl _) (.cells (jobCells j' (.slice A1 n1 c1)) 32))
      have hc4 := hc2.below ((Below.refl _ w2).alloc (Nat.le_refl _) (.cells (jobCells j' (.slice A1 n1 c1)) 32))
      have k3 := twin_calls j' _ _ vs vs1 _ _ _ hc3 hc4
      have hb4 : Below w.heap.size w (w2.alloc (.cells (jobCells j' (.slice A1 n1 c1)) 32)) := (hb2.trans (hb3.mono hb2.size)).alloc (hb2.trans (hb3.mono hb2.size)).size _
      have ht : ∀ W, Below w.heap.size w W → Calls Tryd.prog 7 #[] W fun e' w' => e' = .returned (.bool true) ∧ Below W.heap.size W w' := fun W hW => awake_calls W (tab_below hgT htab hW)
      have z0 : w2.cell? ⟨w1.heap.size, 0, none⟩ = some (.int .i64 j'.frm) := z 0
      have z1 : w2.cell? ⟨w1.heap.size, 1, none⟩ = some (.int .i64 j'.too) := z 1
      have z2 : w2.cell? ⟨w1.heap.size, 2, none⟩ = some (.int .i64 j'.mode) := z 2
      have z3 : w2.cell? ⟨w1.heap.size, 3, none⟩ = some (.int .i64 j'.depth) := z 3
      have z4 : w2.cell? ⟨w1.heap.size, 4, none⟩ = some (.int .i64 j'.size) := z 4
      have z5 : w2.cell? ⟨w1.heap.size, 5, none⟩ = some (.bool j'.once) := z 5
      have z6 : w2.cell? ⟨w1.heap.size, 6, none⟩ = some (.bool j'.opn) := z 6
      have z7 : w2.cell? ⟨w1.heap.size, 7, none⟩ = some (.int .i64 j'.indent) := z 7
      have z8 : w2.cell? ⟨w1.heap.size, 8, none⟩ = some (.bool j'.srt) := z 8
      have z9 : w2.cell? ⟨w1.heap.size, 9, none⟩ = some (.slice A0 n0 c0) := z 9
      have HB := Lib.hid hb4
      have hl12 : w1.heap.size < w2.heap.size := by have := hb3.size; simp at this; omega
      have hne12 : ¬ w1.heap.size = w2.heap.size := by omega
      clear hv2 k2 hb1 hb2 hb3 htab hgT Hv1 hb4 hc1 hc2 hc3 hc4 z
      unfold jobCells at k3 HB ⊢
      go_wp2_with (first | (go_at_call 6; refine k3.mono ?_; clear k3; rintro _ w3 ⟨rfl, hb5⟩; have hb6 := Lib.hid (HB.out.trans (hb5.mono HB.out.size)); clear hb5 HB) | (go_at_call 7; refine (ht _ hb6.out).mono ?_; rintro _ w4 ⟨rfl, hb7⟩))
      go_ret
      exact ⟨rfl, hb6.out.trans (hb7.mono hb6.out.size)⟩
end Go.Proofs.YtmejpcfbefjjaaaDoor.Scr
