/- script.Parse. -/
import Derived.Test.YtmejpcfbefjjaaaDoorSAs
namespace Go.Proofs.YtmejpcfbefjjaaaDoor.Scr
open Go.RowKit Go.Shelf Go.Proofs.YtmejpcfbefjjaaaDoorW.PrintLast
set_option linter.unusedVariables false
set_option linter.unusedSimpArgs false
def zeroJV : Value := .agg zeroJ
def job00 : Job := ⟨0, 0, 0, 0, 0, false, false, 0, false, []⟩
theorem set10_cell {w : World} {H : Nat} {j : Job} {ch v : Value} {a : Addr} (hne : a.block ≠ H) (h : w.cell? a = some v) : (set10 w H j ch).cell? a = some v := by
  unfold World.cell? at h ⊢
  rw [set10_other hne]
  exact h
/-- what Parse answers -/
def JobPost (s : ByteArray) (w : World) (e : Ending) (w' : World) : Prop :=
  Below w.heap.size w w' ∧ ((∃ n y : Nat, e = .returned (.tuple #[zeroJV, .int .i64 n, .int .i64 y]) ∧ parseV s = (none, n, y)) ∨
    ∃ j A0 n0 c0 vs, e = .returned (.tuple #[.agg (jobCells j (.slice A0 n0 c0)), .int .i64 0, .int .i64 0]) ∧ Chunks w' w.heap.size j.chunks (.slice A0 n0 c0) vs ∧ parseV s = (some j, 0, 0))
set_option maxRecDepth 100000 in
set_option maxHeartbeats 16000000 in
theorem job_calls (s : ByteArray) (m : Int) (w : World) (hg : w.cell? ⟨0, 0, none⟩ = some (.iface 91 (.agg #[.pointer (some ⟨7, 39, none⟩)]))) (hm : w.cell? ⟨1, 0, none⟩ = some (.int .i64 m)) :
    Calls Tryd.prog 4 #[.string s] w (JobPost s w) := by
  have hm1 : 1 < w.heap.size := World.block_lt_of_cell? _ _ hm
  have hg1 : 0 < w.heap.size := by omega
  have hb0 := (Below.refl w.heap.size w).alloc (Nat.le_refl _) (.cells zeroJ 28)
  have hk := parse_calls s m (w.alloc (.cells zeroJ 28)) (by rw [World.cell?_alloc_lt _ _ _ hm1]; exact hm)
  go_enter Tryd.func4, Tryd.ntmps4
  go_wp2_with fail
  refine hk.mono ?_
  rintro e1 w1 ⟨hb1, j, A0, n0, c0, ⟨B, n, y, rfl, hB, hv⟩ | ⟨vs, rfl, hc, hv⟩⟩
  · have h0 : Below w.heap.size w w1 := hb0.trans (hb1.mono (by simp))
    have hz : w1.heap[w.heap.size]? = some (.cells zeroJ 28 (0, 0)) := (hb1.block _ (by simp)).trans (heap_alloc_new w _)
    have hHV := Lib.hid hv
    have hs1 : w.heap.size < w1.heap.size := lt_of_block hz
    obtain ⟨W, hW⟩ : ∃ W, W = (w1.alloc (.cells (jobCells j (.slice A0 n0 c0)) 28)).alloc (.cells #[.pointer none] 42) := ⟨_, rfl⟩
    have hbW : Below w1.heap.size w1 W := by rw [hW]; exact ((Below.refl _ _).alloc (Nat.le_refl _) _).alloc (by simp) _
    have hWs : W.heap.size = w1.heap.size + 1 + 1 := by rw [hW]; simp
    have hpW : W.heap[w1.heap.size + 1]? = some (.cells #[.pointer none] 42 (0, 0)) := by rw [hW]; exact a_at _ _ _ (by simp)
    have hbW2 : Below w.heap.size w W := h0.trans (hbW.mono (Nat.le_of_lt hs1))
    have hA := as_hit ⟨B, 0, none⟩ ⟨w1.heap.size + 1, 0, none⟩ (.pointer none) W ((hbW2.cell hg1).trans hg) (cell_of_row _ _ 0 _ _ (0, 0) hpW) (frozen_of_row _ _ 0 _ _ hpW)
    unfold jobCells at hW ⊢
    clear hv hk hb1 hm hg
    go_wp2_with (go_at_call 9; rw [← hW]; refine hA.mono ?_; rintro e4 w4 ⟨rfl, hw4'⟩; have HW4 := Lib.hid hw4'; clear hw4' hW hA)
    have hw4 := HW4.out
    have hb4 : Below w1.heap.size w1 w4 := by rw [hw4]; exact ((((hbW.alloc (by omega) _).alloc (by simp; omega) _).alloc (by simp; omega) _).alloc (by simp; omega) _).setCell (p := ⟨w1.heap.size + 1, 0, none⟩) (by show _ ≤ w1.heap.size + 1; omega) _
    have cp : w4.drew.cell? ⟨w1.heap.size + 1, 0, none⟩ = some (.pointer (some ⟨B, 0, none⟩)) := by
      rw [hw4]
      exact World.cell?_setCell_same _ _ _ (cell_of_row (w := (((W.alloc _).alloc _).alloc _).alloc _) _ 0 _ _ (0, 0) (a_past (a_past (a_past (a_past hpW)))))
    have hz4 : w4.heap[w.heap.size]? = some (.cells zeroJ 28 (0, 0)) := (hb4.block _ hs1).trans hz
    have hB4 : w4.heap[B]? = some (.cells #[.int .i64 (n : Nat), .int .i64 (y : Nat)] 46 (0, 0)) := (hb4.block _ (lt_of_block hB)).trans hB
    have cB0 : w4.drew.cell? ⟨B, 0, none⟩ = some (.int .i64 n) := cell_of_row w4 _ 0 _ _ (0, 0) hB4
    have cB1 : w4.drew.cell? ⟨B, 1, none⟩ = some (.int .i64 y) := cell_of_row w4 _ 1 _ _ (0, 0) hB4
    have z0 : w4.drew.cell? ⟨w.heap.size, 0, none⟩ = some (.int .i64 0) := cell_of_row _ _ 0 _ _ (0, 0) hz4
    have z1 : w4.drew.cell? ⟨w.heap.size, 1, none⟩ = some (.int .i64 0) := cell_of_row _ _ 1 _ _ (0, 0) hz4
    have z2 : w4.drew.cell? ⟨w.heap.size, 2, none⟩ = some (.int .i64 0) := cell_of_row _ _ 2 _ _ (0, 0) hz4
    have z3 : w4.drew.cell? ⟨w.heap.size, 3, none⟩ = some (.int .i64 0) := cell_of_row _ _ 3 _ _ (0, 0) hz4
    have z4 : w4.drew.cell? ⟨w.heap.size, 4, none⟩ = some (.int .i64 0) := cell_of_row _ _ 4 _ _ (0, 0) hz4
    have z5 : w4.drew.cell? ⟨w.heap.size, 5, none⟩ = some (.bool false) := cell_of_row _ _ 5 _ _ (0, 0) hz4
    have z6 : w4.drew.cell? ⟨w.heap.size, 6, none⟩ = some (.bool false) := cell_of_row _ _ 6 _ _ (0, 0) hz4
    have z7 : w4.drew.cell? ⟨w.heap.size, 7, none⟩ = some (.int .i64 0) := cell_of_row _ _ 7 _ _ (0, 0) hz4
    have z8 : w4.drew.cell? ⟨w.heap.size, 8, none⟩ = some (.bool false) := cell_of_row _ _ 8 _ _ (0, 0) hz4
    have z9 : w4.drew.cell? ⟨w.heap.size, 9, none⟩ = some (.slice none 0 0) := cell_of_row _ _ 9 _ _ (0, 0) hz4
    have zf : ∀ i2, w4.drew.frozen? ⟨w.heap.size, i2, none⟩ = false := fun i2 => frozen_of_row w4 _ i2 _ _ hz4
    have h04 : Below w.heap.size w w4.drew := (h0.trans (hb4.mono (Nat.le_of_lt hs1))).drew
    have SS := set10_at (w := w4.drew) (j := job00) (ch := .slice none 0 0) hz4
    have r := SS.cell
    have hB3 := set10_below (H := w.heap.size) (j := job00) (ch := .slice none 0 0) h04 (Nat.le_refl _)
    unfold set10 job00 at r hB3
    have hneB : B ≠ w.heap.size := by rintro rfl; rw [hz4] at hB4; simp at hB4
    clear SS HW4 hw4 hz4 hB4 hb4 h04 hpW hbW hbW2 hWs hz hb0 h0 hB
    refine start_ (n := 12) (S := fun w' => w'.cell? ⟨w1.heap.size + 1, 0, none⟩ = some (.pointer (some ⟨B, 0, none⟩)) ∧ w'.cell? ⟨B, 0, none⟩ = some (.int .i64 n) ∧ w'.cell? ⟨B, 1, none⟩ = some (.int .i64 y)) (ds := []) #[false, false, false, false, false, false, false, false, false, false, false, false] (by kernel_rfl) rfl rfl ⟨cp, cB0, cB1⟩ (fun hHeld => ?_)
    generalize w4.drew = wd at cp cB0 cB1 z0 z1 z2 z3 z4 z5 z6 z7 z8 z9 zf r hB3 hHeld ⊢
    refine pure_ (i := 0) (N := some 16) (v := ?_) (a' := ?_) #[true, false, false, false, false, false, false, false, false, false, false, false] rfl rfl (by kernel_rfl) (fun _ _ _ h => h) (Or.inl ⟨by rfl, ?_⟩) ?_ ?_
    rotate_left
    · intro w'
      go_simp
      with_reducible rfl
    rotate_left
    · simp only [Act.put, List.setIfInBounds_toArray, List.set_cons_zero, List.set_cons_succ, i64_w, i32_w]
      rfl
    refine take_ (i := 1) (N := some 17) (v := ?_) (a' := ?_) #[true, true, false, false, false, false, false, false, false, false, false, false] rfl rfl (by kernel_rfl) (fun _ _ _ h => h) (Or.inl ⟨by rfl, ?_⟩) hHeld ?_ ?_
    rotate_left
    · rintro w' ⟨s0, s1, s2⟩
      go_simp
      with_reducible rfl
    rotate_left
    · simp only [Act.put, List.setIfInBounds_toArray, List.set_cons_zero, List.set_cons_succ, i64_w, i32_w]
      rfl
    refine pure_ (i := 2) (N := some 18) (v := ?_) (a' := ?_) #[true, true, true, false, false, false, false, false, false, false, false, false] rfl rfl (by kernel_rfl) (fun _ _ _ h => h) (Or.inl ⟨by rfl, ?_⟩) ?_ ?_
    rotate_left
    · intro w'
      go_simp
      with_reducible rfl
    rotate_left
    · simp only [Act.put, List.setIfInBounds_toArray, List.set_cons_zero, List.set_cons_succ, i64_w, i32_w]
      rfl
    refine pure_ (i := 3) (N := some 19) (v := ?_) (a' := ?_) #[true, true, true, true, false, false, false, false, false, false, false, false] rfl rfl (by kernel_rfl) (fun _ _ _ h => h) (Or.inl ⟨by rfl, ?_⟩) ?_ ?_
    rotate_left
    · intro w'
      go_simp
      with_reducible rfl
    rotate_left
    · simp only [Act.put, List.setIfInBounds_toArray, List.set_cons_zero, List.set_cons_succ, i64_w, i32_w]
      rfl
    refine take_ (i := 4) (N := some 20) (v := ?_) (a' := ?_) #[true, true, true, true, true, false, false, false, false, false, false, false] rfl rfl (by kernel_rfl) (fun _ _ _ h => h) (Or.inl ⟨by rfl, ?_⟩) hHeld ?_ ?_
    rotate_left
    · rintro w' ⟨s0, s1, s2⟩
      go_simp
      with_reducible rfl
    rotate_left
    · simp only [Act.put, List.setIfInBounds_toArray, List.set_cons_zero, List.set_cons_succ, i64_w, i32_w]
      rfl
    refine take_ (i := 5) (N := some 21) (v := ?_) (a' := ?_) #[true, true, true, true, true, true, false, false, false, false, false, false] rfl rfl (by kernel_rfl) (fun _ _ _ h => h) (Or.inl ⟨by rfl, ?_⟩) hHeld ?_ ?_
    rotate_left
    · rintro w' ⟨s0, s1, s2⟩
      go_simp
      with_reducible rfl
    rotate_left
    · simp only [Act.put, List.setIfInBounds_toArray, List.set_cons_zero, List.set_cons_succ, i64_w, i32_w]
      rfl
    refine pure_ (i := 6) (N := some 22) (v := ?_) (a' := ?_) #[true, true, true, true, true, true, true, false, false, false, false, false] rfl rfl (by kernel_rfl) (fun _ _ _ h => h) (Or.inl ⟨by rfl, ?_⟩) ?_ ?_
    rotate_left
    · intro w'
      go_simp
      with_reducible rfl
    rotate_left
    · simp only [Act.put, List.setIfInBounds_toArray, List.set_cons_zero, List.set_cons_succ, i64_w, i32_w]
      rfl
    refine pure_ (i := 7) (N := some 23) (v := ?_) (a' := ?_) #[true, true, true, true, true, true, true, true, false, false, false, false] rfl rfl (by kernel_rfl) (fun _ _ _ h => h) (Or.inl ⟨by rfl, ?_⟩) ?_ ?_
    rotate_left
    · intro w'
      go_simp
      with_reducible rfl
    rotate_left
    · simp only [Act.put, List.setIfInBounds_toArray, List.set_cons_zero, List.set_cons_succ, i64_w, i32_w]
      rfl
    refine take_ (i := 8) (N := some 24) (v := ?_) (a' := ?_) #[true, true, true, true, true, true, true, true, true, false, false, false] rfl rfl (by kernel_rfl) (fun _ _ _ h => h) (Or.inl ⟨by rfl, ?_⟩) hHeld ?_ ?_
    rotate_left
    · rintro w' ⟨s0, s1, s2⟩
      go_simp
      with_reducible rfl
    rotate_left
    · simp only [Act.put, List.setIfInBounds_toArray, List.set_cons_zero, List.set_cons_succ, i64_w, i32_w]
      rfl
    refine one_ (i := 9) (N := none) #[true, true, true, true, true, true, true, true, true, true, false, false] rfl rfl (by kernel_rfl) (by decide) (fun K hK => ?_)
    refine skip_ (w1 := ?_) (by rfl) rfl ?_ ?_
    rotate_left
    · go_simp
      rfl
    refine hK.out _ _ ⟨(set10_cell (j := job00) (ch := .slice none 0 0) (H := w.heap.size) (by show w1.heap.size + 1 ≠ w.heap.size; omega) cp), (set10_cell (j := job00) (ch := .slice none 0 0) (H := w.heap.size) (by show B ≠ w.heap.size; omega) cB0), (set10_cell (j := job00) (ch := .slice none 0 0) (H := w.heap.size) (by show B ≠ w.heap.size; omega) cB1)⟩ (fun hHeld => ?_)
    clear hK K
    refine pure_ (i := 10) (N := some 3) (v := ?_) (a' := ?_) #[true, true, true, true, true, true, true, true, true, true, true, false] rfl rfl (by kernel_rfl) (fun _ _ _ h => h) (Or.inl ⟨by rfl, ?_⟩) ?_ ?_
    rotate_left
    · intro w'
      go_simp
      with_reducible rfl
    rotate_left
    · simp only [Act.put, List.setIfInBounds_toArray, List.set_cons_zero, List.set_cons_succ, i64_w, i32_w]
      rfl
    refine pure_ (i := 11) (N := some 4) (v := ?_) (a' := ?_) #[true, true, true, true, true, true, true, true, true, true, true, true] rfl rfl (by kernel_rfl) (fun _ _ _ h => h) (Or.inl ⟨by rfl, ?_⟩) ?_ ?_
    rotate_left
    · intro w'
      go_simp
      with_reducible rfl
    rotate_left
    · simp only [Act.put, List.setIfInBounds_toArray, List.set_cons_zero, List.set_cons_succ, i64_w, i32_w]
      rfl
    refine done_ (by kernel_rfl) ?_
    go_wp2
    refine bodyPost_ret (v := .tuple #[zeroJV, .int .i64 n, .int .i64 y]) (by simp [results, Tryd.results4, go_sem, r, jobCells, zeroJV]) rfl ⟨hB3, .inl ⟨n, y, rfl, hHV.out⟩⟩
  · have h0 : Below w.heap.size w w1 := hb0.trans (hb1.mono (by simp))
    have hz : w1.heap[w.heap.size]? = some (.cells zeroJ 28 (0, 0)) := (hb1.block _ (by simp)).trans (heap_alloc_new w _)
    have hHV := Lib.hid hv
    have hs1 : w.heap.size < w1.heap.size := lt_of_block hz
    obtain ⟨w4, hW⟩ : ∃ W, W = (w1.alloc (.cells (jobCells j (.slice A0 n0 c0)) 28)).alloc (.cells #[.pointer none] 42) := ⟨_, rfl⟩
    have hbW : Below w1.heap.size w1 w4 := by rw [hW]; exact ((Below.refl _ _).alloc (Nat.le_refl _) _).alloc (by simp) _
    have hj4 : JB w4 28 w1.heap.size j (.slice A0 n0 c0) := by rw [hW]; exact a_past (a_at _ _ _ rfl)
    have hz4 : w4.heap[w.heap.size]? = some (.cells zeroJ 28 (0, 0)) := (hbW.block _ hs1).trans hz
    have hA := as_nil (.iface 44 (.pointer (some ⟨w1.heap.size + 1, 0, none⟩))) w4
    have z0 : w4.cell? ⟨w.heap.size, 0, none⟩ = some (.int .i64 0) := cell_of_row _ _ 0 _ _ (0, 0) hz4
    have z1 : w4.cell? ⟨w.heap.size, 1, none⟩ = some (.int .i64 0) := cell_of_row _ _ 1 _ _ (0, 0) hz4
    have z2 : w4.cell? ⟨w.heap.size, 2, none⟩ = some (.int .i64 0) := cell_of_row _ _ 2 _ _ (0, 0) hz4
    have z3 : w4.cell? ⟨w.heap.size, 3, none⟩ = some (.int .i64 0) := cell_of_row _ _ 3 _ _ (0, 0) hz4
    have z4 : w4.cell? ⟨w.heap.size, 4, none⟩ = some (.int .i64 0) := cell_of_row _ _ 4 _ _ (0, 0) hz4
    have z5 : w4.cell? ⟨w.heap.size, 5, none⟩ = some (.bool false) := cell_of_row _ _ 5 _ _ (0, 0) hz4
    have z6 : w4.cell? ⟨w.heap.size, 6, none⟩ = some (.bool false) := cell_of_row _ _ 6 _ _ (0, 0) hz4
    have z7 : w4.cell? ⟨w.heap.size, 7, none⟩ = some (.int .i64 0) := cell_of_row _ _ 7 _ _ (0, 0) hz4
    have z8 : w4.cell? ⟨w.heap.size, 8, none⟩ = some (.bool false) := cell_of_row _ _ 8 _ _ (0, 0) hz4
    have z9 : w4.cell? ⟨w.heap.size, 9, none⟩ = some (.slice none 0 0) := cell_of_row _ _ 9 _ _ (0, 0) hz4
    have q0 : w4.cell? ⟨w1.heap.size, 0, none⟩ = some (.int .i64 j.frm) := hj4.cell 0
    have q1 : w4.cell? ⟨w1.heap.size, 1, none⟩ = some (.int .i64 j.too) := hj4.cell 1
    have q2 : w4.cell? ⟨w1.heap.size, 2, none⟩ = some (.int .i64 j.mode) := hj4.cell 2
    have q3 : w4.cell? ⟨w1.heap.size, 3, none⟩ = some (.int .i64 j.depth) := hj4.cell 3
    have q4 : w4.cell? ⟨w1.heap.size, 4, none⟩ = some (.int .i64 j.size) := hj4.cell 4
    have q5 : w4.cell? ⟨w1.heap.size, 5, none⟩ = some (.bool j.once) := hj4.cell 5
    have q6 : w4.cell? ⟨w1.heap.size, 6, none⟩ = some (.bool j.opn) := hj4.cell 6
    have q7 : w4.cell? ⟨w1.heap.size, 7, none⟩ = some (.int .i64 j.indent) := hj4.cell 7
    have q8 : w4.cell? ⟨w1.heap.size, 8, none⟩ = some (.bool j.srt) := hj4.cell 8
    have q9 : w4.cell? ⟨w1.heap.size, 9, none⟩ = some (.slice A0 n0 c0) := hj4.cell 9
    have zf : ∀ i2, w4.frozen? ⟨w.heap.size, i2, none⟩ = false := fun i2 => frozen_of_row w4 _ i2 _ _ hz4
    have h04 : Below w.heap.size w w4 := (h0.trans (hbW.mono (Nat.le_of_lt hs1)))
    have SS := set10_at (w := w4) (j := j) (ch := .slice A0 n0 c0) hz4
    have r := SS.cell
    have hB3 := set10_below (H := w.heap.size) (j := j) (ch := .slice A0 n0 c0) h04 (Nat.le_refl _)
    have hc1 := hc.below hbW
    have hc2 : Chunks (set10 w4 w.heap.size j (.slice A0 n0 c0)) w.heap.size j.chunks (.slice A0 n0 c0) vs := (hc1.keep (fun k cs t ht hk => set10_other (fun q => by
        subst q
        rw [hz4] at hk
        simp at hk
        rcases ht with rfl | rfl
        · exact absurd hk.2 (by decide)
        · exact absurd hk.2 (by decide)))).mono (by simp)
    unfold set10 at r hB3 hc2
    unfold jobCells at hW ⊢
    clear hv hk hb1 hm hg SS hc hc1 hj4 hz4 hbW h04 hz hb0 h0
    go_wp2_with (go_at_call 9; rw [← hW]; refine hA.mono ?_; clear hA hW; rintro e4 w5 ⟨rfl, rfl⟩)
    refine bodyPost_ret (v := .tuple #[.agg (jobCells j (.slice A0 n0 c0)), .int .i64 0, .int .i64 0]) (by simp [results, Tryd.results4, go_sem, r, jobCells]) rfl ⟨hB3, .inr ⟨j, _, _, _, vs, rfl, hc2, hHV.out⟩⟩
end Go.Proofs.YtmejpcfbefjjaaaDoor.Scr
