/- glossatorref22.Parse. -/
import Derived.Test.YtmejpcfbefjjaaaDoorSParse2
namespace Go.Proofs.YtmejpcfbefjjaaaDoor.Scr
open Go.RowKit Go.Shelf Go.Proofs.YtmejpcfbefjjaaaDoorW.PrintLast
set_option linter.unusedVariables false
set_option linter.unusedSimpArgs false
theorem runL_cnone {j : Job} {L : List ByteArray} {k : Nat} {t : ByteArray} (hs : stepV j t = none) : runL j k (t :: L) = (none, k + 1) := by
  rw [runL, hs]
theorem runL_csome {j j' : Job} {L : List ByteArray} {k : Nat} {t : ByteArray} (hs : stepV j t = some j') : runL j k (t :: L) = runL j' (k + 1) L := by
  rw [runL, hs]
set_option maxRecDepth 100000 in
set_option maxHeartbeats 32000000 in
theorem rjob_calls (s : ByteArray) (w : World) : Calls Tryd.prog 5 #[.string s] w (JobPost s w) := by
  have hbw := Below.refl w.heap.size w
  by_cases hbig : 65536 < s.size
  · have hv : Hid (parseV s = (none, 0, 2)) := Lib.hid (by unfold parseV; rw [if_pos hbig])
    have hbi : (65536 : Int) < (s.size : Int) := by omega
    clear hbig
    go_enter Tryd.func5, Tryd.ntmps5
    go_wp2
    refine bodyPost_ret (v := .tuple #[zeroJV, .int .i64 0, .int .i64 2]) (by simp [results, Tryd.results5, go_sem, zeroJV]) rfl ⟨?_, .inl ⟨0, 2, rfl, hv.out⟩⟩
    exact hbw.alloc (Nat.le_refl _) _
  have hs : s.size ≤ 65536 := by omega
  have hbi : ¬ (65536 : Int) < (s.size : Int) := by omega
  obtain ⟨L, hL⟩ : ∃ L, pieces 10 s 0 0 = L := ⟨_, rfl⟩
  obtain ⟨R, hR⟩ : ∃ R, runL job0 0 L = R := ⟨_, rfl⟩
  have hv0 := parseV_small hbig hL
  rw [hR] at hv0
  have hv := Lib.hid hv0
  rw [← hL] at hR
  have HR0 : Hid ((0 ≤ s.size → runL job0 0 (pieces 10 s 0 0) = R) ∧ (0 = s.size + 1 → (some job0, 0) = R)) := Lib.hid ⟨fun _ => hR, fun h => by omega⟩
  obtain ⟨w1, hw1⟩ : ∃ w1, w1 = (w.alloc (.cells zeroJ 32)).alloc (.cells (jobCells job0 (.slice none 0 0)) 32) := ⟨_, rfl⟩
  have hz : w1.heap[w.heap.size]? = some (.cells zeroJ 32 (0, 0)) := by rw [hw1]; exact a_past (a_at _ _ _ rfl)
  have hj0 : JB w1 32 (w.heap.size + 1) job0 (.slice none 0 0) := by rw [hw1]; exact a_at _ _ _ (by simp)
  have hb1 : Below w.heap.size w w1 := by rw [hw1]; exact (hbw.alloc (Nat.le_refl _) _).alloc (by simp) _
  have hs1 : w1.heap.size = w.heap.size + 1 + 1 := by rw [hw1]; simp
  have HW1 := Lib.hid hw1
  clear hw1 hL hbig hv0 hR hbw
  go_enter Tryd.func5, Tryd.ntmps5
  go_wp2
  have e1 := HW1.out
  unfold zeroJ jobCells job0 at e1
  rw [← e1]
  clear e1 HW1
  go_loopg [6, 7, 8, 9, 10, 11] (s.size + 1) (fun kq v6 v7 v8 v9 v10 v11 wr => ∃ (i f at_ : Nat) (j : Job) (ch : Value) (vs : List Value), v6 = .int .i64 f ∧ v7 = .int .i64 at_ ∧ v8 = .int .i64 i ∧ i + kq = s.size + 1 ∧ f ≤ i ∧ at_ ≤ i ∧ JB wr 32 (w.heap.size + 1) j ch ∧ Chunks wr (w.heap.size + 1) j.chunks ch vs ∧ j.chunks.length ≤ at_ ∧ Hid ((i ≤ s.size → runL j at_ (pieces 10 s f i) = R) ∧ (i = s.size + 1 → (some j, 0) = R)) ∧ Below (w.heap.size + 1) w1 wr)
  case atStart => exact ⟨0, 0, 0, job0, .slice none 0 0, [], rfl, rfl, rfl, by omega, by omega, by omega, hj0, Chunks.nil _ _, Nat.zero_le _, HR0, Below.refl _ _⟩
  case round =>
    clear hj0 HR0
    obtain ⟨i, f, at_, j, ch, vs, rfl, rfl, rfl, hik, hfi, hai, hj, hc, hcl, HP, hB⟩ := hrel
    have hz1 : wr.heap[w.heap.size]? = some (.cells zeroJ 32 (0, 0)) := (hB.block _ (by omega)).trans hz
    have hBw : Below w.heap.size w wr := hb1.trans (hB.mono (Nat.le_succ _))
    have hsz := hB.size
    obtain ⟨Ac, cc, rfl, _⟩ := own_form hc.own
    cases gk with
    | zero =>
      skip
      have hi : i = s.size + 1 := by omega
      have hR := HP.out.2 hi
      have HV : Hid (parseV s = (some j, 0, 0)) := by
        have h1 := hv.out
        rw [← hR] at h1
        exact Lib.hid h1
      have hle : ¬ (i : Int) ≤ (s.size : Int) := by omega
      clear hR HP hv hi hz
      have q0 : wr.cell? ⟨w.heap.size + 1, 0, none⟩ = some (.int .i64 j.frm) := hj.cell 0
      have q1 : wr.cell? ⟨w.heap.size + 1, 1, none⟩ = some (.int .i64 j.too) := hj.cell 1
      have q2 : wr.cell? ⟨w.heap.size + 1, 2, none⟩ = some (.int .i64 j.mode) := hj.cell 2
      have q3 : wr.cell? ⟨w.heap.size + 1, 3, none⟩ = some (.int .i64 j.depth) := hj.cell 3
      have q4 : wr.cell? ⟨w.heap.size + 1, 4, none⟩ = some (.int .i64 j.size) := hj.cell 4
      have q5 : wr.cell? ⟨w.heap.size + 1, 5, none⟩ = some (.bool j.once) := hj.cell 5
      have q6 : wr.cell? ⟨w.heap.size + 1, 6, none⟩ = some (.bool j.opn) := hj.cell 6
      have q7 : wr.cell? ⟨w.heap.size + 1, 7, none⟩ = some (.int .i64 j.indent) := hj.cell 7
      have q8 : wr.cell? ⟨w.heap.size + 1, 8, none⟩ = some (.bool j.srt) := hj.cell 8
      have q9 : wr.cell? ⟨w.heap.size + 1, 9, none⟩ = some (.slice Ac j.chunks.length cc) := hj.cell 9
      have z0 : wr.cell? ⟨w.heap.size, 0, none⟩ = some (.int .i64 0) := cell_of_row _ _ 0 _ _ (0, 0) hz1
      have z1 : wr.cell? ⟨w.heap.size, 1, none⟩ = some (.int .i64 0) := cell_of_row _ _ 1 _ _ (0, 0) hz1
      have z2 : wr.cell? ⟨w.heap.size, 2, none⟩ = some (.int .i64 0) := cell_of_row _ _ 2 _ _ (0, 0) hz1
      have z3 : wr.cell? ⟨w.heap.size, 3, none⟩ = some (.int .i64 0) := cell_of_row _ _ 3 _ _ (0, 0) hz1
      have z4 : wr.cell? ⟨w.heap.size, 4, none⟩ = some (.int .i64 0) := cell_of_row _ _ 4 _ _ (0, 0) hz1
      have z5 : wr.cell? ⟨w.heap.size, 5, none⟩ = some (.bool false) := cell_of_row _ _ 5 _ _ (0, 0) hz1
      have z6 : wr.cell? ⟨w.heap.size, 6, none⟩ = some (.bool false) := cell_of_row _ _ 6 _ _ (0, 0) hz1
      have z7 : wr.cell? ⟨w.heap.size, 7, none⟩ = some (.int .i64 0) := cell_of_row _ _ 7 _ _ (0, 0) hz1
      have z8 : wr.cell? ⟨w.heap.size, 8, none⟩ = some (.bool false) := cell_of_row _ _ 8 _ _ (0, 0) hz1
      have z9 : wr.cell? ⟨w.heap.size, 9, none⟩ = some (.slice none 0 0) := cell_of_row _ _ 9 _ _ (0, 0) hz1
      have zf : ∀ i2, wr.frozen? ⟨w.heap.size, i2, none⟩ = false := fun i2 => frozen_of_row _ _ i2 _ _ hz1
      have SS := set10_at (w := wr) (j := j) (ch := .slice Ac j.chunks.length cc) hz1
      have r := SS.cell
      have hB3 := set10_below (H := w.heap.size) (j := j) (ch := .slice Ac j.chunks.length cc) hBw (Nat.le_refl _)
      have hc3 : Chunks (set10 wr w.heap.size j (.slice Ac j.chunks.length cc)) w.heap.size j.chunks (.slice Ac j.chunks.length cc) vs := (hc.keep (fun k cs t ht hk => set10_other (fun q => by
        subst q
        rw [hz1] at hk
        simp at hk
        rcases ht with rfl | rfl
        · exact absurd hk.2 (by decide)
        · exact absurd hk.2 (by decide)))).mono (by omega)
      unfold set10 at r hB3 hc3
      clear SS hc hj hz1 hBw hB hb1
      go_wp2
      refine bodyPost_ret (v := .tuple #[.agg (jobCells j (.slice Ac j.chunks.length cc)), .int .i64 0, .int .i64 0]) (by simp [results, Tryd.results5, go_sem, r, jobCells]) rfl ⟨hB3, .inr ⟨j, _, _, _, vs, rfl, hc3, HV.out⟩⟩
    | succ d =>
      have hle : (i : Int) ≤ (s.size : Int) := by omega
      have hP1 := HP.out.1 (by omega)
      clear HP
      have hf1 : (f : Int) ≤ (i : Int) := by omega
      have hBr : True := trivial
      have hm : True := trivial
      by_cases hend : i = s.size
      · rw [pieces_end (by omega)] at hP1
        have HR := Lib.hid hP1
        have hrest : Hid (∀ j', runL j' (at_ + 1) [] = R → (s.size + 1 ≤ s.size → runL j' (at_ + 1) (pieces 10 s (s.size + 1) (s.size + 1)) = R) ∧ (s.size + 1 = s.size + 1 → (some j', 0) = R)) := Lib.hid (fun j' h => ⟨fun h2 => by omega, fun _ => h⟩)
        subst hend
        clear hP1
        have hts : (s.extract f s.size).size ≤ 65536 := by rw [ByteArray.size_extract]; omega
        obtain ⟨t, ht⟩ : ∃ t, s.extract f s.size = t := ⟨_, rfl⟩
        rw [ht] at HR hts
        have hbl := bts_length t
        have HB1w : Hid (Below w.heap.size w wr) := Lib.hid hBw
        by_cases hsk : (bts t)[0]? = none ∨ (bts t)[0]? = some 35
        · skip
          have hst := stepV_skip (j := j) hsk
          have HN := Lib.hid (hrest.out j (by rw [← runL_csome hst]; exact HR.out))
          by_cases ht0 : t.size = 0
          · have he := (tl_t t _).2 (empty_of ht0)
            clear hsk hst HR hrest hbl hm hBw
            go_wp2
            go_roundg d
            case measure => omega
            case rel => exact ⟨s.size + 1, s.size + 1, at_ + 1, j, .slice Ac j.chunks.length cc, vs, by go_num, by go_num, by go_num, by omega, by omega, by omega, hj, hc, by omega, (Lib.hid ⟨fun h => absurd h (by omega), fun _ => HN.out.2 trivial⟩), hB⟩
          · have he := full_of ht0
            have ht1 : 0 < t.size := by omega
            have h35 : ((t[0]'ht1).toNat : Int) = 35 := by
              rcases hsk with q | q
              · rw [bts_at t 0 ht1] at q; cases q
              · rw [bts_at t 0 ht1] at q
                have := Option.some.inj q
                omega
            have ht1i : (0 : Int) < (t.size : Int) := by omega
            clear hsk hst HR hrest hbl hm hBw
            go_wp2
            go_roundg d
            case measure => omega
            case rel => exact ⟨s.size + 1, s.size + 1, at_ + 1, j, .slice Ac j.chunks.length cc, vs, by go_num, by go_num, by go_num, by omega, by omega, by omega, hj, hc, by omega, (Lib.hid ⟨fun h => absurd h (by omega), fun _ => HN.out.2 trivial⟩), hB⟩
        have ht1 : 0 < t.size := by
          rcases Nat.eq_zero_or_pos t.size with q | q
          · exact absurd (.inl (by rw [empty_of q]; rfl)) hsk
          · exact q
        have he := full_of (x := t) (by omega)
        have h35 : ((t[0]'ht1).toNat : Int) ≠ 35 := fun q => hsk (.inr (by rw [bts_at t 0 ht1]; congr 1; omega))
        have h35b : (((t[0]'ht1).toNat : Int) == 35) = false := by rw [beq_eq_false_iff_ne]; exact h35
        have ht1i : (0 : Int) < (t.size : Int) := by omega
        have kw := words_calls t wr hts
        have hwl := pieces_size 32 t t.size 0 0 (by omega) (by omega)
        go_wp2_with fail
        refine kw.mono ?_
        rintro e2 w2 ⟨v2, rfl, hown0, hb2⟩
        clear kw
        have hz2 : w2.heap[w.heap.size]? = some (.cells zeroJ 32 (0, 0)) := (hb2.block _ (by omega)).trans hz1
        have hj2 : JB w2 32 (w.heap.size + 1) j (.slice Ac j.chunks.length cc) := hj.below hb2
        have hc2 := hc.below hb2
        have hB2 : Below (w.heap.size + 1) w1 w2 := hB.trans (hb2.mono (by omega))
        have hB2w : Below w.heap.size w w2 := hBw.trans (hb2.mono (by omega))
        have hs2 := hb2.size
        rcases hW : pieces 32 t 0 0 with _ | ⟨a, _ | ⟨b, _ | ⟨c, r⟩⟩⟩
        · exact absurd hW (pieces_ne 32 t)
        · have hown : w2.ownsRow wr.heap.size 9 1 v2 (0 + 1) [.string a] := by rw [hW] at hown0; exact hown0
          obtain ⟨g, cap, rfl⟩ := own_succ hown
          have ca : w2.cell? ⟨g, 0, none⟩ = some (.string a) := hown.cellAt 0 (by omega)
          obtain rfl : a = t := pieces_one hW
          have hst := stepV_one (j := j) hsk hW
          have kf := one_calls (w.heap.size + 1) j (.slice Ac j.chunks.length cc) a w2 hj2
          clear hown0 hown hwl
          cases hfl : flagV j a with
          | none =>
            skip
            rw [hfl] at hst
            have HVE : Hid (parseV s = (none, at_ + 1, 4)) := by
              have h1 := hv.out
              have h2 := HR.out
              rw [runL_cnone hst] at h2
              rw [← h2] at h1
              exact Lib.hid h1
            have kf2 := kf.mono (fun _ _ h => h.bad hfl)
            have hzW := hz2
            have hBW := hB2w
            clear hst HR hrest hv hsk kf hfl hz2 hB2w hB2 hc2 hj2 hc hj hB hBw hm hz hz1 hbl hBr hb2
            have z0 : w2.cell? ⟨w.heap.size, 0, none⟩ = some (.int .i64 0) := cell_of_row _ _ 0 _ _ (0, 0) hzW
            have z1 : w2.cell? ⟨w.heap.size, 1, none⟩ = some (.int .i64 0) := cell_of_row _ _ 1 _ _ (0, 0) hzW
            have z2 : w2.cell? ⟨w.heap.size, 2, none⟩ = some (.int .i64 0) := cell_of_row _ _ 2 _ _ (0, 0) hzW
            have z3 : w2.cell? ⟨w.heap.size, 3, none⟩ = some (.int .i64 0) := cell_of_row _ _ 3 _ _ (0, 0) hzW
            have z4 : w2.cell? ⟨w.heap.size, 4, none⟩ = some (.int .i64 0) := cell_of_row _ _ 4 _ _ (0, 0) hzW
            have z5 : w2.cell? ⟨w.heap.size, 5, none⟩ = some (.bool false) := cell_of_row _ _ 5 _ _ (0, 0) hzW
            have z6 : w2.cell? ⟨w.heap.size, 6, none⟩ = some (.bool false) := cell_of_row _ _ 6 _ _ (0, 0) hzW
            have z7 : w2.cell? ⟨w.heap.size, 7, none⟩ = some (.int .i64 0) := cell_of_row _ _ 7 _ _ (0, 0) hzW
            have z8 : w2.cell? ⟨w.heap.size, 8, none⟩ = some (.bool false) := cell_of_row _ _ 8 _ _ (0, 0) hzW
            have z9 : w2.cell? ⟨w.heap.size, 9, none⟩ = some (.slice none 0 0) := cell_of_row _ _ 9 _ _ (0, 0) hzW
            have zf : ∀ i2, w2.frozen? ⟨w.heap.size, i2, none⟩ = false := fun i2 => frozen_of_row _ _ i2 _ _ hzW
            have SS := set10_at (w := w2) (j := job00) (ch := .slice none 0 0) hzW
            have r := SS.cell
            have hB3 := set10_below (H := w.heap.size) (j := job00) (ch := .slice none 0 0) hBW (Nat.le_refl _)
            unfold set10 job00 at r hB3
            clear SS hzW hBW
            go_wp2_with (go_at_call 11; refine kf2.mono ?_; clear kf2; rintro _ _ ⟨rfl, rfl⟩)
            refine bodyPost_ret (v := .tuple #[zeroJV, .int .i64 ((at_ + 1 : Nat) : Int), .int .i64 ((4 : Nat) : Int)]) (by simp [results, Tryd.results5, go_sem, r, jobCells, zeroJV]) rfl ⟨hB3, .inl ⟨at_ + 1, 4, rfl, HVE.out⟩⟩
          | some j' =>
            skip
            rw [hfl] at hst
            have HN := Lib.hid (hrest.out j' (by rw [← runL_csome hst]; exact HR.out))
            have kf2 := kf.mono (fun _ _ h => h.ok hfl)
            clear hst HR hrest hsk kf hfl hbl hm hBw
            go_wp2_with (go_at_call 11; refine kf2.mono ?_; clear kf2; rintro _ _ ⟨rfl, i3, hj3, hch3, rfl⟩)
            go_roundg d
            case measure => omega
            case rel =>
              refine ⟨s.size + 1, s.size + 1, at_ + 1, j', .slice Ac j.chunks.length cc, vs, by go_num, by go_num, by go_num, by omega, by omega, by omega, hj3, ?_, by rw [hch3]; omega, (Lib.hid ⟨fun h => absurd h (by omega), fun _ => HN.out.2 trivial⟩), ?_⟩
              · rw [hch3]
                exact hc2.setJ hj2 (by decide) i3 _
              · exact hB2.setCell (p := ⟨w.heap.size + 1, i3, none⟩) (Nat.le_refl _) _
        · have hown : w2.ownsRow wr.heap.size 9 1 v2 (1 + 1) [.string a, .string b] := by rw [hW] at hown0; exact hown0
          obtain ⟨g, cap, rfl⟩ := own_succ hown
          have ca : w2.drew.cell? ⟨g, 0, none⟩ = some (.string a) := hown.cellAt 0 (by omega)
          have cb : w2.drew.cell? ⟨g, 1, none⟩ = some (.string b) := hown.cellAt 1 (by omega)
          have hst := stepV_two (j := j) hsk hW
          have hbs : b.size ≤ 65536 := Nat.le_trans (hwl b (by rw [hW]; simp)) hts
          have kf := two_calls (w.heap.size + 1) (w.heap.size + 1) j (.slice Ac j.chunks.length cc) vs a b w2.drew hj2 (hc2.keep (fun _ _ _ _ _ => rfl)) (Nat.le_refl _) (by show _ ≤ w2.heap.size; omega) hbs (by omega)
          clear hown0 hown hwl
          cases hfl : setV j a b with
          | none =>
            skip
            rw [hfl] at hst
            have HVE : Hid (parseV s = (none, at_ + 1, 4)) := by
              have h1 := hv.out
              have h2 := HR.out
              rw [runL_cnone hst] at h2
              rw [← h2] at h1
              exact Lib.hid h1
            have kf2 := kf.mono (fun _ _ h => h.bad hfl)
            clear hst HR hrest hv hsk kf hfl
            go_wp2_with fail
            refine start_ (n := 9) (S := fun w' => w'.cell? ⟨g, 0, none⟩ = some (.string a) ∧ w'.cell? ⟨g, 1, none⟩ = some (.string b)) (ds := [7]) #[false, false, false, false, false, false, false, false, false] (by kernel_rfl) rfl rfl ⟨ca, cb⟩ (fun hHeld => ?_)
            refine pure_ (i := 0) (N := some 63) (v := ?_) (a' := ?_) #[true, false, false, false, false, false, false, false, false] rfl rfl (by kernel_rfl) (fun _ _ _ h => h) (Or.inl ⟨by rfl, ?_⟩) ?_ ?_
            rotate_left
            · intro w'
              go_simp
              with_reducible rfl
            rotate_left
            · simp only [Act.put, List.setIfInBounds_toArray, List.set_cons_zero, List.set_cons_succ, i64_w, i32_w]
              rfl
            refine pure_ (i := 1) (N := some 64) (v := ?_) (a' := ?_) #[true, true, false, false, false, false, false, false, false] rfl rfl (by kernel_rfl) (fun _ _ _ h => h) (Or.inl ⟨by rfl, ?_⟩) ?_ ?_
            rotate_left
            · intro w'
              go_simp
              with_reducible rfl
            rotate_left
            · simp only [Act.put, List.setIfInBounds_toArray, List.set_cons_zero, List.set_cons_succ, i64_w, i32_w]
              rfl
            refine pure_ (i := 2) (N := some 65) (v := ?_) (a' := ?_) #[true, true, true, false, false, false, false, false, false] rfl rfl (by kernel_rfl) (fun _ _ _ h => h) (Or.inl ⟨by rfl, ?_⟩) ?_ ?_
            rotate_left
            · intro w'
              go_simp
              with_reducible rfl
            rotate_left
            · simp only [Act.put, List.setIfInBounds_toArray, List.set_cons_zero, List.set_cons_succ, i64_w, i32_w]
              rfl
            refine pure_ (i := 4) (N := some 67) (v := ?_) (a' := ?_) #[true, true, true, false, true, false, false, false, false] rfl rfl (by kernel_rfl) (fun _ _ _ h => h) (Or.inl ⟨by rfl, ?_⟩) ?_ ?_
            rotate_left
            · intro w'
              go_simp
              with_reducible rfl
            rotate_left
            · simp only [Act.put, List.setIfInBounds_toArray, List.set_cons_zero, List.set_cons_succ, i64_w, i32_w]
              rfl
            refine pure_ (i := 5) (N := some 68) (v := ?_) (a' := ?_) #[true, true, true, false, true, true, false, false, false] rfl rfl (by kernel_rfl) (fun _ _ _ h => h) (Or.inl ⟨by rfl, ?_⟩) ?_ ?_
            rotate_left
            · intro w'
              go_simp
              with_reducible rfl
            rotate_left
            · simp only [Act.put, List.setIfInBounds_toArray, List.set_cons_zero, List.set_cons_succ, i64_w, i32_w]
              rfl
            refine take_ (i := 3) (N := some 66) (v := ?_) (a' := ?_) #[true, true, true, true, true, true, false, false, false] rfl rfl (by kernel_rfl) (fun _ _ _ h => h) (Or.inl ⟨by rfl, ?_⟩) hHeld ?_ ?_
            rotate_left
            · rintro w' ⟨s0, s1⟩
              go_simp
              with_reducible rfl
            rotate_left
            · simp only [Act.put, List.setIfInBounds_toArray, List.set_cons_zero, List.set_cons_succ, i64_w, i32_w]
              rfl
            refine take_ (i := 6) (N := some 69) (v := ?_) (a' := ?_) #[true, true, true, true, true, true, true, false, false] rfl rfl (by kernel_rfl) (fun _ _ _ h => h) (Or.inl ⟨by rfl, ?_⟩) hHeld ?_ ?_
            rotate_left
            · rintro w' ⟨s0, s1⟩
              go_simp
              with_reducible rfl
            rotate_left
            · simp only [Act.put, List.setIfInBounds_toArray, List.set_cons_zero, List.set_cons_succ, i64_w, i32_w]
              rfl
            refine last_ (i := 7) (N := some 70) #[true, true, true, true, true, true, true, true, false] rfl rfl (by kernel_rfl) (by decide) (fun K hK => ?_)
            refine goes_ Tryd.func12 (by kernel_rfl) rfl #[.pointer (some ⟨w.heap.size + 1, 0, none⟩), .string a, .string b] (by rfl) rfl rfl (by simp only [List.map_toArray, List.map_cons, List.map_nil]; rfl) ?_
            with_reducible refine (kf2).mono ?_
            rintro _ _ ⟨rfl, hb3, j3, A3, n3, c3, hj3⟩
            refine ⟨_, rfl, ?_⟩
            refine hK.out _ _ ?_
            clear hK K
            refine norm_ (a' := ?_) ?_ ?_
            rotate_left
            · show Act.put _ (some 70) _ = _
              simp only [Act.put, List.setIfInBounds_toArray, List.set_cons_zero, List.set_cons_succ, i64_w, i32_w]
              rfl
            refine pure_ (i := 8) (N := some 11) (v := ?_) (a' := ?_) #[true, true, true, true, true, true, true, true, true] rfl rfl (by kernel_rfl) (fun _ _ _ h => h) (Or.inl ⟨by rfl, ?_⟩) ?_ ?_
            rotate_left
            · intro w'
              go_simp
              with_reducible rfl
            rotate_left
            · simp only [Act.put, List.setIfInBounds_toArray, List.set_cons_zero, List.set_cons_succ, i64_w, i32_w]
              rfl
            refine done_ (by kernel_rfl) ?_
            have hzW := (hb3.block w.heap.size (Nat.lt_succ_self _)).trans hz2
            have hBW := hB2w.drew.trans (hb3.mono (Nat.le_succ _))
            clear hz2 hB2w hB2 hc2 hj2 hc hj hB hBw hm hz hz1 hbl hBr hb2 hj3 hb3
            rename_i W
            have z0 : W.cell? ⟨w.heap.size, 0, none⟩ = some (.int .i64 0) := cell_of_row _ _ 0 _ _ (0, 0) hzW
            have z1 : W.cell? ⟨w.heap.size, 1, none⟩ = some (.int .i64 0) := cell_of_row _ _ 1 _ _ (0, 0) hzW
            have z2 : W.cell? ⟨w.heap.size, 2, none⟩ = some (.int .i64 0) := cell_of_row _ _ 2 _ _ (0, 0) hzW
            have z3 : W.cell? ⟨w.heap.size, 3, none⟩ = some (.int .i64 0) := cell_of_row _ _ 3 _ _ (0, 0) hzW
            have z4 : W.cell? ⟨w.heap.size, 4, none⟩ = some (.int .i64 0) := cell_of_row _ _ 4 _ _ (0, 0) hzW
            have z5 : W.cell? ⟨w.heap.size, 5, none⟩ = some (.bool false) := cell_of_row _ _ 5 _ _ (0, 0) hzW
            have z6 : W.cell? ⟨w.heap.size, 6, none⟩ = some (.bool false) := cell_of_row _ _ 6 _ _ (0, 0) hzW
            have z7 : W.cell? ⟨w.heap.size, 7, none⟩ = some (.int .i64 0) := cell_of_row _ _ 7 _ _ (0, 0) hzW
            have z8 : W.cell? ⟨w.heap.size, 8, none⟩ = some (.bool false) := cell_of_row _ _ 8 _ _ (0, 0) hzW
            have z9 : W.cell? ⟨w.heap.size, 9, none⟩ = some (.slice none 0 0) := cell_of_row _ _ 9 _ _ (0, 0) hzW
            have zf : ∀ i2, W.frozen? ⟨w.heap.size, i2, none⟩ = false := fun i2 => frozen_of_row _ _ i2 _ _ hzW

            have SS := set10_at (w := W) (j := job00) (ch := .slice none 0 0) hzW
            have r := SS.cell
            have hB3 := set10_below (H := w.heap.size) (j := job00) (ch := .slice none 0 0) hBW (Nat.le_refl _)
            unfold set10 job00 at r hB3
            clear SS
            go_wp2
            refine bodyPost_ret (v := .tuple #[zeroJV, .int .i64 ((at_ + 1 : Nat) : Int), .int .i64 ((4 : Nat) : Int)]) (by simp [results, Tryd.results5, go_sem, r, jobCells, zeroJV]) rfl ⟨hB3, .inl ⟨at_ + 1, 4, rfl, HVE.out⟩⟩
          | some j' =>
            skip
            rw [hfl] at hst
            have HN := Lib.hid (hrest.out j' (by rw [← runL_csome hst]; exact HR.out))
            have kf2 := kf.mono (fun _ _ h => h.ok hfl)
            clear hst HR hrest hsk kf hfl
            go_wp2_with fail
            refine start_ (n := 9) (S := fun w' => w'.cell? ⟨g, 0, none⟩ = some (.string a) ∧ w'.cell? ⟨g, 1, none⟩ = some (.string b)) (ds := [7]) #[false, false, false, false, false, false, false, false, false] (by kernel_rfl) rfl rfl ⟨ca, cb⟩ (fun hHeld => ?_)
            refine pure_ (i := 0) (N := some 63) (v := ?_) (a' := ?_) #[true, false, false, false, false, false, false, false, false] rfl rfl (by kernel_rfl) (fun _ _ _ h => h) (Or.inl ⟨by rfl, ?_⟩) ?_ ?_
            rotate_left
            · intro w'
              go_simp
              with_reducible rfl
            rotate_left
            · simp only [Act.put, List.setIfInBounds_toArray, List.set_cons_zero, List.set_cons_succ, i64_w, i32_w]
              rfl
            refine pure_ (i := 1) (N := some 64) (v := ?_) (a' := ?_) #[true, true, false, false, false, false, false, false, false] rfl rfl (by kernel_rfl) (fun _ _ _ h => h) (Or.inl ⟨by rfl, ?_⟩) ?_ ?_
            rotate_left
            · intro w'
              go_simp
              with_reducible rfl
            rotate_left
            · simp only [Act.put, List.setIfInBounds_toArray, List.set_cons_zero, List.set_cons_succ, i64_w, i32_w]
              rfl
            refine pure_ (i := 2) (N := some 65) (v := ?_) (a' := ?_) #[true, true, true, false, false, false, false, false, false] rfl rfl (by kernel_rfl) (fun _ _ _ h => h) (Or.inl ⟨by rfl, ?_⟩) ?_ ?_
            rotate_left
            · intro w'
              go_simp
              with_reducible rfl
            rotate_left
            · simp only [Act.put, List.setIfInBounds_toArray, List.set_cons_zero, List.set_cons_succ, i64_w, i32_w]
              rfl
            refine pure_ (i := 4) (N := some 67) (v := ?_) (a' := ?_) #[true, true, true, false, true, false, false, false, false] rfl rfl (by kernel_rfl) (fun _ _ _ h => h) (Or.inl ⟨by rfl, ?_⟩) ?_ ?_
            rotate_left
            · intro w'
              go_simp
              with_reducible rfl
            rotate_left
            · simp only [Act.put, List.setIfInBounds_toArray, List.set_cons_zero, List.set_cons_succ, i64_w, i32_w]
              rfl
            refine pure_ (i := 5) (N := some 68) (v := ?_) (a' := ?_) #[true, true, true, false, true, true, false, false, false] rfl rfl (by kernel_rfl) (fun _ _ _ h => h) (Or.inl ⟨by rfl, ?_⟩) ?_ ?_
            rotate_left
            · intro w'
              go_simp
              with_reducible rfl
            rotate_left
            · simp only [Act.put, List.setIfInBounds_toArray, List.set_cons_zero, List.set_cons_succ, i64_w, i32_w]
              rfl
            refine take_ (i := 3) (N := some 66) (v := ?_) (a' := ?_) #[true, true, true, true, true, true, false, false, false] rfl rfl (by kernel_rfl) (fun _ _ _ h => h) (Or.inl ⟨by rfl, ?_⟩) hHeld ?_ ?_
            rotate_left
            · rintro w' ⟨s0, s1⟩
              go_simp
              with_reducible rfl
            rotate_left
            · simp only [Act.put, List.setIfInBounds_toArray, List.set_cons_zero, List.set_cons_succ, i64_w, i32_w]
              rfl
            refine take_ (i := 6) (N := some 69) (v := ?_) (a' := ?_) #[true, true, true, true, true, true, true, false, false] rfl rfl (by kernel_rfl) (fun _ _ _ h => h) (Or.inl ⟨by rfl, ?_⟩) hHeld ?_ ?_
            rotate_left
            · rintro w' ⟨s0, s1⟩
              go_simp
              with_reducible rfl
            rotate_left
            · simp only [Act.put, List.setIfInBounds_toArray, List.set_cons_zero, List.set_cons_succ, i64_w, i32_w]
              rfl
            refine last_ (i := 7) (N := some 70) #[true, true, true, true, true, true, true, true, false] rfl rfl (by kernel_rfl) (by decide) (fun K hK => ?_)
            refine goes_ Tryd.func12 (by kernel_rfl) rfl #[.pointer (some ⟨w.heap.size + 1, 0, none⟩), .string a, .string b] (by rfl) rfl rfl (by simp only [List.map_toArray, List.map_cons, List.map_nil]; rfl) ?_
            with_reducible refine (kf2).mono ?_
            rintro _ _ ⟨rfl, ch3, vs3, hj3, hc3, hl3, hb3, hk3⟩
            refine ⟨_, rfl, ?_⟩
            refine hK.out _ _ ?_
            clear hK K
            refine norm_ (a' := ?_) ?_ ?_
            rotate_left
            · show Act.put _ (some 70) _ = _
              simp only [Act.put, List.setIfInBounds_toArray, List.set_cons_zero, List.set_cons_succ, i64_w, i32_w]
              rfl
            refine pure_ (i := 8) (N := some 11) (v := ?_) (a' := ?_) #[true, true, true, true, true, true, true, true, true] rfl rfl (by kernel_rfl) (fun _ _ _ h => h) (Or.inl ⟨by rfl, ?_⟩) ?_ ?_
            rotate_left
            · intro w'
              go_simp
              with_reducible rfl
            rotate_left
            · simp only [Act.put, List.setIfInBounds_toArray, List.set_cons_zero, List.set_cons_succ, i64_w, i32_w]
              rfl
            refine done_ (by kernel_rfl) ?_
            go_wp2
            go_roundg d
            case measure => omega
            case rel => exact ⟨s.size + 1, s.size + 1, at_ + 1, j', _, vs3, by go_num, by go_num, by go_num, by omega, by omega, by omega, hj3, hc3, by omega, (Lib.hid ⟨fun h => absurd h (by omega), fun _ => HN.out.2 trivial⟩), hB2.drew.trans hb3⟩
        · skip
          have hst := stepV_more (j := j) hsk hW
          have hown : w2.ownsRow wr.heap.size 9 1 v2 (r.length + 1 + 1 + 1) ((a :: b :: c :: r).map Value.string) := by rw [hW] at hown0; exact hown0
          obtain ⟨g, cap, rfl⟩ := own_succ hown
          have hl1 : (((r.length + 1 + 1 + 1 : Nat) : Int) == 1) = false := by rw [beq_eq_false_iff_ne]; omega
          have hl2 : (((r.length + 1 + 1 + 1 : Nat) : Int) == 2) = false := by rw [beq_eq_false_iff_ne]; omega
          have HVE : Hid (parseV s = (none, at_ + 1, 4)) := by
            have h1 := hv.out
            have h2 := HR.out
            rw [runL_cnone hst] at h2
            rw [← h2] at h1
            exact Lib.hid h1
          have hzW := hz2
          have hBW := hB2w
          clear hown hown0 hwl hst HR hrest hv hsk hW hz2 hB2w hB2 hc2 hj2 hc hj hB hBw hm hz hz1 hbl hBr hb2
          generalize r.length + 1 + 1 + 1 = nW at hl1 hl2 ⊢
          have z0 : w2.cell? ⟨w.heap.size, 0, none⟩ = some (.int .i64 0) := cell_of_row _ _ 0 _ _ (0, 0) hzW
          have z1 : w2.cell? ⟨w.heap.size, 1, none⟩ = some (.int .i64 0) := cell_of_row _ _ 1 _ _ (0, 0) hzW
          have z2 : w2.cell? ⟨w.heap.size, 2, none⟩ = some (.int .i64 0) := cell_of_row _ _ 2 _ _ (0, 0) hzW
          have z3 : w2.cell? ⟨w.heap.size, 3, none⟩ = some (.int .i64 0) := cell_of_row _ _ 3 _ _ (0, 0) hzW
          have z4 : w2.cell? ⟨w.heap.size, 4, none⟩ = some (.int .i64 0) := cell_of_row _ _ 4 _ _ (0, 0) hzW
          have z5 : w2.cell? ⟨w.heap.size, 5, none⟩ = some (.bool false) := cell_of_row _ _ 5 _ _ (0, 0) hzW
          have z6 : w2.cell? ⟨w.heap.size, 6, none⟩ = some (.bool false) := cell_of_row _ _ 6 _ _ (0, 0) hzW
          have z7 : w2.cell? ⟨w.heap.size, 7, none⟩ = some (.int .i64 0) := cell_of_row _ _ 7 _ _ (0, 0) hzW
          have z8 : w2.cell? ⟨w.heap.size, 8, none⟩ = some (.bool false) := cell_of_row _ _ 8 _ _ (0, 0) hzW
          have z9 : w2.cell? ⟨w.heap.size, 9, none⟩ = some (.slice none 0 0) := cell_of_row _ _ 9 _ _ (0, 0) hzW
          have zf : ∀ i2, w2.frozen? ⟨w.heap.size, i2, none⟩ = false := fun i2 => frozen_of_row _ _ i2 _ _ hzW

          have SS := set10_at (w := w2) (j := job00) (ch := .slice none 0 0) hzW
          have r := SS.cell
          have hB3 := set10_below (H := w.heap.size) (j := job00) (ch := .slice none 0 0) hBW (Nat.le_refl _)
          unfold set10 job00 at r hB3
          clear SS
          go_wp2
          refine bodyPost_ret (v := .tuple #[zeroJV, .int .i64 ((at_ + 1 : Nat) : Int), .int .i64 ((4 : Nat) : Int)]) (by simp [results, Tryd.results5, go_sem, r, jobCells, zeroJV]) rfl ⟨hB3, .inl ⟨at_ + 1, 4, rfl, HVE.out⟩⟩
      · have hlt : i < s.size := by omega
        have hil : (i : Int) < (s.size : Int) := by omega
        by_cases hc10 : s[i]'hlt = 10
        · rw [pieces_hit hlt hc10] at hP1
          have HR := Lib.hid hP1
          have hrest : Hid (∀ j', runL j' (at_ + 1) (pieces 10 s (i + 1) (i + 1)) = R → (i + 1 ≤ s.size → runL j' (at_ + 1) (pieces 10 s (i + 1) (i + 1)) = R) ∧ (i + 1 = s.size + 1 → (some j', 0) = R)) := Lib.hid (fun j' h => ⟨fun _ => h, fun h2 => by omega⟩)
          have hcn : ((s[i]'hlt).toNat : Int) = 10 := by rw [hc10]; rfl
          clear hP1
          have hts : (s.extract f i).size ≤ 65536 := by rw [ByteArray.size_extract]; omega
          obtain ⟨t, ht⟩ : ∃ t, s.extract f i = t := ⟨_, rfl⟩
          rw [ht] at HR hts
          have hbl := bts_length t
          have HB1w : Hid (Below w.heap.size w wr) := Lib.hid hBw
          by_cases hsk : (bts t)[0]? = none ∨ (bts t)[0]? = some 35
          · skip
            have hst := stepV_skip (j := j) hsk
            have HN := Lib.hid (hrest.out j (by rw [← runL_csome hst]; exact HR.out))
            by_cases ht0 : t.size = 0
            · have he := (tl_t t _).2 (empty_of ht0)
              clear hsk hst HR hrest hbl hm hBw
              go_wp2
              go_roundg d
              case measure => omega
              case rel => exact ⟨i + 1, i + 1, at_ + 1, j, .slice Ac j.chunks.length cc, vs, by go_num, by go_num, by go_num, by omega, by omega, by omega, hj, hc, by omega, HN, hB⟩
            · have he := full_of ht0
              have ht1 : 0 < t.size := by omega
              have h35 : ((t[0]'ht1).toNat : Int) = 35 := by
                rcases hsk with q | q
                · rw [bts_at t 0 ht1] at q; cases q
                · rw [bts_at t 0 ht1] at q
                  have := Option.some.inj q
                  omega
              have ht1i : (0 : Int) < (t.size : Int) := by omega
              clear hsk hst HR hrest hbl hm hBw
              go_wp2
              go_roundg d
              case measure => omega
              case rel => exact ⟨i + 1, i + 1, at_ + 1, j, .slice Ac j.chunks.length cc, vs, by go_num, by go_num, by go_num, by omega, by omega, by omega, hj, hc, by omega, HN, hB⟩
          have ht1 : 0 < t.size := by
            rcases Nat.eq_zero_or_pos t.size with q | q
            · exact absurd (.inl (by rw [empty_of q]; rfl)) hsk
            · exact q
          have he := full_of (x := t) (by omega)
          have h35 : ((t[0]'ht1).toNat : Int) ≠ 35 := fun q => hsk (.inr (by rw [bts_at t 0 ht1]; congr 1; omega))
          have h35b : (((t[0]'ht1).toNat : Int) == 35) = false := by rw [beq_eq_false_iff_ne]; exact h35
          have ht1i : (0 : Int) < (t.size : Int) := by omega
          have kw := words_calls t wr hts
          have hwl := pieces_size 32 t t.size 0 0 (by omega) (by omega)
          go_wp2_with fail
          refine kw.mono ?_
          rintro e2 w2 ⟨v2, rfl, hown0, hb2⟩
          clear kw
          have hz2 : w2.heap[w.heap.size]? = some (.cells zeroJ 32 (0, 0)) := (hb2.block _ (by omega)).trans hz1
          have hj2 : JB w2 32 (w.heap.size + 1) j (.slice Ac j.chunks.length cc) := hj.below hb2
          have hc2 := hc.below hb2
          have hB2 : Below (w.heap.size + 1) w1 w2 := hB.trans (hb2.mono (by omega))
          have hB2w : Below w.heap.size w w2 := hBw.trans (hb2.mono (by omega))
          have hs2 := hb2.size
          rcases hW : pieces 32 t 0 0 with _ | ⟨a, _ | ⟨b, _ | ⟨c, r⟩⟩⟩
          · exact absurd hW (pieces_ne 32 t)
          · have hown : w2.ownsRow wr.heap.size 9 1 v2 (0 + 1) [.string a] := by rw [hW] at hown0; exact hown0
            obtain ⟨g, cap, rfl⟩ := own_succ hown
            have ca : w2.cell? ⟨g, 0, none⟩ = some (.string a) := hown.cellAt 0 (by omega)
            obtain rfl : a = t := pieces_one hW
            have hst := stepV_one (j := j) hsk hW
            have kf := one_calls (w.heap.size + 1) j (.slice Ac j.chunks.length cc) a w2 hj2
            clear hown0 hown hwl
            cases hfl : flagV j a with
            | none =>
              skip
              rw [hfl] at hst
              have HVE : Hid (parseV s = (none, at_ + 1, 4)) := by
                have h1 := hv.out
                have h2 := HR.out
                rw [runL_cnone hst] at h2
                rw [← h2] at h1
                exact Lib.hid h1
              have kf2 := kf.mono (fun _ _ h => h.bad hfl)
              have hzW := hz2
              have hBW := hB2w
              clear hst HR hrest hv hsk kf hfl hz2 hB2w hB2 hc2 hj2 hc hj hB hBw hm hz hz1 hbl hBr hb2
              have z0 : w2.cell? ⟨w.heap.size, 0, none⟩ = some (.int .i64 0) := cell_of_row _ _ 0 _ _ (0, 0) hzW
              have z1 : w2.cell? ⟨w.heap.size, 1, none⟩ = some (.int .i64 0) := cell_of_row _ _ 1 _ _ (0, 0) hzW
              have z2 : w2.cell? ⟨w.heap.size, 2, none⟩ = some (.int .i64 0) := cell_of_row _ _ 2 _ _ (0, 0) hzW
              have z3 : w2.cell? ⟨w.heap.size, 3, none⟩ = some (.int .i64 0) := cell_of_row _ _ 3 _ _ (0, 0) hzW
              have z4 : w2.cell? ⟨w.heap.size, 4, none⟩ = some (.int .i64 0) := cell_of_row _ _ 4 _ _ (0, 0) hzW
              have z5 : w2.cell? ⟨w.heap.size, 5, none⟩ = some (.bool false) := cell_of_row _ _ 5 _ _ (0, 0) hzW
              have z6 : w2.cell? ⟨w.heap.size, 6, none⟩ = some (.bool false) := cell_of_row _ _ 6 _ _ (0, 0) hzW
              have z7 : w2.cell? ⟨w.heap.size, 7, none⟩ = some (.int .i64 0) := cell_of_row _ _ 7 _ _ (0, 0) hzW
              have z8 : w2.cell? ⟨w.heap.size, 8, none⟩ = some (.bool false) := cell_of_row _ _ 8 _ _ (0, 0) hzW
              have z9 : w2.cell? ⟨w.heap.size, 9, none⟩ = some (.slice none 0 0) := cell_of_row _ _ 9 _ _ (0, 0) hzW
              have zf : ∀ i2, w2.frozen? ⟨w.heap.size, i2, none⟩ = false := fun i2 => frozen_of_row _ _ i2 _ _ hzW
              have SS := set10_at (w := w2) (j := job00) (ch := .slice none 0 0) hzW
              have r := SS.cell
              have hB3 := set10_below (H := w.heap.size) (j := job00) (ch := .slice none 0 0) hBW (Nat.le_refl _)
              unfold set10 job00 at r hB3
              clear SS hzW hBW
              go_wp2_with (go_at_call 11; refine kf2.mono ?_; clear kf2; rintro _ _ ⟨rfl, rfl⟩)
              refine bodyPost_ret (v := .tuple #[zeroJV, .int .i64 ((at_ + 1 : Nat) : Int), .int .i64 ((4 : Nat) : Int)]) (by simp [results, Tryd.results5, go_sem, r, jobCells, zeroJV]) rfl ⟨hB3, .inl ⟨at_ + 1, 4, rfl, HVE.out⟩⟩
            | some j' =>
              skip
              rw [hfl] at hst
              have HN := Lib.hid (hrest.out j' (by rw [← runL_csome hst]; exact HR.out))
              have kf2 := kf.mono (fun _ _ h => h.ok hfl)
              clear hst HR hrest hsk kf hfl hbl hm hBw
              go_wp2_with (go_at_call 11; refine kf2.mono ?_; clear kf2; rintro _ _ ⟨rfl, i3, hj3, hch3, rfl⟩)
              go_roundg d
              case measure => omega
              case rel =>
                refine ⟨i + 1, i + 1, at_ + 1, j', .slice Ac j.chunks.length cc, vs, by go_num, by go_num, by go_num, by omega, by omega, by omega, hj3, ?_, by rw [hch3]; omega, HN, ?_⟩
                · rw [hch3]
                  exact hc2.setJ hj2 (by decide) i3 _
                · exact hB2.setCell (p := ⟨w.heap.size + 1, i3, none⟩) (Nat.le_refl _) _
          · have hown : w2.ownsRow wr.heap.size 9 1 v2 (1 + 1) [.string a, .string b] := by rw [hW] at hown0; exact hown0
            obtain ⟨g, cap, rfl⟩ := own_succ hown
            have ca : w2.drew.cell? ⟨g, 0, none⟩ = some (.string a) := hown.cellAt 0 (by omega)
            have cb : w2.drew.cell? ⟨g, 1, none⟩ = some (.string b) := hown.cellAt 1 (by omega)
            have hst := stepV_two (j := j) hsk hW
            have hbs : b.size ≤ 65536 := Nat.le_trans (hwl b (by rw [hW]; simp)) hts
            have kf := two_calls (w.heap.size + 1) (w.heap.size + 1) j (.slice Ac j.chunks.length cc) vs a b w2.drew hj2 (hc2.keep (fun _ _ _ _ _ => rfl)) (Nat.le_refl _) (by show _ ≤ w2.heap.size; omega) hbs (by omega)
            clear hown0 hown hwl
            cases hfl : setV j a b with
            | none =>
              skip
              rw [hfl] at hst
              have HVE : Hid (parseV s = (none, at_ + 1, 4)) := by
                have h1 := hv.out
                have h2 := HR.out
                rw [runL_cnone hst] at h2
                rw [← h2] at h1
                exact Lib.hid h1
              have kf2 := kf.mono (fun _ _ h => h.bad hfl)
              clear hst HR hrest hv hsk kf hfl
              go_wp2_with fail
              refine start_ (n := 9) (S := fun w' => w'.cell? ⟨g, 0, none⟩ = some (.string a) ∧ w'.cell? ⟨g, 1, none⟩ = some (.string b)) (ds := [7]) #[false, false, false, false, false, false, false, false, false] (by kernel_rfl) rfl rfl ⟨ca, cb⟩ (fun hHeld => ?_)
              refine pure_ (i := 0) (N := some 63) (v := ?_) (a' := ?_) #[true, false, false, false, false, false, false, false, false] rfl rfl (by kernel_rfl) (fun _ _ _ h => h) (Or.inl ⟨by rfl, ?_⟩) ?_ ?_
              rotate_left
              · intro w'
                go_simp
                with_reducible rfl
              rotate_left
              · simp only [Act.put, List.setIfInBounds_toArray, List.set_cons_zero, List.set_cons_succ, i64_w, i32_w]
                rfl
              refine pure_ (i := 1) (N := some 64) (v := ?_) (a' := ?_) #[true, true, false, false, false, false, false, false, false] rfl rfl (by kernel_rfl) (fun _ _ _ h => h) (Or.inl ⟨by rfl, ?_⟩) ?_ ?_
              rotate_left
              · intro w'
                go_simp
                with_reducible rfl
              rotate_left
              · simp only [Act.put, List.setIfInBounds_toArray, List.set_cons_zero, List.set_cons_succ, i64_w, i32_w]
                rfl
              refine pure_ (i := 2) (N := some 65) (v := ?_) (a' := ?_) #[true, true, true, false, false, false, false, false, false] rfl rfl (by kernel_rfl) (fun _ _ _ h => h) (Or.inl ⟨by rfl, ?_⟩) ?_ ?_
              rotate_left
              · intro w'
                go_simp
                with_reducible rfl
              rotate_left
              · simp only [Act.put, List.setIfInBounds_toArray, List.set_cons_zero, List.set_cons_succ, i64_w, i32_w]
                rfl
              refine pure_ (i := 4) (N := some 67) (v := ?_) (a' := ?_) #[true, true, true, false, true, false, false, false, false] rfl rfl (by kernel_rfl) (fun _ _ _ h => h) (Or.inl ⟨by rfl, ?_⟩) ?_ ?_
              rotate_left
              · intro w'
                go_simp
                with_reducible rfl
              rotate_left
              · simp only [Act.put, List.setIfInBounds_toArray, List.set_cons_zero, List.set_cons_succ, i64_w, i32_w]
                rfl
              refine pure_ (i := 5) (N := some 68) (v := ?_) (a' := ?_) #[true, true, true, false, true, true, false, false, false] rfl rfl (by kernel_rfl) (fun _ _ _ h => h) (Or.inl ⟨by rfl, ?_⟩) ?_ ?_
              rotate_left
              · intro w'
                go_simp
                with_reducible rfl
              rotate_left
              · simp only [Act.put, List.setIfInBounds_toArray, List.set_cons_zero, List.set_cons_succ, i64_w, i32_w]
                rfl
              refine take_ (i := 3) (N := some 66) (v := ?_) (a' := ?_) #[true, true, true, true, true, true, false, false, false] rfl rfl (by kernel_rfl) (fun _ _ _ h => h) (Or.inl ⟨by rfl, ?_⟩) hHeld ?_ ?_
              rotate_left
              · rintro w' ⟨s0, s1⟩
                go_simp
                with_reducible rfl
              rotate_left
              · simp only [Act.put, List.setIfInBounds_toArray, List.set_cons_zero, List.set_cons_succ, i64_w, i32_w]
                rfl
              refine take_ (i := 6) (N := some 69) (v := ?_) (a' := ?_) #[true, true, true, true, true, true, true, false, false] rfl rfl (by kernel_rfl) (fun _ _ _ h => h) (Or.inl ⟨by rfl, ?_⟩) hHeld ?_ ?_
              rotate_left
              · rintro w' ⟨s0, s1⟩
                go_simp
                with_reducible rfl
              rotate_left
              · simp only [Act.put, List.setIfInBounds_toArray, List.set_cons_zero, List.set_cons_succ, i64_w, i32_w]
                rfl
              refine last_ (i := 7) (N := some 70) #[true, true, true, true, true, true, true, true, false] rfl rfl (by kernel_rfl) (by decide) (fun K hK => ?_)
              refine goes_ Tryd.func12 (by kernel_rfl) rfl #[.pointer (some ⟨w.heap.size + 1, 0, none⟩), .string a, .string b] (by rfl) rfl rfl (by simp only [List.map_toArray, List.map_cons, List.map_nil]; rfl) ?_
              with_reducible refine (kf2).mono ?_
              rintro _ _ ⟨rfl, hb3, j3, A3, n3, c3, hj3⟩
              refine ⟨_, rfl, ?_⟩
              refine hK.out _ _ ?_
              clear hK K
              refine norm_ (a' := ?_) ?_ ?_
              rotate_left
              · show Act.put _ (some 70) _ = _
                simp only [Act.put, List.setIfInBounds_toArray, List.set_cons_zero, List.set_cons_succ, i64_w, i32_w]
                rfl
              refine pure_ (i := 8) (N := some 11) (v := ?_) (a' := ?_) #[true, true, true, true, true, true, true, true, true] rfl rfl (by kernel_rfl) (fun _ _ _ h => h) (Or.inl ⟨by rfl, ?_⟩) ?_ ?_
              rotate_left
              · intro w'
                go_simp
                with_reducible rfl
              rotate_left
              · simp only [Act.put, List.setIfInBounds_toArray, List.set_cons_zero, List.set_cons_succ, i64_w, i32_w]
                rfl
              refine done_ (by kernel_rfl) ?_
              have hzW := (hb3.block w.heap.size (Nat.lt_succ_self _)).trans hz2
              have hBW := hB2w.drew.trans (hb3.mono (Nat.le_succ _))
              clear hz2 hB2w hB2 hc2 hj2 hc hj hB hBw hm hz hz1 hbl hBr hb2 hj3 hb3
              rename_i W
              have z0 : W.cell? ⟨w.heap.size, 0, none⟩ = some (.int .i64 0) := cell_of_row _ _ 0 _ _ (0, 0) hzW
              have z1 : W.cell? ⟨w.heap.size, 1, none⟩ = some (.int .i64 0) := cell_of_row _ _ 1 _ _ (0, 0) hzW
              have z2 : W.cell? ⟨w.heap.size, 2, none⟩ = some (.int .i64 0) := cell_of_row _ _ 2 _ _ (0, 0) hzW
              have z3 : W.cell? ⟨w.heap.size, 3, none⟩ = some (.int .i64 0) := cell_of_row _ _ 3 _ _ (0, 0) hzW
              have z4 : W.cell? ⟨w.heap.size, 4, none⟩ = some (.int .i64 0) := cell_of_row _ _ 4 _ _ (0, 0) hzW
              have z5 : W.cell? ⟨w.heap.size, 5, none⟩ = some (.bool false) := cell_of_row _ _ 5 _ _ (0, 0) hzW
              have z6 : W.cell? ⟨w.heap.size, 6, none⟩ = some (.bool false) := cell_of_row _ _ 6 _ _ (0, 0) hzW
              have z7 : W.cell? ⟨w.heap.size, 7, none⟩ = some (.int .i64 0) := cell_of_row _ _ 7 _ _ (0, 0) hzW
              have z8 : W.cell? ⟨w.heap.size, 8, none⟩ = some (.bool false) := cell_of_row _ _ 8 _ _ (0, 0) hzW
              have z9 : W.cell? ⟨w.heap.size, 9, none⟩ = some (.slice none 0 0) := cell_of_row _ _ 9 _ _ (0, 0) hzW
              have zf : ∀ i2, W.frozen? ⟨w.heap.size, i2, none⟩ = false := fun i2 => frozen_of_row _ _ i2 _ _ hzW

              have SS := set10_at (w := W) (j := job00) (ch := .slice none 0 0) hzW
              have r := SS.cell
              have hB3 := set10_below (H := w.heap.size) (j := job00) (ch := .slice none 0 0) hBW (Nat.le_refl _)
              unfold set10 job00 at r hB3
              clear SS
              go_wp2
              refine bodyPost_ret (v := .tuple #[zeroJV, .int .i64 ((at_ + 1 : Nat) : Int), .int .i64 ((4 : Nat) : Int)]) (by simp [results, Tryd.results5, go_sem, r, jobCells, zeroJV]) rfl ⟨hB3, .inl ⟨at_ + 1, 4, rfl, HVE.out⟩⟩
            | some j' =>
              skip
              rw [hfl] at hst
              have HN := Lib.hid (hrest.out j' (by rw [← runL_csome hst]; exact HR.out))
              have kf2 := kf.mono (fun _ _ h => h.ok hfl)
              clear hst HR hrest hsk kf hfl
              go_wp2_with fail
              refine start_ (n := 9) (S := fun w' => w'.cell? ⟨g, 0, none⟩ = some (.string a) ∧ w'.cell? ⟨g, 1, none⟩ = some (.string b)) (ds := [7]) #[false, false, false, false, false, false, false, false, false] (by kernel_rfl) rfl rfl ⟨ca, cb⟩ (fun hHeld => ?_)
              refine pure_ (i := 0) (N := some 63) (v := ?_) (a' := ?_) #[true, false, false, false, false, false, false, false, false] rfl rfl (by kernel_rfl) (fun _ _ _ h => h) (Or.inl ⟨by rfl, ?_⟩) ?_ ?_
              rotate_left
              · intro w'
                go_simp
                with_reducible rfl
              rotate_left
              · simp only [Act.put, List.setIfInBounds_toArray, List.set_cons_zero, List.set_cons_succ, i64_w, i32_w]
                rfl
              refine pure_ (i := 1) (N := some 64) (v := ?_) (a' := ?_) #[true, true, false, false, false, false, false, false, false] rfl rfl (by kernel_rfl) (fun _ _ _ h => h) (Or.inl ⟨by rfl, ?_⟩) ?_ ?_
              rotate_left
              · intro w'
                go_simp
                with_reducible rfl
              rotate_left
              · simp only [Act.put, List.setIfInBounds_toArray, List.set_cons_zero, List.set_cons_succ, i64_w, i32_w]
                rfl
              refine pure_ (i := 2) (N := some 65) (v := ?_) (a' := ?_) #[true, true, true, false, false, false, false, false, false] rfl rfl (by kernel_rfl) (fun _ _ _ h => h) (Or.inl ⟨by rfl, ?_⟩) ?_ ?_
              rotate_left
              · intro w'
                go_simp
                with_reducible rfl
              rotate_left
              · simp only [Act.put, List.setIfInBounds_toArray, List.set_cons_zero, List.set_cons_succ, i64_w, i32_w]
                rfl
              refine pure_ (i := 4) (N := some 67) (v := ?_) (a' := ?_) #[true, true, true, false, true, false, false, false, false] rfl rfl (by kernel_rfl) (fun _ _ _ h => h) (Or.inl ⟨by rfl, ?_⟩) ?_ ?_
              rotate_left
              · intro w'
                go_simp
                with_reducible rfl
              rotate_left
              · simp only [Act.put, List.setIfInBounds_toArray, List.set_cons_zero, List.set_cons_succ, i64_w, i32_w]
                rfl
              refine pure_ (i := 5) (N := some 68) (v := ?_) (a' := ?_) #[true, true, true, false, true, true, false, false, false] rfl rfl (by kernel_rfl) (fun _ _ _ h => h) (Or.inl ⟨by rfl, ?_⟩) ?_ ?_
              rotate_left
              · intro w'
                go_simp
                with_reducible rfl
              rotate_left
              · simp only [Act.put, List.setIfInBounds_toArray, List.set_cons_zero, List.set_cons_succ, i64_w, i32_w]
                rfl
              refine take_ (i := 3) (N := some 66) (v := ?_) (a' := ?_) #[true, true, true, true, true, true, false, false, false] rfl rfl (by kernel_rfl) (fun _ _ _ h => h) (Or.inl ⟨by rfl, ?_⟩) hHeld ?_ ?_
              rotate_left
              · rintro w' ⟨s0, s1⟩
                go_simp
                with_reducible rfl
              rotate_left
              · simp only [Act.put, List.setIfInBounds_toArray, List.set_cons_zero, List.set_cons_succ, i64_w, i32_w]
                rfl
              refine take_ (i := 6) (N := some 69) (v := ?_) (a' := ?_) #[true, true, true, true, true, true, true, false, false] rfl rfl (by kernel_rfl) (fun _ _ _ h => h) (Or.inl ⟨by rfl, ?_⟩) hHeld ?_ ?_
              rotate_left
              · rintro w' ⟨s0, s1⟩
                go_simp
                with_reducible rfl
              rotate_left
              · simp only [Act.put, List.setIfInBounds_toArray, List.set_cons_zero, List.set_cons_succ, i64_w, i32_w]
                rfl
              refine last_ (i := 7) (N := some 70) #[true, true, true, true, true, true, true, true, false] rfl rfl (by kernel_rfl) (by decide) (fun K hK => ?_)
              refine goes_ Tryd.func12 (by kernel_rfl) rfl #[.pointer (some ⟨w.heap.size + 1, 0, none⟩), .string a, .string b] (by rfl) rfl rfl (by simp only [List.map_toArray, List.map_cons, List.map_nil]; rfl) ?_
              with_reducible refine (kf2).mono ?_
              rintro _ _ ⟨rfl, ch3, vs3, hj3, hc3, hl3, hb3, hk3⟩
              refine ⟨_, rfl, ?_⟩
              refine hK.out _ _ ?_
              clear hK K
              refine norm_ (a' := ?_) ?_ ?_
              rotate_left
              · show Act.put _ (some 70) _ = _
                simp only [Act.put, List.setIfInBounds_toArray, List.set_cons_zero, List.set_cons_succ, i64_w, i32_w]
                rfl
              refine pure_ (i := 8) (N := some 11) (v := ?_) (a' := ?_) #[true, true, true, true, true, true, true, true, true] rfl rfl (by kernel_rfl) (fun _ _ _ h => h) (Or.inl ⟨by rfl, ?_⟩) ?_ ?_
              rotate_left
              · intro w'
                go_simp
                with_reducible rfl
              rotate_left
              · simp only [Act.put, List.setIfInBounds_toArray, List.set_cons_zero, List.set_cons_succ, i64_w, i32_w]
                rfl
              refine done_ (by kernel_rfl) ?_
              go_wp2
              go_roundg d
              case measure => omega
              case rel => exact ⟨i + 1, i + 1, at_ + 1, j', _, vs3, by go_num, by go_num, by go_num, by omega, by omega, by omega, hj3, hc3, by omega, HN, hB2.drew.trans hb3⟩
          · skip
            have hst := stepV_more (j := j) hsk hW
            have hown : w2.ownsRow wr.heap.size 9 1 v2 (r.length + 1 + 1 + 1) ((a :: b :: c :: r).map Value.string) := by rw [hW] at hown0; exact hown0
            obtain ⟨g, cap, rfl⟩ := own_succ hown
            have hl1 : (((r.length + 1 + 1 + 1 : Nat) : Int) == 1) = false := by rw [beq_eq_false_iff_ne]; omega
            have hl2 : (((r.length + 1 + 1 + 1 : Nat) : Int) == 2) = false := by rw [beq_eq_false_iff_ne]; omega
            have HVE : Hid (parseV s = (none, at_ + 1, 4)) := by
              have h1 := hv.out
              have h2 := HR.out
              rw [runL_cnone hst] at h2
              rw [← h2] at h1
              exact Lib.hid h1
            have hzW := hz2
            have hBW := hB2w
            clear hown hown0 hwl hst HR hrest hv hsk hW hz2 hB2w hB2 hc2 hj2 hc hj hB hBw hm hz hz1 hbl hBr hb2
            generalize r.length + 1 + 1 + 1 = nW at hl1 hl2 ⊢
            have z0 : w2.cell? ⟨w.heap.size, 0, none⟩ = some (.int .i64 0) := cell_of_row _ _ 0 _ _ (0, 0) hzW
            have z1 : w2.cell? ⟨w.heap.size, 1, none⟩ = some (.int .i64 0) := cell_of_row _ _ 1 _ _ (0, 0) hzW
            have z2 : w2.cell? ⟨w.heap.size, 2, none⟩ = some (.int .i64 0) := cell_of_row _ _ 2 _ _ (0, 0) hzW
            have z3 : w2.cell? ⟨w.heap.size, 3, none⟩ = some (.int .i64 0) := cell_of_row _ _ 3 _ _ (0, 0) hzW
            have z4 : w2.cell? ⟨w.heap.size, 4, none⟩ = some (.int .i64 0) := cell_of_row _ _ 4 _ _ (0, 0) hzW
            have z5 : w2.cell? ⟨w.heap.size, 5, none⟩ = some (.bool false) := cell_of_row _ _ 5 _ _ (0, 0) hzW
            have z6 : w2.cell? ⟨w.heap.size, 6, none⟩ = some (.bool false) := cell_of_row _ _ 6 _ _ (0, 0) hzW
            have z7 : w2.cell? ⟨w.heap.size, 7, none⟩ = some (.int .i64 0) := cell_of_row _ _ 7 _ _ (0, 0) hzW
            have z8 : w2.cell? ⟨w.heap.size, 8, none⟩ = some (.bool false) := cell_of_row _ _ 8 _ _ (0, 0) hzW
            have z9 : w2.cell? ⟨w.heap.size, 9, none⟩ = some (.slice none 0 0) := cell_of_row _ _ 9 _ _ (0, 0) hzW
            have zf : ∀ i2, w2.frozen? ⟨w.heap.size, i2, none⟩ = false := fun i2 => frozen_of_row _ _ i2 _ _ hzW

            have SS := set10_at (w := w2) (j := job00) (ch := .slice none 0 0) hzW
            have r := SS.cell
            have hB3 := set10_below (H := w.heap.size) (j := job00) (ch := .slice none 0 0) hBW (Nat.le_refl _)
            unfold set10 job00 at r hB3
            clear SS
            go_wp2
            refine bodyPost_ret (v := .tuple #[zeroJV, .int .i64 ((at_ + 1 : Nat) : Int), .int .i64 ((4 : Nat) : Int)]) (by simp [results, Tryd.results5, go_sem, r, jobCells, zeroJV]) rfl ⟨hB3, .inl ⟨at_ + 1, 4, rfl, HVE.out⟩⟩
        · skip
          rw [pieces_miss hlt hc10] at hP1
          have HP1 : Hid ((i + 1 ≤ s.size → runL j at_ (pieces 10 s f (i + 1)) = R) ∧ (i + 1 = s.size + 1 → (some j, 0) = R)) := Lib.hid ⟨fun _ => hP1, fun h => by omega⟩
          have hcn : ¬ ((s[i]'hlt).toNat : Int) = 10 := fun q => hc10 (by
            have h2 : (s[i]'hlt).toNat = 10 := by omega
            exact UInt8.toNat_inj.1 h2)
          have b2 : (((s[i]'hlt).toNat : Int) == 10) = false := by rw [beq_eq_false_iff_ne]; exact hcn
          clear hP1 hv hz hz1
          go_wp2
          go_roundg d
          case measure => omega
          case rel => exact ⟨i + 1, f, at_, j, _, vs, rfl, rfl, by go_num, by omega, by omega, by omega, hj, hc, hcl, HP1, hB⟩
end Go.Proofs.YtmejpcfbefjjaaaDoor.Scr
