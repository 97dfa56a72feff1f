/- math/bits.TrailingZeros64, math/bits.Len64, fbits.join, fbits.FromInt. -/
import Derived.Test.YtffncomekbfihaaDoorExact
import Derived.Test.YtffncomekbfihaaDoorNearScale
import Derived.Lib.LaidTab
import Derived.Lib.AppendIntMem
namespace Go.Proofs.YtffncomekbfihaaDoor.Nat
open Go.RowKit Go.Shelf
set_option linter.unusedVariables false
def tzTab : List Int := [0, 1, 56, 2, 57, 49, 28, 3, 61, 58, 42, 50, 38, 29, 17, 4, 62, 47, 59, 36, 45, 43, 51, 22, 53, 39, 33, 30, 24, 18, 12, 5, 63, 55, 48, 27, 60, 41, 37, 16, 46, 35, 44, 21, 52, 32, 23, 11, 54, 26, 40, 15, 34, 20, 31, 10, 25, 14, 19, 9, 13, 8, 7, 6]
/-- a number is a power of two, times an odd one -/
theorem odd_part {x : Nat} (h : x ≠ 0) : ∃ k m, x = 2 ^ k * (2 * m + 1) := by
  induction x using Nat.strongRecOn with
  | _ x ih =>
    rcases Nat.mod_two_eq_zero_or_one x with h2 | h2
    · obtain ⟨k, m, e⟩ := ih (x / 2) (by omega) (by omega)
      exact ⟨k + 1, m, by rw [Nat.pow_succ, Nat.mul_comm (2 ^ k) 2, Nat.mul_assoc, ← e]; omega⟩
    · exact ⟨0, x / 2, by rw [Nat.pow_zero]; omega⟩
theorem odd_and (m j : Nat) (h : 2 * m + 1 < 2 ^ j) : (2 * m + 1) &&& (2 ^ j - (2 * m + 1)) = 1 := by
  apply Nat.eq_of_testBit_eq
  intro i
  rw [Nat.testBit_and, Nat.testBit_two_pow_sub_succ (x := 2 * m) (by omega)]
  cases i with
  | zero =>
    have hj : 0 < j := by
      rcases Nat.eq_zero_or_pos j with rfl | hj
      · simp at h
      · exact hj
    simp [Nat.testBit_zero, hj]
  | succ i =>
    have e1 : (2 * m + 1).testBit (i + 1) = m.testBit i := by rw [Nat.testBit_succ]; congr 1; omega
    have e2 : (2 * m).testBit (i + 1) = m.testBit i := by rw [Nat.testBit_succ]; congr 1; omega
    have e3 : (1 : Nat).testBit (i + 1) = false := by rw [Nat.testBit_succ]; simp
    rw [e1, e2, e3]
    cases m.testBit i <;> simp
theorem low_and {x k m : Nat} (hx : x = 2 ^ k * (2 * m + 1)) (hl : x < 18446744073709551616) : k < 64 ∧ x &&& (18446744073709551616 - x) = 2 ^ k := by
  have hk : k < 64 := by
    rcases Nat.lt_or_ge k 64 with h | h
    · exact h
    · exfalso
      have h1 : 2 ^ 64 ≤ 2 ^ k := Nat.pow_le_pow_right (by decide) h
      have h2 : 2 ^ k * 1 ≤ 2 ^ k * (2 * m + 1) := Nat.mul_le_mul_left _ (by omega)
      have h3 : (2 : Nat) ^ 64 = 18446744073709551616 := by decide
      omega
  refine ⟨hk, ?_⟩
  have hp : 18446744073709551616 = 2 ^ k * 2 ^ (64 - k) := by rw [← Nat.pow_add, Nat.add_sub_cancel' (by omega)]
  have hm : 2 * m + 1 < 2 ^ (64 - k) := by
    rw [hx, hp] at hl
    exact Nat.lt_of_mul_lt_mul_left hl
  have e1 : 18446744073709551616 - x = 2 ^ k * (2 ^ (64 - k) - (2 * m + 1)) := by rw [hx, hp, Nat.mul_sub]
  rw [e1, hx, Nat.mul_comm (2 ^ k), Nat.mul_comm (2 ^ k), ← Nat.shiftLeft_eq, ← Nat.shiftLeft_eq, ← Nat.shiftLeft_and_distrib, odd_and _ _ hm, Nat.shiftLeft_eq, Nat.one_mul]
theorem tz_tab : ∀ k : Nat, k < 64 → 2 ^ k * 285870213051353865 % 18446744073709551616 / 288230376151711744 < 64 ∧ tzTab[2 ^ k * 285870213051353865 % 18446744073709551616 / 288230376151711744]? = some (k : Int) := by decide +kernel
set_option maxHeartbeats 4000000 in
set_option maxRecDepth 100000 in
theorem tz_calls (x k m : Nat) (w : World) (hx : x = 2 ^ k * (2 * m + 1)) (h0 : x ≠ 0) (hl : x < 18446744073709551616) (T : Lib.TabIs Tryd.prog w "math/bits.deBruijn64tab" .u8 tzTab) :
    Calls Tryd.prog 18 #[.int .u64 (x : Int)] w fun e w' => e = .returned (.int .i64 ((k : Nat) : Int)) ∧ Below w.heap.size w w' := by
  obtain ⟨hk, ha⟩ := low_and hx hl
  obtain ⟨ht1, ht2⟩ := tz_tab k hk
  have hand := (bits_nat .u64 64 (by decide) (fun n h0 h1 => by rw [IntKind.wrap_u64]; omega) x (18446744073709551616 - x) (by omega) (by omega)).1
  rw [ha] at hand
  have hneg : IntKind.u64.wrap (-(x : Int)) = ((18446744073709551616 - x : Nat) : Int) := by rw [IntKind.wrap_u64]; omega
  have hL : 2 ^ k < 18446744073709551616 := Nat.lt_of_lt_of_eq (Nat.pow_lt_pow_right (by decide) hk) (by decide)
  generalize 18446744073709551616 - x = y at *
  clear hx
  generalize 2 ^ k = L at ht1 ht2 hand hL ha
  obtain ⟨M, hM⟩ : ∃ M, L * 285870213051353865 % 18446744073709551616 = M := ⟨_, rfl⟩
  rw [hM] at ht1 ht2
  obtain ⟨I, hI⟩ : ∃ I, M / 288230376151711744 = I := ⟨_, rfl⟩
  rw [hI] at ht1 ht2
  have hmul : IntKind.u64.wrap ((L : Int) * 285870213051353865) = (M : Int) := by rw [IntKind.wrap_u64]; omega
  have hdiv : (M : Int) / 288230376151711744 = (I : Int) := by omega
  have hlen : I < tzTab.length := (List.getElem?_eq_some_iff.1 ht2).1
  have hgd : tzTab.getD I 0 = (k : Int) := by rw [List.getD_eq_getElem?_getD, ht2]; rfl
  have hcell := T.cell (g := 0) (by kernel_rfl) I hlen
  first | rw [hgd] at hcell | (trace_state; fail)
  have h0I : ¬ (x : Int) = 0 := by omega
  have hb0 := Below.refl w.heap.size w
  have hwk : IntKind.i64.wrap (k : Int) = (k : Int) := by rw [IntKind.wrap_i64]; omega
  have hI1 : (I : Int) < 64 := by omega
  clear hM hI ht2 h0 ha hL hgd hlen T
  go_enter Tryd.func18, Tryd.ntmps18
  go_wp2
  go_ret
  exact ⟨rfl, hb0⟩
theorem len64_calls (x : Nat) (w : World) (h1 : x < 18446744073709551616) :
    Calls Tryd.prog 17 #[.int .u64 (x : Int)] w fun e w' => e = .returned (.int .i64 (Lib.bitLen x)) ∧ w' = w := by
  have h := Tryd.bits_Len64 (x : Int) w (by omega) (by omega)
  rwa [Int.toNat_natCast] at h
theorem or_exp {a f : Nat} (ha : a < 2048) (h : f < 4503599627370496) : Go.bits BinOp.or IntKind.u64 ((a : Int) * 4503599627370496) (f : Int) = ((a * 4503599627370496 + f : Nat) : Int) := by
  have hb := (bits_nat .u64 64 (by decide) (fun n h0 h1 => by rw [IntKind.wrap_u64]; omega) (a * 4503599627370496) f (by omega) (by omega)).2
  have e : a * 4503599627370496 ||| f = a * 4503599627370496 + f := by
    have := Nat.two_pow_add_eq_or_of_lt (i := 52) (b := f) h a
    rw [show (2 : Nat) ^ 52 = 4503599627370496 from rfl, Nat.mul_comm] at this
    exact this.symm
  rw [e] at hb
  rw [← hb]
  rfl
set_option maxHeartbeats 4000000 in
set_option maxRecDepth 100000 in
theorem join_calls (a f : Nat) (w : World) (ha : a < 2048) (hf : f < 4503599627370496) :
    Calls Tryd.prog 20 #[w64, .agg #[.bool false, .int .i64 (a : Int), .int .u64 (f : Int)]] w fun e w' => e = .returned (.int .u64 ((a * 4503599627370496 + f : Nat) : Int)) ∧ Below w.heap.size w w' := by
  have hb0 := (below_alloc w (.cells #[.int .i64 64, .int .i64 11, .int .i64 52] 51)).alloc (by simp) (.cells #[.bool false, .int .i64 (a : Int), .int .u64 (f : Int)] 48)
  have ho := or_exp ha hf
  have hw1 : IntKind.u64.wrap (a : Int) = (a : Int) := by rw [IntKind.wrap_u64]; omega
  have hw2 : IntKind.u64.wrap ((a : Int) * 4503599627370496) = (a : Int) * 4503599627370496 := by rw [IntKind.wrap_u64]; omega
  unfold w64
  go_enter Tryd.func20, Tryd.ntmps20
  go_wp2_with fail
  go_quiet (fail)
  go_wp2_with fail
  go_ret
  exact ⟨rfl, below_dr hb0 _⟩
theorem len_bounds {x : Nat} (h : x < 18446744073709551616) (h0 : x ≠ 0) : 1 ≤ Lib.bitLen x ∧ 2 ^ (Lib.bitLen x - 1) ≤ x ∧ x < 2 ^ Lib.bitLen x := Lib.bitLenAux_bounds 64 x h h0
/-- the bits that fbits.FromInt gives -/
theorem from_frac {n t k m : Nat} (h1 : 2 ^ (t - 1) ≤ n) (h2 : n < 2 ^ t) (h0 : n ≠ 0) (ht : t ≤ 64) (hx : n = 2 ^ k * (2 * m + 1)) (hk : t ≤ k + 53) :
    9223372036854775808 ≤ n * 2 ^ (64 - t) ∧ n * 2 ^ (64 - t) < 18446744073709551616 ∧ near n 1 = (1021 + t) * 4503599627370496 + n * 2 ^ (64 - t) / 2048 ∧ n * 2 ^ (64 - t) % 2048 = 0 := by
  have hp := Nat.two_pow_pos (64 - t)
  have ht0 : t ≠ 0 := fun h => by subst h; simp at h2; omega
  have hd : 2048 ∣ n * 2 ^ (64 - t) := by
    refine ⟨2 ^ (k + (64 - t) - 11) * (2 * m + 1), ?_⟩
    rw [hx, Nat.mul_right_comm, ← Nat.pow_add, ← Nat.mul_assoc]
    congr 1
    rw [show 2048 = 2 ^ 11 from rfl, ← Nat.pow_add]
    congr 1
    omega
  refine ⟨?_, ?_, near_whole h0 h1 h2 ht hd, Nat.mod_eq_zero_of_dvd hd⟩
  · have := Nat.mul_le_mul_right (2 ^ (64 - t)) h1
    rw [← Nat.pow_add, show t - 1 + (64 - t) = 63 from by omega] at this
    exact this
  · have := Nat.mul_lt_mul_of_pos_right h2 hp
    rw [← Nat.pow_add, show t + (64 - t) = 64 from by omega] at this
    exact this
set_option maxHeartbeats 8000000 in
set_option maxRecDepth 100000 in
theorem fromInt_calls (n : Nat) (w : World) (hn : n < 18446744073709551616) (T : Lib.TabIs Tryd.prog w "math/bits.deBruijn64tab" .u8 tzTab) :
    ∃ (v : Nat) (ok : Bool), (ok = true → v = if n = 0 then 0 else near n 1) ∧ Calls Tryd.prog 7 #[.bool false, .int .u64 (n : Int)] w fun e w' => e = .returned (.tuple #[.int .u64 (v : Nat), .bool ok]) ∧ Below w.heap.size w w' := by
  have hb0 := below_alloc w (.cells #[.bool false, .int .i64 1087, .int .u64 0] 48)
  by_cases h0 : n = 0
  · subst h0
    clear T
    refine ⟨0, true, fun _ => (if_pos rfl).symm, ?_⟩
    go_enter Tryd.func7, Tryd.ntmps7
    go_wp2
    go_ret2
    exact ⟨rfl, hb0⟩
  have hn0 : ¬ (n : Int) = 0 := by omega
  obtain ⟨k, m, hx⟩ := odd_part h0
  obtain ⟨b1, b2, b3⟩ := len_bounds hn h0
  have k1 := fun W => len64_calls n W hn
  obtain ⟨hk, -⟩ := low_and hx hn
  have k2 := fun W (hb : Below w.heap.size w W) => tz_calls n k m W hx h0 hn (Lib.tabBelow_of_tabIs T W hb)
  have ht : Lib.bitLen n ≤ 64 := by
    rcases Nat.lt_or_ge 64 (Lib.bitLen n) with h | h
    · exfalso
      have := Nat.pow_le_pow_right (n := 2) (by decide) (show 64 ≤ Lib.bitLen n - 1 by omega)
      omega
    · exact h
  generalize Lib.bitLen n = t at *
  have hq1 : IntKind.i64.wrap ((t : Int) - (k : Int)) = (t : Int) - (k : Int) := by rw [IntKind.wrap_i64]; omega
  by_cases hc : 53 + k < t
  · have hcI : (53 : Int) < (t : Int) - (k : Int) := by omega
    have H : Hid _ := Lib.hid (And.intro hx hc)
    clear hx hc b1 b2 b3 T
    refine ⟨0, false, fun h => (by cases h), ?_⟩
    go_enter Tryd.func7, Tryd.ntmps7
    go_wp2_with (first | (go_at_call 17; (with_reducible refine (k1 _).mono ?_); clear k1; rintro e1 w1 ⟨rfl, rfl⟩) | (go_at_call 18; (with_reducible refine (k2 _ hb0).mono ?_); clear k2; rintro e2 w2 ⟨rfl, hb2⟩))
    go_ret2
    exact ⟨rfl, below_step hb0 hb2⟩
  · have hcI : ¬ (53 : Int) < (t : Int) - (k : Int) := by omega
    obtain ⟨g1, g2, g3, g4⟩ := from_frac b2 b3 h0 ht hx (by omega)
    refine ⟨near n 1, true, fun _ => (if_neg h0).symm, ?_⟩
    rw [g3]
    have H : Hid _ := Lib.hid (And.intro hx hc)
    clear hx hc b2 b3 T g3
    have hs1 : IntKind.u64.wrap ((n : Int) * 2 ^ (64 - t)) = ((n * 2 ^ (64 - t) : Nat) : Int) := by
      rw [IntKind.wrap_u64, Int.natCast_mul, Int.natCast_pow]
      have : ((n * 2 ^ (64 - t) : Nat) : Int) = (n : Int) * 2 ^ (64 - t) := by rw [Int.natCast_mul, Int.natCast_pow]; rfl
      generalize n * 2 ^ (64 - t) = P at *
      show ((n : Int) * 2 ^ (64 - t)) % 18446744073709551616 = (n : Int) * 2 ^ (64 - t)
      rw [← this]
      omega
    generalize n * 2 ^ (64 - t) = P at *
    obtain ⟨Q, hQ⟩ : ∃ Q, P * 2 % 18446744073709551616 = Q := ⟨_, rfl⟩
    obtain ⟨F, hF⟩ : ∃ F, Q / 4096 = F := ⟨_, rfl⟩
    obtain ⟨E, hE⟩ : ∃ E, 1022 + t = E := ⟨_, rfl⟩
    have hs2 : IntKind.u64.wrap ((P : Int) * 2) = (Q : Int) := by rw [IntKind.wrap_u64]; omega
    have hs3 : (Q : Int) / 4096 = (F : Int) := by omega
    have hq2 : IntKind.i64.wrap (1023 + (t : Int)) = 1023 + (t : Int) := by rw [IntKind.wrap_i64]; omega
    have hq3 : IntKind.i64.wrap (1023 + (t : Int) - 1) = (E : Int) := by rw [IntKind.wrap_i64]; omega
    have hq4 : IntKind.i64.wrap (64 - (t : Int)) = ((64 - t : Nat) : Int) := by rw [IntKind.wrap_i64]; omega
    have k4 := fun W => join_calls E F W (by omega) (by omega)
    have hres : E * 4503599627370496 + F = (1021 + t) * 4503599627370496 + P / 2048 := by omega
    rw [hres] at k4
    generalize (1021 + t) * 4503599627370496 + P / 2048 = R at k4 ⊢
    have k3 := fun W => widths_calls W
    have ki := idx_w3
    unfold w3 at k3
    unfold w64 at k4
    clear hQ hF hE hres g1 g2 g4 hn
    go_enter Tryd.func7, Tryd.ntmps7
    go_wp2_with (first
      | (go_at_call 17; (with_reducible refine (k1 _).mono ?_); clear k1; rintro e1 w1 ⟨rfl, rfl⟩)
      | (go_at_call 18; (with_reducible refine (k2 _ hb0).mono ?_); clear k2; rintro e2 w2 ⟨rfl, hb2⟩; have hbA := below_step hb0 hb2; have hy2 := bk_below (heap_alloc_new w _) hb2; have c0 := (cell_of_row _ w.heap.size 0 _ _ (0, 0) hy2).trans rfl; have c1 := (cell_of_row _ w.heap.size 1 _ _ (0, 0) hy2).trans rfl; have c2 := (cell_of_row _ w.heap.size 2 _ _ (0, 0) hy2).trans rfl; have f1 := frozen_of_row w2 w.heap.size 1 _ _ hy2; have f2 := frozen_of_row w2 w.heap.size 2 _ _ hy2))
    have hle : w.heap.size ≤ w.heap.size := Nat.le_refl _
    have hbB := (hbA.setCell (p := ⟨w.heap.size, 1, none⟩) hle (.int .i64 (E : Int))).setCell (p := ⟨w.heap.size, 2, none⟩) hle (.int .u64 (F : Int))
    have hy3 : ((w2.setCell ⟨w.heap.size, 1, none⟩ (.int .i64 (E : Int))).setCell ⟨w.heap.size, 2, none⟩ (.int .u64 (F : Int))).heap[w.heap.size]? = some (.cells #[.bool false, .int .i64 (E : Int), .int .u64 (F : Int)] 48 (0, 0)) := bk_set (bk_set hy2 1 (.int .i64 (E : Int))) 2 (.int .u64 (F : Int))
    clear c0 c1 c2 f1 f2 hy2 hbA hb2 hb0
    generalize ((w2.setCell ⟨w.heap.size, 1, none⟩ (.int .i64 (E : Int))).setCell ⟨w.heap.size, 2, none⟩ (.int .u64 (F : Int))) = w3 at hy3 hbB ⊢
    have c0 := (cell_of_row _ w.heap.size 0 _ _ (0, 0) hy3).trans rfl; have c1 := (cell_of_row _ w.heap.size 1 _ _ (0, 0) hy3).trans rfl; have c2 := (cell_of_row _ w.heap.size 2 _ _ (0, 0) hy3).trans rfl
    have hy3d := drew_heap hy3
    have hbBd := hbB.drew
    go_region_held (fun w' => w'.cell? ⟨w.heap.size, 0, none⟩ = some (.bool false) ∧ w'.cell? ⟨w.heap.size, 1, none⟩ = some (.int .i64 (E : Int)) ∧ w'.cell? ⟨w.heap.size, 2, none⟩ = some (.int .u64 (F : Int))) (go_keep) (first
      | (go_simp; go_at_call 19; (with_reducible refine (k3 _).mono ?_); rintro e3 w4 ⟨rfl, hb3⟩; (first | (have hy4 := bk_below hy3 hb3) | (have hy4 := bk_below hy3d hb3)); (first | (have hbC := below_step hbB hb3) | (have hbC := below_step hbBd hb3)); have c0 := (cell_of_row _ w.heap.size 0 _ _ (0, 0) hy4).trans rfl; have c1 := (cell_of_row _ w.heap.size 1 _ _ (0, 0) hy4).trans rfl; have c2 := (cell_of_row _ w.heap.size 2 _ _ (0, 0) hy4).trans rfl)
      | (go_simp; go_at_call 20; (with_reducible refine (k4 _).mono ?_); rintro e5 w5 ⟨rfl, hb5⟩; have hbE := below_step hbC hb5; have hy5 := bk_below hy4 hb5;  have c0 := (cell_of_row _ w.heap.size 0 _ _ (0, 0) hy5).trans rfl; have c1 := (cell_of_row _ w.heap.size 1 _ _ (0, 0) hy5).trans rfl; have c2 := (cell_of_row _ w.heap.size 2 _ _ (0, 0) hy5).trans rfl))
    all_goals
      go_wp2_with fail
      go_ret2
      exact ⟨rfl, hbE⟩
end Go.Proofs.YtffncomekbfihaaDoor.Nat
