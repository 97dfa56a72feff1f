/- fdec.power, fdec.ten; natural numbers as values. -/
import Derived.Test.YtffncomekbfihaaGreatDoorNatDivG
namespace Go.Proofs.YtffncomekbfihaaGreatDoor.Nat
open Go.RowKit Go.Shelf
set_option linter.unusedVariables false
/-- a value that is a slice of a number's limbs, trimmed or not -/
def NatA (w : World) (V : Value) (v : Nat) : Prop := ∃ A l c, V = .slice A l.length c ∧ Good w (A, l, c) ∧ Ok l ∧ nv l = v
theorem NatA.below {w w' : World} {V : Value} {v : Nat} (h : NatA w V v) (hb : Below w.heap.size w w') : NatA w' V v := by
  obtain ⟨A, l, c, e, hG, hO, hv⟩ := h
  exact ⟨A, l, c, e, hG.below hb, hO, hv⟩
theorem NatV.a {w : World} {V : Value} {v : Nat} (h : NatV w V v) (hl : (limbs v).length ≤ 4096) : NatA w V v := by
  obtain ⟨A, c, e, hc, hR⟩ := h
  exact ⟨A, limbs v, c, e, ⟨hR, hc, by dsimp only; omega⟩, ok_limbs v, nv_limbs v⟩
theorem nata_one (w : World) (x : Nat) (hx : x < 4294967296) : NatA (w.alloc (.cells #[.int .u32 (x : Int)] 53)) (.slice (some ⟨w.heap.size, 0, none⟩) 1 1) x := ⟨_, [x], 1, rfl, good_one w x, ok_one hx, by simp [nv]⟩
theorem mul_a {w : World} {V1 V2 : Value} {a b : Nat} (h1 : NatA w V1 a) (h2 : NatA w V2 b) (h : (limbs a).length + (limbs b).length ≤ 4096) :
    Calls Tryz.prog 53 #[V1, V2] w fun e w' => ∃ v', e = .returned (.tuple #[v', .int .i64 0]) ∧ NatV w' v' (a * b) ∧ Below w.heap.size w w' := by
  obtain ⟨A, l, c, rfl, hG, hO, rfl⟩ := h1
  obtain ⟨A', l', c', rfl, hG', hO', rfl⟩ := h2
  exact mul_calls A l c A' l' c' w hG hG' hO hO' (by rw [tn_eq hO, tn_eq hO']; exact h)
theorem shl_a {w : World} {V1 : Value} {a : Nat} (n : Nat) (h1 : NatA w V1 a) (h : a = 0 ∨ bl a + n ≤ 131072) (hz : (limbs a).length ≤ 4096) :
    Calls Tryz.prog 52 #[V1, .int .i64 (n : Int)] w fun e w' => ∃ v', e = .returned (.tuple #[v', .int .i64 0]) ∧ NatV w' v' (a * 2 ^ n) ∧ Below w.heap.size w w' := by
  obtain ⟨A, l, c, rfl, hG, hO, rfl⟩ := h1
  exact shl_calls A l c n w hG hO h (by rw [tn_eq hO]; exact hz)
theorem div_a {w : World} {V1 V2 : Value} {a b : Nat} (h1 : NatA w V1 a) (h2 : NatA w V2 b) (ha : (limbs a).length ≤ 4096) (hb : (limbs b).length ≤ 4096) (h0 : b ≠ 0) :
    Calls Tryz.prog 55 #[V1, V2] w fun e w' => ∃ v1 v2, e = .returned (.tuple #[v1, v2, .int .i64 0]) ∧ NatV w' v1 (a / b) ∧ NatV w' v2 (a % b) ∧ Below w.heap.size w w' := by
  obtain ⟨A, l, c, rfl, hG, hO, rfl⟩ := h1
  obtain ⟨A', l', c', rfl, hG', hO', rfl⟩ := h2
  exact div_calls A l c A' l' c' w hG hG' hO hO' (by rw [tn_eq hO]; exact ha) (by rw [tn_eq hO']; exact hb) h0
theorem cmp_a {w : World} {V1 V2 : Value} {a b : Nat} (h1 : NatA w V1 a) (h2 : NatA w V2 b) :
    Calls Tryz.prog 23 #[V1, V2] w fun e w' => e = .returned (.int .i64 (cmpI a b)) ∧ Below w.heap.size w w' := by
  obtain ⟨A, l, c, rfl, hG, hO, rfl⟩ := h1
  obtain ⟨A', l', c', rfl, hG', hO', rfl⟩ := h2
  exact cmp_calls A l c A' l' c' w hG hG' hO hO'
theorem bits_a {w : World} {V1 : Value} {a : Nat} (h1 : NatA w V1 a) :
    Calls Tryz.prog 90 #[V1] w fun e w' => e = .returned (.int .i64 (bl a)) ∧ Below w.heap.size w w' := by
  obtain ⟨A, l, c, rfl, hG, hO, rfl⟩ := h1
  exact bits_calls A l c w hG hO
theorem limbs_mul (a b : Nat) : (limbs (a * b)).length ≤ (limbs a).length + (limbs b).length := by
  refine limbs_len_le ?_
  rw [Nat.pow_add]
  exact Nat.mul_lt_mul'' (lt_limbs a) (lt_limbs b)
theorem ten_bits (n : Nat) : 10 ^ n ≤ 2 ^ (4 * n) := by
  rw [Nat.pow_mul]
  exact Nat.pow_le_pow_left (by decide) n
theorem limbs_pow {v e L : Nat} (h : v ≤ 2 ^ e) (hl : e < 32 * L) : (limbs v).length ≤ L := limbs_len_le (Nat.lt_of_le_of_lt h (by rw [pow32]; exact Nat.pow_lt_pow_right (by decide) hl))
theorem limbs_ten {n : Nat} (h : n ≤ 2000) : (limbs (10 ^ n)).length ≤ 251 := limbs_pow (ten_bits n) (by omega)
theorem limbs_small {x : Nat} (h : x < 4294967296) : (limbs x).length ≤ 1 := limbs_len_le (by rwa [Nat.pow_one])
set_option maxHeartbeats 4000000 in
set_option maxRecDepth 100000 in
theorem power_calls (n : Nat) (w : World) (hn : n ≤ 8) :
    Calls Tryz.prog 101 #[.int .u32 10, .int .i64 (n : Int)] w fun e w' => ∃ v', e = .returned v' ∧ NatA w' v' (10 ^ n) ∧ Below w.heap.size w w' := by
  have h10 : ∀ i, i ≤ 8 → 10 ^ i < 4294967296 := fun i hi => Nat.lt_of_le_of_lt (Nat.pow_le_pow_right (by decide) hi) (by decide)
  have H10 : Hid _ := Lib.hid h10
  clear h10
  have hb0 := below_alloc w (.cells #[.int .u32 1] 53)
  have hx0 : NatA (w.alloc (.cells #[.int .u32 1] 53)) (.slice (some ⟨w.heap.size, 0, none⟩) 1 1) 1 := nata_one w 1 (by decide)
  go_enter Tryz.func101, Tryz.ntmps101
  go_wp2
  go_loopg [5, 8] n (fun kq v5 v8 wr => ∃ i : Nat, v8 = .int .i64 i ∧ i + kq = n ∧ NatA wr v5 (10 ^ i) ∧ Below w.heap.size w wr)
  case atStart => exact ⟨0, rfl, by omega, by simpa using hx0, hb0⟩
  case round =>
    clear hx0 hb0
    obtain ⟨i, rfl, hi, hx, hb⟩ := hrel
    cases gk with
    | zero =>
      obtain rfl : i = n := by omega
      go_wp2
      go_ret
      exact ⟨_, rfl, hx, hb⟩
    | succ d =>
      have hin : (i : Int) < (n : Int) := by omega
      have hb1 := below_alloc wr (.cells #[.int .u32 10] 53)
      have ht : NatA (wr.alloc (.cells #[.int .u32 10] 53)) (.slice (some ⟨wr.heap.size, 0, none⟩) 1 1) 10 := nata_one wr 10 (by decide)
      have k1 := mul_a (hx.below hb1) ht (by have h1 := limbs_small (H10.out i (by omega)); have h2 := limbs_small (x := 10) (by decide); omega)
      go_wp2_with (go_at_call 53; (with_reducible refine k1.mono ?_); clear k1; rintro e1 w1 ⟨v1, rfl, hv1, hb2⟩)
      go_roundg d
      case rel => exact ⟨i + 1, by go_num, by omega, by rw [Nat.pow_succ]; exact hv1.a (by have h1 := limbs_small (H10.out (i + 1) (by omega)); rw [Nat.pow_succ] at h1; omega), below_step (below_step hb hb1) hb2⟩
      case measure => omega
set_option maxHeartbeats 4000000 in
set_option maxRecDepth 100000 in
theorem ten_calls (n : Nat) : ∀ (w : World), n ≤ 2000 → Calls Tryz.prog 54 #[.int .i64 (n : Int)] w fun e w' => ∃ v', e = .returned v' ∧ NatA w' v' (10 ^ n) ∧ Below w.heap.size w w' := by
  induction n using Nat.strongRecOn with
  | _ n ih =>
  intro w hn
  by_cases h9 : n < 9
  · have k1 := power_calls n w (by omega)
    have hI : (n : Int) < 9 := by omega
    clear ih
    go_enter Tryz.func54, Tryz.ntmps54
    go_wp2_with (go_at_call 101; (with_reducible refine k1.mono ?_); clear k1; rintro e1 w1 ⟨v1, rfl, hv1, hb1⟩)
    go_ret
    exact ⟨_, rfl, hv1, hb1⟩
  · have hI : ¬ (n : Int) < 9 := by omega
    obtain ⟨m, hm⟩ : ∃ m, n / 2 = m := ⟨_, rfl⟩
    have hmI : Int.tdiv (n : Int) 2 = (m : Int) := by rw [Int.tdiv_eq_ediv_of_nonneg (by omega)]; omega
    have hmI2 : (n : Int) / 2 = (m : Int) := by omega
    have k1 := ih m (by omega) w (by omega)
    have hlm := limbs_ten (n := m) (by omega)
    have hlm2 : (limbs (10 ^ m * 10 ^ m)).length ≤ 251 := by rw [← Nat.pow_add]; exact limbs_ten (by omega)
    clear ih
    rcases (show n = m + m ∨ n = m + m + 1 by omega) with hnm | hnm
    · have hr : Int.tmod (n : Int) 2 = 0 := by rw [Int.tmod_eq_emod_of_nonneg (by omega)]; omega
      have hr2 : (n : Int) % 2 = 0 := by omega
      have HNM : Hid _ := Lib.hid hnm
      clear hnm hm
      go_enter Tryz.func54, Tryz.ntmps54
      go_wp2_with (first | (go_at_call 54; (with_reducible refine k1.mono ?_); clear k1; rintro e1 w1 ⟨v1, rfl, hv1, hb1⟩; have k2 := mul_a hv1 hv1 (by omega)) | (go_at_call 53; (with_reducible refine k2.mono ?_); clear k2; rintro e2 w2 ⟨v2, rfl, hv2, hb2⟩))
      go_ret
      refine ⟨_, rfl, ?_, below_step hb1 hb2⟩
      rw [HNM.out, Nat.pow_add]
      exact hv2.a (by omega)
    · have hr : Int.tmod (n : Int) 2 = 1 := by rw [Int.tmod_eq_emod_of_nonneg (by omega)]; omega
      have hr2 : (n : Int) % 2 = 1 := by omega
      have hl3 : (limbs (10 ^ n)).length ≤ 251 := limbs_ten hn
      have hpn : 10 ^ n = 10 ^ m * 10 ^ m * 10 := by rw [hnm, Nat.pow_succ, Nat.pow_add]
      have HNM : Hid _ := Lib.hid hpn
      clear hnm hm hpn
      have hl10 := limbs_small (x := 10) (by decide)
      go_enter Tryz.func54, Tryz.ntmps54
      go_wp2_with (first | (go_at_call 54; (with_reducible refine k1.mono ?_); clear k1; rintro e1 w1 ⟨v1, rfl, hv1, hb1⟩; have k2 := mul_a hv1 hv1 (by omega)) | (go_at_call 53; (with_reducible refine k2.mono ?_); clear k2; rintro e2 w2 ⟨v2, rfl, hv2, hb2⟩; have hb3 := below_alloc w2 (.cells #[.int .u32 10] 53); have ht : NatA (w2.alloc (.cells #[.int .u32 10] 53)) (.slice (some ⟨w2.heap.size, 0, none⟩) 1 1) 10 := nata_one w2 10 (by decide); have k3 := mul_a ((hv2.a (by omega)).below hb3) ht (by omega)) | (go_at_call 53; (with_reducible refine k3.mono ?_); clear k3; rintro e3 w3 ⟨v3, rfl, hv3, hb4⟩))
      go_ret
      refine ⟨_, rfl, ?_, below_step (below_step hb1 hb2) (below_step hb3 hb4)⟩
      rw [HNM.out]
      exact hv3.a (by rw [← HNM.out]; omega)
end Go.Proofs.YtffncomekbfihaaGreatDoor.Nat
