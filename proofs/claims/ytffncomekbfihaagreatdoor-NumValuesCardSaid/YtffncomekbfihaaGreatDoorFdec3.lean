/- fdec.ratio.times, whole; fdec.ratio.cut, fdec.small, fdec.signed. -/
import Derived.Test.YtffncomekbfihaaGreatDoorFdec2
namespace Go.Proofs.YtffncomekbfihaaGreatDoor.Nat
open Go.RowKit Go.Shelf
set_option linter.unusedVariables false
/-- ten to a power, above 0 -/
def tp (e : Int) : Nat := 10 ^ e.toNat
theorem tp_nat (n : Nat) : tp (n : Int) = 10 ^ n := by unfold tp; rw [Int.toNat_natCast]
theorem tp_neg (n : Nat) : tp (-(n : Int)) = 1 := by unfold tp; rw [show (-(n : Int)).toNat = 0 by omega]
theorem tp_pos (e : Int) : 0 < tp e := Nat.pow_pos (by decide)
theorem bl_limbs {v L : Nat} (h : (limbs v).length ≤ L) : bl v ≤ 32 * L := by
  by_cases h0 : v = 0
  · subst h0
    have : bl 0 = 0 := rfl
    omega
  · have h1 := bl_bounds h0
    have h2 := lt_limbs v
    rw [pow32] at h2
    have h3 : 2 ^ (bl v - 1) < 2 ^ (32 * (limbs v).length) := Nat.lt_of_le_of_lt h1.2.1 h2
    have h4 := (Nat.pow_lt_pow_iff_right (by decide)).1 h3
    omega
theorem limbs_shift {a n : Nat} (ha : (limbs a).length ≤ 1000) (hn : n ≤ 32000) : (limbs (a * 2 ^ n)).length ≤ 3000 := by
  have h1 := limbs_mul a (2 ^ n)
  have h2 : (limbs (2 ^ n)).length ≤ 1001 := limbs_pow (Nat.le_refl _) (by omega)
  omega
theorem bl_shift {a n : Nat} (ha : (limbs a).length ≤ 1000) (hn : n ≤ 32000) : a = 0 ∨ bl a + n ≤ 131072 := by
  have := bl_limbs ha
  omega
theorem times_calls (Va Vb : Value) (a b : Nat) (two tens : Int) (w : World) (hA : NatA w Va a) (hB : NatA w Vb b) (hla : (limbs a).length ≤ 1000) (hlb : (limbs b).length ≤ 1000) (h1 : -32000 ≤ two) (h2 : two ≤ 32000) (h3 : -2000 ≤ tens) (h4 : tens ≤ 2000) :
    Calls Tryz.prog 20 #[.agg #[Va, Vb], .int .i64 two, .int .i64 tens] w fun e w' => ∃ Va' Vb', e = .returned (.agg #[Va', Vb']) ∧ NatA w' Va' (a * up two * tp tens) ∧ NatA w' Vb' (b * up (-two) * tp (-tens)) ∧ Below w.heap.size w w' := by
  obtain ⟨n, hn⟩ : ∃ n : Nat, two = n ∨ (two = -(n : Int) ∧ 0 < n) := ⟨two.natAbs, by omega⟩
  obtain ⟨t, ht⟩ : ∃ t : Nat, tens = t ∨ (tens = -(t : Int) ∧ 0 < t) := ⟨tens.natAbs, by omega⟩
  rcases hn with rfl | ⟨rfl, hn⟩ <;> rcases ht with rfl | ⟨rfl, ht⟩
  · have h := times_pp Va Vb a b n t w hA hB (by omega) (by omega) (limbs_shift hla (by omega)) (by omega) (by omega) (bl_shift hla (by omega))
    rw [up_nat, up_neg, tp_nat, tp_neg, Nat.mul_one, Nat.mul_one]; exact h
  · have h := times_pn Va Vb a b n t w hA hB (by omega) (by omega) (limbs_shift hla (by omega)) (by omega) (by omega) (bl_shift hla (by omega)) ht
    rw [up_nat, up_neg, tp_neg, Int.neg_neg, tp_nat, Nat.mul_one, Nat.mul_one]; exact h
  · have h := times_np Va Vb a b n t w hA hB (by omega) (by omega) (by omega) (limbs_shift hlb (by omega)) (by omega) (bl_shift hlb (by omega)) hn
    rw [up_neg, Int.neg_neg, up_nat, tp_nat, tp_neg, Nat.mul_one, Nat.mul_one]; exact h
  · have h := times_nn Va Vb a b n t w hA hB (by omega) (by omega) (by omega) (limbs_shift hlb (by omega)) (by omega) (bl_shift hlb (by omega)) hn ht
    rw [up_neg, Int.neg_neg, up_nat, tp_neg, Int.neg_neg, tp_nat, Nat.mul_one, Nat.mul_one]; exact h
set_option maxHeartbeats 4000000 in
set_option maxRecDepth 100000 in
theorem cut_calls (Va Vb : Value) (a b : Nat) (w : World) (hA : NatA w Va a) (hB : NatA w Vb b) (hla : (limbs a).length ≤ 3500) (hlb : (limbs b).length ≤ 3500) (hb0 : b ≠ 0) :
    Calls Tryz.prog 21 #[.agg #[Va, Vb]] w fun e w' => ∃ Vq, e = .returned (.tuple #[Vq, .int .i64 (cmpI (2 * (a % b)) b)]) ∧ NatV w' Vq (a / b) ∧ Below w.heap.size w w' := by
  obtain ⟨A1, l1, c1, rfl, hG1, hO1, hv1⟩ := hA
  obtain ⟨A2, l2, c2, rfl, hG2, hO2, hv2⟩ := hB
  have hA0 : NatA w (.slice A1 l1.length c1) a := ⟨_, _, _, rfl, hG1, hO1, hv1⟩
  have hB0 : NatA w (.slice A2 l2.length c2) b := ⟨_, _, _, rfl, hG2, hO2, hv2⟩
  have bx0 := br_new w (.slice A1 l1.length c1) (.slice A2 l2.length c2)
  have hbA := below_alloc w (.cells #[.slice A1 l1.length c1, .slice A2 l2.length c2] 52)
  have k1 := div_a (hA0.below hbA) (hB0.below hbA) (by omega) (by omega) hb0
  have hle : (limbs (a % b)).length ≤ 3500 := Nat.le_trans (limbs_len_mono (Nat.le_of_lt (Nat.mod_lt a (Nat.pos_of_ne_zero hb0)))) hlb
  have hq : (limbs (a / b)).length ≤ 3500 := Nat.le_trans (limbs_len_mono (Nat.div_le_self a b)) hla
  have hr2 : (limbs (a % b * 2 ^ 1)).length ≤ 4096 := by
    have h1 := limbs_mul (a % b) (2 ^ 1)
    have h2 := limbs_small (x := 2 ^ 1) (by decide)
    omega
  have hbl : a % b = 0 ∨ bl (a % b) + 1 ≤ 131072 := by have := bl_limbs hle; omega
  have hrw : a % b * 2 ^ 1 = 2 * (a % b) := by rw [Nat.pow_one, Nat.mul_comm]
  go_enter Tryz.func21, Tryz.ntmps21
  go_wp2_with (first
    | (go_at_call 55; (with_reducible refine k1.mono ?_); clear k1; rintro e1 w1 ⟨vq, vr, rfl, hvq, hvr, hb1⟩; have bx1 := bx0.below hb1; have q1 := bx1.c1; have k2 : Calls Tryz.prog 52 #[vr, .int .i64 1] w1 _ := shl_a 1 (hvr.a (by omega)) hbl (by omega))
    | (go_at_call 52; (with_reducible refine k2.mono ?_); clear k2; rintro e2 w2 ⟨v2, rfl, hv2, hb2⟩; have bx2 := bx1.below hb2; have q2 := bx2.c1; have hbC := below_step (below_step hbA hb1) hb2; have k3 := cmp_a (hv2.a (by omega)) (hB0.below hbC))
    | (go_at_call 23; (with_reducible refine k3.mono ?_); clear k3; rintro e3 w3 ⟨rfl, hb3⟩))
  go_ret2
  rw [← hrw]
  exact ⟨_, rfl, hvq.below (hb2.trans (hb3.mono hb2.size)), below_step hbC hb3⟩
end Go.Proofs.YtffncomekbfihaaGreatDoor.Nat
