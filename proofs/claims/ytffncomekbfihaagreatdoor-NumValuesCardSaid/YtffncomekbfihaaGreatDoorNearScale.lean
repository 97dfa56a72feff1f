/- The nearest float of a number times a power of two; and of what lies near a float. -/
import Derived.Test.YtffncomekbfihaaGreatDoorNearMore
namespace Go.Proofs.YtffncomekbfihaaGreatDoor.Nat
set_option linter.unusedVariables false
theorem log_one {a b : Nat} {e e' : Int} (hb : 0 < b) (k : IsLog a b e) (k' : IsLog a b e') : e = e' :=
  Int.le_antisymm (log_le hb (Nat.le_refl _) k k') (log_le hb (Nat.le_refl _) k' k)
theorem near_of_log {a b : Nat} {e : Int} (ha : a ≠ 0) (hb : b ≠ 0) (k : IsLog a b e) : near a b = bitsQ a b e := by
  unfold near
  rw [log_one (Nat.pos_of_ne_zero hb) k (lg_log ha hb)]
theorem rhe_same {a b a' b' : Nat} (hb : 0 < b) (hb' : 0 < b') (h : a * b' = a' * b) : rhe a b = rhe a' b' :=
  Nat.le_antisymm (rhe_mono hb hb' (Nat.le_of_eq h)) (rhe_mono hb' hb (Nat.le_of_eq h.symm))
theorem log_scaled {m k : Nat} {t : Int} (h1 : 2 ^ k ≤ m) (h2 : m < 2 ^ (k + 1)) : IsLog (m * up t) (up (-t)) (t + k) := by
  constructor
  · unfold geP
    have e := up_step t k
    rw [Nat.mul_comm (up (-t)), e, Nat.mul_assoc m, Nat.mul_comm m]
    exact Nat.mul_le_mul_left _ h1
  · unfold geP
    have e := up_step t (k + 1)
    have e2 : t + (k : Int) + 1 = t + ((k + 1 : Nat) : Int) := by omega
    rw [e2, Nat.mul_comm (up (-t)), e, Nat.mul_assoc m, Nat.mul_comm m]
    exact Nat.not_le.2 (Nat.mul_lt_mul_of_pos_left h2 (Nat.mul_pos (up_pos _) (up_pos _)))
theorem near_scaled {m k j : Nat} {t : Int} (h1 : 2 ^ k ≤ m) (h2 : m < 2 ^ (k + 1)) (hu : uOf (t + k) = t + j) :
    near (m * up t) (up (-t)) = (t + j + 1074).toNat * 4503599627370496 + rhe m (2 ^ j) := by
  have hm : m ≠ 0 := fun h => by have := Nat.two_pow_pos k; omega
  rw [near_of_log (Nat.mul_ne_zero hm (Nat.ne_of_gt (up_pos _))) (Nat.ne_of_gt (up_pos _)) (log_scaled h1 h2), bitsQ, hu]
  congr 1
  apply rhe_same (Nat.mul_pos (up_pos _) (up_pos _)) (Nat.two_pow_pos j)
  have e := up_step t j
  rw [Nat.mul_comm (up (-t)), e]
  simp only [Nat.mul_assoc]
/-- the whole number and the power of a float's bits -/
def xM (b : Nat) : Nat := if b / 4503599627370496 % 2048 = 0 then b % 4503599627370496 else 4503599627370496 + b % 4503599627370496
def xX (b : Nat) : Int := if b / 4503599627370496 % 2048 = 0 then -1074 else ((b / 4503599627370496 % 2048 : Nat) : Int) - 1075
theorem log_of {m : Nat} (h : m ≠ 0) : ∃ k, 2 ^ k ≤ m ∧ m < 2 ^ (k + 1) := ⟨m.log2, Nat.log2_self_le h, Nat.lt_log2_self⟩
theorem k_lt {m k n : Nat} (h1 : 2 ^ k ≤ m) (h2 : m < 2 ^ n) : k < n := by
  rcases Nat.lt_or_ge k n with h | h
  · exact h
  · have := Nat.pow_le_pow_right (n := 2) (by decide) h
    omega
theorem rhe_one (m : Nat) : rhe m (2 ^ 0) = m := by
  rw [Nat.pow_zero]
  unfold rhe
  rw [if_neg (by omega), Nat.div_one]
/-- a float's bits are the nearest ones of what they say -/
theorem near_exact {b : Nat} (h0 : xM b ≠ 0) : near (xM b * up (xX b)) (up (-(xX b))) = b % 9223372036854775808 := by
  unfold xM xX at *
  have hd : b % 9223372036854775808 = b / 4503599627370496 % 2048 * 4503599627370496 + b % 4503599627370496 := by omega
  by_cases hf : b / 4503599627370496 % 2048 = 0
  · rw [if_pos hf] at *
    obtain ⟨k, h1, h2⟩ := log_of h0
    have hk : k < 52 := k_lt h1 (by omega)
    rw [near_scaled (j := 0) h1 h2 (by unfold uOf; omega), rhe_one]
    omega
  · rw [if_neg hf] at *
    rw [near_scaled (k := 52) (j := 0) (by omega) (by omega) (by unfold uOf; omega), rhe_one]
    omega
theorem up_near (X : Int) : up X * up (-(X - 54)) = up (X - 54) * (18014398509481984 * up (-X)) := by
  have e := up_step (X - 54) 54
  rw [show X - 54 + ((54 : Nat) : Int) = X from by omega] at e
  rw [e, Nat.mul_comm 18014398509481984, Nat.mul_assoc]
theorem near_shift {m : Nat} (hm : m ≠ 0) (X : Int) : near (m * up X) (18014398509481984 * up (-X)) = near (m * up (X - 54)) (up (-(X - 54))) := by
  have p1 := up_pos X
  have p2 := up_pos (-X)
  have p3 := up_pos (X - 54)
  have p4 := up_pos (-(X - 54))
  refine near_same (Nat.mul_ne_zero hm (by omega)) (by omega) (Nat.mul_ne_zero hm (by omega)) (by omega) ?_
  rw [Nat.mul_assoc, Nat.mul_assoc, up_near]
theorem rhe_above {M : Nat} (h : M < 9007199254740992) : rhe (M * 18014398509481985) (2 ^ 54) = M := by
  have e : M * 18014398509481985 = 2 ^ 54 * M + M := by omega
  unfold rhe
  rw [e, Nat.mul_add_div (by decide), Nat.mul_add_mod, Nat.div_eq_of_lt (by omega), Nat.mod_eq_of_lt (by omega), if_neg (by omega)]
  rfl
theorem rhe_below {M : Nat} (h : M < 9007199254740992) (h0 : M ≠ 0) : rhe (M * 18014398509481983) (2 ^ 54) = M := by
  have e : M * 18014398509481983 = 2 ^ 54 * (M - 1) + (18014398509481984 - M) := by omega
  unfold rhe
  rw [e, Nat.mul_add_div (by decide), Nat.mul_add_mod, Nat.div_eq_of_lt (by omega), Nat.mod_eq_of_lt (by omega), if_pos (by omega)]
  omega
theorem near_above {b : Nat} (h0 : xM b ≠ 0) : near (xM b * 18014398509481985 * up (xX b)) (18014398509481984 * up (-(xX b))) = b % 9223372036854775808 := by
  rw [near_shift (by omega)]
  unfold xM xX at *
  have hd : b % 9223372036854775808 = b / 4503599627370496 % 2048 * 4503599627370496 + b % 4503599627370496 := by omega
  by_cases hf : b / 4503599627370496 % 2048 = 0
  · rw [if_pos hf] at *
    have hm : b % 4503599627370496 * 18014398509481985 ≠ 0 := by omega
    obtain ⟨k, h1, h2⟩ := log_of hm
    have hk : k < 107 := k_lt h1 (by omega)
    rw [near_scaled (j := 54) h1 h2 (by unfold uOf; omega)]
    rw [rhe_above (by omega)]
    omega
  · rw [if_neg hf] at *
    rw [near_scaled (k := 106) (j := 54) (by omega) (by omega) (by unfold uOf; omega)]
    rw [rhe_above (by omega)]
    omega
theorem near_below {b : Nat} (h0 : xM b ≠ 0) : near (xM b * 18014398509481983 * up (xX b)) (18014398509481984 * up (-(xX b))) = b % 9223372036854775808 := by
  rw [near_shift (by omega)]
  unfold xM xX at *
  have hd : b % 9223372036854775808 = b / 4503599627370496 % 2048 * 4503599627370496 + b % 4503599627370496 := by omega
  by_cases hf : b / 4503599627370496 % 2048 = 0
  · rw [if_pos hf] at *
    have hm : b % 4503599627370496 * 18014398509481983 ≠ 0 := by omega
    obtain ⟨k, h1, h2⟩ := log_of hm
    have hk : k < 107 := k_lt h1 (by omega)
    rw [near_scaled (j := 54) h1 h2 (by unfold uOf; omega)]
    rw [rhe_below (by omega) (by omega)]
    omega
  · rw [if_neg hf] at *
    by_cases hz : b % 4503599627370496 = 0
    · rw [hz]
      by_cases hg : b / 4503599627370496 % 2048 = 1
      · rw [near_scaled (k := 105) (j := 54) (by omega) (by omega) (by unfold uOf; omega)]
        have hr : rhe ((4503599627370496 + 0) * 18014398509481983) (2 ^ 54) = 4503599627370496 := by decide
        rw [hr]
        omega
      · rw [near_scaled (k := 105) (j := 53) (by omega) (by omega) (by unfold uOf; omega)]
        have hr : rhe ((4503599627370496 + 0) * 18014398509481983) (2 ^ 53) = 9007199254740992 := by decide
        rw [hr]
        omega
    · rw [near_scaled (k := 106) (j := 54) (by omega) (by omega) (by unfold uOf; omega)]
      rw [rhe_below (by omega) (by omega)]
      omega
/-- what differs from a float by no more than its 2^54th part has its bits -/
theorem near_about {b p q : Nat} (h0 : xM b ≠ 0) (hp : p ≠ 0) (hq : q ≠ 0)
    (h1 : p * (18014398509481984 * up (-(xX b))) ≤ xM b * 18014398509481985 * up (xX b) * q)
    (h2 : xM b * 18014398509481983 * up (xX b) * q ≤ p * (18014398509481984 * up (-(xX b)))) : near p q = b % 9223372036854775808 := by
  have p1 := up_pos (xX b)
  have p2 := up_pos (-(xX b))
  apply Nat.le_antisymm
  · rw [← near_above h0]
    exact near_mono hp hq (Nat.mul_ne_zero (by omega) (by omega)) (by omega) h1
  · rw [← near_below h0]
    exact near_mono (Nat.mul_ne_zero (by omega) (by omega)) (by omega) hp hq h2
/-- a whole number's bits -/
theorem near_whole {n t : Nat} (h0 : n ≠ 0) (h1 : 2 ^ (t - 1) ≤ n) (h2 : n < 2 ^ t) (ht : t ≤ 64) (hd : 2048 ∣ n * 2 ^ (64 - t)) :
    near n 1 = (1021 + t) * 4503599627370496 + n * 2 ^ (64 - t) / 2048 := by
  have hp := Nat.two_pow_pos (64 - t)
  have ht0 : t ≠ 0 := fun h => by subst h; simp at h2; omega
  have e1 : near n 1 = near (n * 2 ^ (64 - t) * up (-((64 - t : Nat) : Int))) (up (-(-((64 - t : Nat) : Int)))) := by
    have q1 : up (-((64 - t : Nat) : Int)) = 1 := by unfold up; rw [show (-((64 - t : Nat) : Int)).toNat = 0 from by omega, Nat.pow_zero]
    have q2 : up (-(-((64 - t : Nat) : Int))) = 2 ^ (64 - t) := by unfold up; rw [Int.neg_neg, Int.toNat_natCast]
    rw [q1, q2]
    refine near_same h0 (by decide) (by rw [Nat.mul_one]; exact Nat.mul_ne_zero h0 (by omega)) (by omega) ?_
    rw [Nat.mul_one, Nat.mul_one]
  have g1 : 2 ^ 63 ≤ n * 2 ^ (64 - t) := by
    have := Nat.mul_le_mul_right (2 ^ (64 - t)) h1
    rw [← Nat.pow_add, show t - 1 + (64 - t) = 63 from by omega] at this
    exact this
  have g2 : n * 2 ^ (64 - t) < 2 ^ (63 + 1) := by
    have := Nat.mul_lt_mul_of_pos_right h2 hp
    rw [← Nat.pow_add, show t + (64 - t) = 63 + 1 from by omega] at this
    exact this
  rw [e1, near_scaled (k := 63) (j := 11) g1 g2 (by unfold uOf; omega)]
  generalize n * 2 ^ (64 - t) = m at *
  have hr : rhe m (2 ^ 11) = m / 2048 := by
    obtain ⟨c, rfl⟩ := hd
    unfold rhe
    rw [if_neg (by omega)]
  rw [hr]
  omega
end Go.Proofs.YtffncomekbfihaaGreatDoor.Nat
