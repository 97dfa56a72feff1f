/- The nearest float, as fdec.nearest finds it: plain arithmetic. -/
import Derived.Test.YtffncomekbfihaaGreatDoorFdec4
namespace Go.Proofs.YtffncomekbfihaaGreatDoor.Nat
set_option linter.unusedVariables false
/-- the logarithm's first guess -/
def lg0 (a b : Nat) : Int := (bl a : Int) - (bl b : Int)
def lg (a b : Nat) : Int := if a * up (-lg0 a b) < b * up (lg0 a b) then lg0 a b - 1 else lg0 a b
theorem up_le {d : Int} {n : Nat} (h : d ≤ n) : up d ≤ 2 ^ n := Nat.pow_le_pow_right (by decide) (by omega)
theorem lg_below {a b : Nat} (ha : a ≠ 0) (hb : b ≠ 0) : ¬ geP a b (lg0 a b + 1) := by
  have h1 := bl_bounds ha
  have h2 := bl_bounds hb
  unfold geP lg0 up
  refine Nat.not_le_of_lt ?_
  rcases Nat.lt_or_ge (bl a + 1) (bl b) with h | h
  · have e1 : ((bl a : Int) - (bl b : Int) + 1).toNat = 0 := by omega
    have e2 : (-((bl a : Int) - (bl b : Int) + 1)).toNat = bl b - bl a - 1 := by omega
    rw [e1, e2, Nat.pow_zero, Nat.mul_one]
    calc a * 2 ^ (bl b - bl a - 1) < 2 ^ bl a * 2 ^ (bl b - bl a - 1) := Nat.mul_lt_mul_of_pos_right h1.2.2 (Nat.two_pow_pos _)
      _ = 2 ^ (bl b - 1) := by rw [← Nat.pow_add]; congr 1; omega
      _ ≤ b := h2.2.1
  · have e1 : ((bl a : Int) - (bl b : Int) + 1).toNat = bl a + 1 - bl b := by omega
    have e2 : (-((bl a : Int) - (bl b : Int) + 1)).toNat = 0 := by omega
    rw [e1, e2, Nat.pow_zero, Nat.mul_one]
    calc a < 2 ^ bl a := h1.2.2
      _ = 2 ^ (bl b - 1) * 2 ^ (bl a + 1 - bl b) := by rw [← Nat.pow_add]; congr 1; omega
      _ ≤ b * 2 ^ (bl a + 1 - bl b) := Nat.mul_le_mul_right _ h2.2.1
theorem lg_above {a b : Nat} (ha : a ≠ 0) (hb : b ≠ 0) : geP a b (lg0 a b - 1) := by
  have h1 := bl_bounds ha
  have h2 := bl_bounds hb
  unfold geP lg0 up
  rcases Nat.lt_or_ge (bl a) (bl b + 1) with h | h
  · have e1 : ((bl a : Int) - (bl b : Int) - 1).toNat = 0 := by omega
    have e2 : (-((bl a : Int) - (bl b : Int) - 1)).toNat = bl b + 1 - bl a := by omega
    rw [e1, e2, Nat.pow_zero, Nat.mul_one]
    calc b ≤ 2 ^ bl b := Nat.le_of_lt h2.2.2
      _ = 2 ^ (bl a - 1) * 2 ^ (bl b + 1 - bl a) := by rw [← Nat.pow_add]; congr 1; omega
      _ ≤ a * 2 ^ (bl b + 1 - bl a) := Nat.mul_le_mul_right _ h1.2.1
  · have e1 : ((bl a : Int) - (bl b : Int) - 1).toNat = bl a - 1 - bl b := by omega
    have e2 : (-((bl a : Int) - (bl b : Int) - 1)).toNat = 0 := by omega
    rw [e1, e2, Nat.pow_zero, Nat.mul_one]
    calc b * 2 ^ (bl a - 1 - bl b) ≤ 2 ^ bl b * 2 ^ (bl a - 1 - bl b) := Nat.mul_le_mul_right _ (Nat.le_of_lt h2.2.2)
      _ = 2 ^ (bl a - 1) := by rw [← Nat.pow_add]; congr 1; omega
      _ ≤ a := h1.2.1
theorem lg_log {a b : Nat} (ha : a ≠ 0) (hb : b ≠ 0) : IsLog a b (lg a b) := by
  unfold lg IsLog
  by_cases h : a * up (-lg0 a b) < b * up (lg0 a b)
  · rw [if_pos h]
    refine ⟨lg_above ha hb, ?_⟩
    rw [Int.sub_add_cancel]
    exact Nat.not_le_of_lt h
  · rw [if_neg h]
    exact ⟨Nat.le_of_not_lt h, lg_below ha hb⟩
/-- the bits nearest to a / b, if they are not too many -/
def near (a b : Nat) : Nat := bitsQ a b (lg a b)
def nq (a b : Nat) : Nat := a * up (-uOf (lg a b)) / (b * up (uOf (lg a b)))
def nr (a b : Nat) : Nat := a * up (-uOf (lg a b)) % (b * up (uOf (lg a b)))
def nd (a b : Nat) : Nat := b * up (uOf (lg a b))
def nn (a b : Nat) : Nat := rhe (a * up (-uOf (lg a b))) (b * up (uOf (lg a b)))
theorem nd_pos {a b : Nat} (hb : b ≠ 0) : 0 < nd a b := Nat.mul_pos (Nat.pos_of_ne_zero hb) (up_pos _)
theorem nn_le {a b : Nat} (ha : a ≠ 0) (hb : b ≠ 0) : nn a b ≤ 9007199254740992 := n_le (Nat.pos_of_ne_zero hb) (lg_log ha hb)
theorem nq_le {a b : Nat} : nq a b ≤ nn a b := by unfold nq nn rhe; split <;> omega
theorem nn_up {a b : Nat} (h : nd a b < 2 * nr a b ∨ (2 * nr a b = nd a b ∧ nq a b % 2 = 1)) : nn a b = nq a b + 1 := by unfold nn rhe; exact if_pos h
theorem nn_down {a b : Nat} (h : ¬ (nd a b < 2 * nr a b ∨ (2 * nr a b = nd a b ∧ nq a b % 2 = 1))) : nn a b = nq a b := by unfold nn rhe; exact if_neg h
theorem near_eq (a b : Nat) : near a b = (uOf (lg a b) + 1074).toNat * 4503599627370496 + nn a b := rfl
theorem near_low {a b : Nat} (ha : a ≠ 0) (hb : b ≠ 0) (h : nn a b < 4503599627370496) : near a b = nn a b := by
  have h1 : ¬ -1074 < uOf (lg a b) := fun q => by
    have := le_n (Nat.pos_of_ne_zero hb) (lg_log ha hb) q
    unfold nn at h
    omega
  have h2 : uOf (lg a b) = -1074 := by unfold uOf at *; omega
  rw [near_eq, h2]
  simp
/-- a nearest float is no less for what is no less -/
theorem near_mono {a b a' b' : Nat} (ha : a ≠ 0) (hb : b ≠ 0) (ha' : a' ≠ 0) (hb' : b' ≠ 0) (h : a * b' ≤ a' * b) : near a b ≤ near a' b' :=
  bits_mono (Nat.pos_of_ne_zero hb) (Nat.pos_of_ne_zero hb') h (lg_log ha hb) (lg_log ha' hb')
theorem near_same {a b a' b' : Nat} (ha : a ≠ 0) (hb : b ≠ 0) (ha' : a' ≠ 0) (hb' : b' ≠ 0) (h : a * b' = a' * b) : near a b = near a' b' :=
  bits_same (Nat.pos_of_ne_zero hb) (Nat.pos_of_ne_zero hb') h (lg_log ha hb) (lg_log ha' hb')
/-- the answer of nearest -/
def nearV (a b : Nat) : Value := if near a b < 9218868437227405312 then .tuple #[.int .u64 (near a b : Nat), .int .i64 0] else .tuple #[.int .u64 0, .int .i64 8]
end Go.Proofs.YtffncomekbfihaaGreatDoor.Nat
