/- Long division's steps, as plain arithmetic. -/
import Derived.Test.YtffncomekbfihaaGreatDoorNatPure
namespace Go.Proofs.YtffncomekbfihaaGreatDoor.Nat
set_option linter.unusedVariables false
/-- the guess is too much where it is found so by two limbs -/
theorem knuth_hi {E top u2 lu v1 v2 lv q r : Nat} (hqr : q * v1 + r = top) (h : r * 4294967296 + u2 < q * v2) (hlu : lu < E) : (top * 4294967296 + u2) * E + lu < q * ((v1 * 4294967296 + v2) * E + lv) := by
  have h1 : top * 4294967296 + u2 + 1 ≤ q * (v1 * 4294967296 + v2) := by
    rw [Nat.mul_add, ← Nat.mul_assoc, ← hqr, Nat.add_mul]; omega
  have h2 : (top * 4294967296 + u2 + 1) * E ≤ q * (v1 * 4294967296 + v2) * E := Nat.mul_le_mul_right _ h1
  rw [Nat.add_mul _ 1, Nat.one_mul] at h2
  have h3 : q * (v1 * 4294967296 + v2) * E ≤ q * ((v1 * 4294967296 + v2) * E + lv) := by rw [Nat.mul_assoc]; exact Nat.mul_le_mul_left _ (Nat.le_add_right _ _)
  omega
/-- where it is not found so it is one too much at the most -/
theorem knuth_lo {E top u2 lu v1 v2 lv q r : Nat} (hqr : q * v1 + r = top) (h : q * v2 ≤ r * 4294967296 + u2) (hq : q ≤ 4294967296) (hlv : lv < E) (hv1 : 1 ≤ v1) : q * ((v1 * 4294967296 + v2) * E + lv) ≤ ((top * 4294967296 + u2) * E + lu) + ((v1 * 4294967296 + v2) * E + lv) := by
  have h1 : q * (v1 * 4294967296 + v2) ≤ top * 4294967296 + u2 := by
    rw [Nat.mul_add, ← Nat.mul_assoc, ← hqr, Nat.add_mul]; omega
  have h2 : q * (v1 * 4294967296 + v2) * E ≤ (top * 4294967296 + u2) * E := Nat.mul_le_mul_right _ h1
  have h3 : q * lv ≤ 4294967296 * E := Nat.mul_le_mul hq (Nat.le_of_lt hlv)
  have h4 : 4294967296 * E ≤ (v1 * 4294967296 + v2) * E := Nat.mul_le_mul_right _ (by omega)
  rw [Nat.mul_add, ← Nat.mul_assoc]
  omega
theorem knuth_start {E top u2 lu v1 v2 lv : Nat} (hv1 : 1 ≤ v1) (hu2 : u2 < 4294967296) (hlu : lu < E) : (top * 4294967296 + u2) * E + lu < (top / v1 + 1) * ((v1 * 4294967296 + v2) * E + lv) := by
  have h0 := Nat.div_add_mod top v1
  have h1 := Nat.mod_lt top (show 0 < v1 by omega)
  have h2 : top + 1 ≤ (top / v1 + 1) * v1 := by rw [Nat.add_mul, Nat.mul_comm (top / v1), Nat.one_mul]; omega
  have h3 : (top * 4294967296 + u2 + 1) ≤ (top / v1 + 1) * (v1 * 4294967296 + v2) := by
    rw [Nat.mul_add, ← Nat.mul_assoc]
    have := Nat.mul_le_mul_right 4294967296 h2
    omega
  have h4 := Nat.mul_le_mul_right E h3
  rw [Nat.add_mul _ 1, Nat.one_mul] at h4
  rw [Nat.mul_add, ← Nat.mul_assoc]
  omega
theorem knuth_top {E top u2 lu v1 v2 lv : Nat} (h : (top * 4294967296 + u2) * E + lu < 4294967296 * ((v1 * 4294967296 + v2) * E + lv)) (hv2 : v2 < 4294967296) (hlv : lv < E) : top < (v1 + 1) * 4294967296 := by
  rcases Nat.lt_or_ge top ((v1 + 1) * 4294967296) with h1 | h1
  · exact h1
  · exfalso
    have h2 : (v1 * 4294967296 + v2 + 1) * E ≤ (v1 + 1) * 4294967296 * E := Nat.mul_le_mul_right _ (by omega)
    have h3 : (v1 + 1) * 4294967296 * E ≤ top * E := Nat.mul_le_mul_right _ h1
    rw [Nat.add_mul _ 1, Nat.one_mul] at h2
    have h4 : 4294967296 * ((v1 * 4294967296 + v2) * E + lv) ≤ 4294967296 * (top * E) := Nat.mul_le_mul_left _ (by omega)
    have h5 : 4294967296 * (top * E) = top * 4294967296 * E := by rw [← Nat.mul_assoc, Nat.mul_comm 4294967296]
    rw [Nat.add_mul] at h
    omega
/-- the number of some limbs from a place on -/
def nvr (U : List Nat) (k m : Nat) : Nat := nv ((U.drop k).take m)
theorem nvr_zero (U : List Nat) (k : Nat) : nvr U k 0 = 0 := by simp [nvr, nv]
theorem nvr_succ {U : List Nat} {k m x : Nat} (h : U[k + m]? = some x) : nvr U k (m + 1) = nvr U k m + 4294967296 ^ m * x := by
  unfold nvr
  rw [nv_take_succ (x := x)]
  rw [List.getElem?_drop]; exact h
theorem nvr_set {U : List Nat} {k m j x : Nat} (hj : k + m ≤ j) : nvr (U.set j x) k m = nvr U k m := by
  unfold nvr
  rw [List.drop_set]
  split
  · rfl
  · rw [List.take_set_of_le (by omega)]
theorem nvr_lt {U : List Nat} (h : Ok U) (k m : Nat) : nvr U k m < 4294967296 ^ m := by
  unfold nvr
  have h1 := nv_lt ((h.drop k).take m)
  refine Nat.lt_of_lt_of_le h1 (Nat.pow_le_pow_right (by decide) ?_)
  rw [List.length_take]; omega
/-- a step of taking a multiple away -/
theorem sub_step {E P0 S Q ui borrow carry q vi b' x' : Nat} (h : S + Q = P0 + (borrow + carry) * E) (hb : ui + b' * 4294967296 = (carry + q * vi) % 4294967296 + borrow + x') :
    (S + E * x') + (Q + q * (E * vi)) = (P0 + E * ui) + (b' + (carry + q * vi) / 4294967296) * (E * 4294967296) := by
  have h4 := Nat.mod_add_div (carry + q * vi) 4294967296
  have e1 : q * (E * vi) = E * (q * vi) := by rw [← Nat.mul_assoc, Nat.mul_comm q, Nat.mul_assoc]
  rw [e1]
  generalize q * vi = p at *
  generalize (carry + p) % 4294967296 = lo at *
  generalize (carry + p) / 4294967296 = hi at *
  have h5 : E * (ui + b' * 4294967296) = E * (lo + borrow + x') := by rw [hb]
  have h6 : E * (lo + 4294967296 * hi) = E * (carry + p) := by rw [h4]
  rw [Nat.mul_add, Nat.mul_add, Nat.mul_add, ← Nat.mul_assoc] at h5
  rw [Nat.mul_add, Nat.mul_add, ← Nat.mul_assoc] at h6
  rw [Nat.add_mul] at h ⊢
  have e2 : b' * (E * 4294967296) = E * b' * 4294967296 := by rw [← Nat.mul_assoc, Nat.mul_comm b']
  have e3 : hi * (E * 4294967296) = E * 4294967296 * hi := Nat.mul_comm _ _
  have e4 : borrow * E = E * borrow := Nat.mul_comm _ _
  have e5 : carry * E = E * carry := Nat.mul_comm _ _
  rw [e2, e3]
  rw [e4, e5] at h
  omega
/-- a step of adding back -/
theorem back_step {E S P carry s : Nat} (u v : Nat) (h : S + carry * E = P) (hs : s = carry + u + v) : (S + E * (s % 4294967296)) + s / 4294967296 * (E * 4294967296) = P + E * u + E * v := by
  have h4 := Nat.mod_add_div s 4294967296
  have h5 : E * (s % 4294967296 + 4294967296 * (s / 4294967296)) = E * (carry + u + v) := by rw [h4, hs]
  rw [Nat.mul_add, Nat.mul_add, Nat.mul_add, ← Nat.mul_assoc] at h5
  have e3 : s / 4294967296 * (E * 4294967296) = E * 4294967296 * (s / 4294967296) := Nat.mul_comm _ _
  have e5 : carry * E = E * carry := Nat.mul_comm _ _
  rw [e3]
  rw [e5] at h
  omega
end Go.Proofs.YtffncomekbfihaaGreatDoor.Nat
