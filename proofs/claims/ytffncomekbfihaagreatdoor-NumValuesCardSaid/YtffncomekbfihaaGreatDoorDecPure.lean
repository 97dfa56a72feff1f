/- A number's decimal digits, as plain arithmetic. -/
import Derived.Test.YtffncomekbfihaaGreatDoorMore
namespace Go.Proofs.YtffncomekbfihaaGreatDoor.Nat
open Go.RowKit Go.Shelf
set_option linter.unusedVariables false
/-- digits, the lowest first -/
def lo (v : Nat) : List Nat := if h : v = 0 then [] else (48 + v % 10) :: lo (v / 10)
termination_by v
decreasing_by omega
theorem lo_zero : lo 0 = [] := by rw [lo, dif_pos rfl]
theorem lo_pos {v : Nat} (h : v ≠ 0) : lo v = (48 + v % 10) :: lo (v / 10) := by rw [lo, dif_neg h]
/-- what nat.Digits says -/
def dec (v : Nat) : List Nat := if v = 0 then [48] else (lo v).reverse
theorem dgs_lo (v : Nat) : Dgs (lo v) := by
  induction v using Nat.strongRecOn with
  | _ v ih =>
    by_cases h : v = 0
    · subst h; rw [lo_zero]; intro c hc; cases hc
    · rw [lo_pos h]
      intro c hc
      rcases List.mem_cons.1 hc with rfl | hc
      · omega
      · exact ih _ (by omega) c hc
theorem dgs_dec (v : Nat) : Dgs (dec v) := by
  unfold dec
  split
  · intro c hc; simp at hc; omega
  · intro c hc; exact dgs_lo v c (List.mem_reverse.1 hc)
theorem dval_lo (v : Nat) : dval (lo v).reverse = v := by
  induction v using Nat.strongRecOn with
  | _ v ih =>
    by_cases h : v = 0
    · subst h; rw [lo_zero]; rfl
    · rw [lo_pos h, List.reverse_cons, dval_append, ih _ (by omega), dval_one, List.length_singleton]
      omega
theorem dval_dec (v : Nat) : dval (dec v) = v := by
  unfold dec
  split
  · rename_i h; rw [h]; rfl
  · exact dval_lo v
theorem lo_length {v n : Nat} : v < 10 ^ n → (lo v).length ≤ n := by
  induction n generalizing v with
  | zero => intro h; simp at h; subst h; rw [lo_zero]; exact Nat.le_refl _
  | succ n ih =>
    intro h
    by_cases h0 : v = 0
    · subst h0; rw [lo_zero]; exact Nat.zero_le _
    · rw [lo_pos h0, List.length_cons]
      have := ih (v := v / 10) (by rw [Nat.div_lt_iff_lt_mul (by decide), ← Nat.pow_succ]; exact h)
      omega
theorem lo_ge {v n : Nat} : 10 ^ n ≤ v → n < (lo v).length := by
  induction n generalizing v with
  | zero => intro h; simp at h; rw [lo_pos (by omega), List.length_cons]; omega
  | succ n ih =>
    intro h
    have hp : 0 < 10 ^ n := Nat.pow_pos (by decide)
    rw [Nat.pow_succ] at h
    rw [lo_pos (by omega), List.length_cons]
    have := ih (v := v / 10) (by rw [Nat.le_div_iff_mul_le (by decide)]; exact h)
    omega
theorem dec_length {v : Nat} (h : v ≠ 0) : (dec v).length = (lo v).length := by unfold dec; rw [if_neg h, List.length_reverse]
theorem dec_ne (v : Nat) : (dec v).length ≠ 0 := by
  by_cases h : v = 0
  · subst h; decide
  · rw [dec_length h, lo_pos h]; simp
theorem dec_snoc {v : Nat} (h : 10 ≤ v) : dec v = dec (v / 10) ++ [48 + v % 10] := by
  unfold dec
  rw [if_neg (by omega), if_neg (by omega), lo_pos (by omega), List.reverse_cons]
theorem dec_small {v : Nat} (h : v < 10) : dec v = [48 + v] := by
  unfold dec
  by_cases h0 : v = 0
  · subst h0; rfl
  · rw [if_neg h0, lo_pos h0, show v / 10 = 0 by omega, lo_zero, show v % 10 = v by omega]; rfl
/-- the first digit is no 0 -/
theorem dec_head {v : Nat} (h : v ≠ 0) : ∃ c L, dec v = c :: L ∧ c ≠ 48 := by
  induction v using Nat.strongRecOn with
  | _ v ih =>
    by_cases h10 : v < 10
    · exact ⟨48 + v, [], dec_small h10, by omega⟩
    · obtain ⟨c, L, e, hc⟩ := ih (v / 10) (by omega) (by omega)
      exact ⟨c, L ++ [48 + v % 10], by rw [dec_snoc (by omega), e]; rfl, hc⟩
end Go.Proofs.YtffncomekbfihaaGreatDoor.Nat
