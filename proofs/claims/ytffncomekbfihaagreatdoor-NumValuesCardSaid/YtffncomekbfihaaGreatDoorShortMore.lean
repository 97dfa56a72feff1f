/- The shortest digits: rounding and the sign. -/
import Derived.Test.YtffncomekbfihaaGreatDoorShortest
namespace Go.Proofs.YtffncomekbfihaaGreatDoor.Nat
set_option linter.unusedVariables false
/-- the sign of bits taken away -/
theorem rnd_sign {x : Nat} {neg : Bool} {L : List Nat} {e : Int} (hx : x < 18446744073709551616) (hn : neg = decide (x / 9223372036854775808 = 1)) (h : rnd neg L e = (x, 0)) : rnd false L e = (x % 9223372036854775808, 0) := by
  unfold rnd at *
  split at h
  · cases h
  rename_i h1
  rw [if_neg h1]
  split at h
  · cases h
  rename_i h2
  rw [if_neg h2]
  split at h
  · cases h
  rename_i h3
  rw [if_neg h3]
  split at h
  · cases h
  rename_i h4
  rw [if_neg h4]
  split at h
  · rename_i h5
    rw [if_pos h5]
    have := (Prod.mk.inj h).1
    unfold sgn at *
    cases neg <;> simp at * <;> omega
  rename_i h5
  rw [if_neg h5]
  split at h
  · rename_i h6
    rw [if_pos h6]
    have := (Prod.mk.inj h).1
    unfold sgn at *
    cases neg <;> simp at * <;> omega
  · cases h
theorem rnd_congr {neg : Bool} {L M : List Nat} {e : Int} (hL : Dgs L) (hM : Dgs M) (l1 : L.length ≤ 800) (l2 : M.length ≤ 800) (l3 : L.length ≠ 0) (l4 : M.length ≠ 0) (hv : dval L = dval M) : rnd neg L e = rnd neg M e := by
  unfold rnd
  rw [if_neg (by omega), if_neg (show ¬ 800 < M.length by omega), if_neg l3, if_neg l4, if_neg (by rw [(dgB_iff L).2 hL]; decide), if_neg (show ¬ dgB M = false by rw [(dgB_iff M).2 hM]; decide), hv]
/-- the shortest digits of bits -/
theorem found_short {x p z n t : Nat} {hi : Int} (h : fe x ≠ 2047) (h0 : exM x ≠ 0) (hf : Found x (xM x * up (xX x)) (up (-(xX x))) hi n t) (h1 : -400 ≤ hi) (h2 : hi ≤ 400) (ht : t = p * 10 ^ z) (hp : p % 10 ≠ 0) (hz : z ≤ 20) : Short x p (hi - n + z) := by
  obtain ⟨b1, b2⟩ := bits_fin h h0
  obtain ⟨f1, f2, f3, f4, _, f5⟩ := hf
  have hB : up (-(xX x)) ≠ 0 := Nat.ne_of_gt (up_pos _)
  refine short_of (t := t) (n := n) b1 b2 hB (by rw [show hi - (n : Int) + (n : Int) = hi from by omega]; exact f2) f1 (by omega) (by omega) f3 f4 (fun hn => ?_) ht hp hz
  have h3 := f5 (n - 1) (by omega)
  rw [show hi - ((n - 1 : Nat) : Int) = hi - (n : Int) + 1 from by omega] at h3
  exact h3
end Go.Proofs.YtffncomekbfihaaGreatDoor.Nat
