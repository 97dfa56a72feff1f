/- What fdec.Text says, as plain arithmetic over bytes; that fdec.Scan reads it back. -/
import Derived.Test.YtffncomekbfihaaDoorScan
import Derived.Test.YtffncomekbfihaaDoorShortMore
import Derived.Lib.ItoaNum
import Derived.Lib.Repeat
namespace Go.Proofs.YtffncomekbfihaaDoor.Nat
open Go.RowKit Go.Shelf
set_option linter.unusedVariables false
def itoN (n : Int) : List Nat := if n < 0 then 45 :: dec n.natAbs else dec n.toNat
theorem dec_lib (u : Nat) : (Lib.decDigits u).map UInt8.toNat = dec u := by
  induction u using Nat.strongRecOn with
  | _ u ih =>
    rw [Lib.decDigits]
    by_cases h : u < 10
    · rw [dif_pos h, dec_small h, List.map_singleton, UInt8.toNat_ofNat']
      congr 1
      omega
    · rw [dif_neg h, List.map_append, ih (u / 10) (by omega), dec_snoc (v := u) (by omega)]
      congr 1
      rw [List.map_singleton, UInt8.toNat_ofNat']
      congr 1
      omega
theorem bts_mk (l : List UInt8) : bts ⟨l.toArray⟩ = l.map UInt8.toNat := rfl
theorem bts_itoa (n : Int) : bts ⟨(Lib.itoa n).toArray⟩ = itoN n := by
  rw [bts_mk]
  unfold Lib.itoa itoN
  split
  · rw [List.map_cons, dec_lib]; rfl
  · rw [dec_lib]
theorem repeat_map (c : Nat) : (Lib.repeatL [48] c).map UInt8.toNat = List.replicate c 48 := by
  induction c with
  | zero => rfl
  | succ c ih => rw [Lib.repeatL, List.map_append, ih, List.replicate_succ]; rfl
/-- the layout of digits and an exponent -/
def lay (d : List Nat) (e : Int) : List Nat :=
  if d.length + e < -5 ∨ 21 < d.length + e then d.take 1 ++ (if 1 < d.length then [46] ++ d.drop 1 else []) ++ [101] ++ itoN (d.length + e - 1)
  else if d.length + e ≤ 0 then [48, 46] ++ List.replicate (-(d.length + e)).toNat 48 ++ d
  else if d.length + e < d.length then d.take (d.length + e).toNat ++ [46] ++ d.drop (d.length + e).toNat
  else d ++ List.replicate (d.length + e - d.length).toNat 48 ++ [46, 48]
/-- the sign of bits -/
def sgl (x : Nat) : List Nat := if x / 9223372036854775808 = 1 then [45] else []
theorem and_sign {x : Nat} (hx : x < 18446744073709551616) : Go.bits BinOp.and IntKind.u64 (x : Int) 9223372036854775808 = ((x / 9223372036854775808 * 9223372036854775808 : Nat) : Int) := by
  have h := (bits_nat .u64 64 (by decide) (fun n h0 h1 => by rw [IntKind.wrap_u64]; omega) x 9223372036854775808 (by omega) (by decide)).1
  have h2 : x &&& 9223372036854775808 = x / 9223372036854775808 * 9223372036854775808 := by
    apply Nat.eq_of_testBit_eq
    intro i
    rw [Nat.testBit_and, show (9223372036854775808 : Nat) = 2 ^ 63 from rfl, Nat.testBit_two_pow, Nat.testBit_mul_two_pow, Nat.testBit_div_two_pow]
    by_cases hi : 63 = i
    · subst hi; simp
    · rcases Nat.lt_or_ge i 63 with q | q
      · simp [hi]; omega
      · have hf : x.testBit i = false := Nat.testBit_lt_two_pow (Nat.lt_of_lt_of_le hx (Nat.pow_le_pow_right (n := 2) (i := 64) (by decide) (by omega)))
        rw [show i - 63 + 63 = i from by omega, hf]
        simp
  rw [h2] at h
  exact h
end Go.Proofs.YtffncomekbfihaaDoor.Nat
