/- fdec.small, fdec.signed. -/
import Derived.Test.YtffncomekbfihaaGreatDoorFdec3
namespace Go.Proofs.YtffncomekbfihaaGreatDoor.Nat
open Go.RowKit Go.Shelf
set_option linter.unusedVariables false
theorem or_zero {x : Nat} (hx : x < 4294967296) : Go.bits BinOp.or IntKind.u64 0 (x : Int) = (x : Int) := by
  have h := (bits_nat .u64 64 (by decide) (fun n h0 h1 => by rw [IntKind.wrap_u64]; omega) 0 x (by decide) (by omega)).2
  rw [Nat.zero_or] at h
  exact h
theorem limbs_two {q : Nat} (h : q < 18446744073709551616) : (limbs q).length ≤ 2 := limbs_len_le (Nat.lt_of_lt_of_eq h (by decide))
set_option maxHeartbeats 4000000 in
set_option maxRecDepth 100000 in
theorem small_calls (V : Value) (q : Nat) (w : World) (hV : NatV w V q) (hq : q < 18446744073709551616) :
    Calls Tryz.prog 106 #[V] w fun e w' => e = .returned (.int .u64 (q : Int)) ∧ Below w.heap.size w w' := by
  obtain ⟨A, c, rfl, hc, hR⟩ := hV
  have hl := limbs_two hq
  have hO := ok_limbs q
  have hv := nv_limbs q
  generalize limbs q = l at *
  have HV : Hid _ := Lib.hid hv
  have HL : Hid _ := Lib.hid hl
  clear hv hl
  have hb0 := Below.refl w.heap.size w
  go_enter Tryz.func106, Tryz.ntmps106
  go_wp2
  go_loopg [3, 4, 5, 8] l.length (fun kq v3 v4 v5 v8 wr => ∃ i : Nat, v8 = .int .i64 i ∧ i + kq = l.length ∧ v3 = .int .u64 (nv (l.take i) : Nat) ∧ Below w.heap.size w wr)
  case atStart => exact ⟨0, rfl, by omega, rfl, hb0⟩
  case round =>
    clear hb0
    obtain ⟨i, rfl, hi, rfl, hb⟩ := hrel
    cases gk with
    | zero =>
      obtain rfl : i = l.length := by omega
      rw [List.take_length, HV.out]
      go_wp2
      go_ret
      exact ⟨rfl, hb⟩
    | succ d =>
      have hl := HL.out
      obtain ⟨ad, x, rfl, hx, hcell⟩ := hR.at (j := i) (by omega)
      have hx32 := hO.get hx
      have y := (hb.cell (World.block_lt_of_cell? _ _ hcell)).trans hcell
      have hi1 : (i : Int) < (l.length : Int) := by omega
      have hw : IntKind.u64.wrap (x : Int) = (x : Int) := by rw [IntKind.wrap_u64]; omega
      have ht := nv_take_succ hx
      have HT : Hid _ := Lib.hid ht
      clear ht
      rcases (show i = 0 ∨ i = 1 by omega) with rfl | rfl
      · have ho := or_zero hx32
        have hz : nv (l.take 0) = 0 := rfl
        rw [hz]
        have y0 : wr.cell? ⟨ad.block, ad.off, ad.spot⟩ = some (.int .u32 (x : Int)) := y
        have y0' : wr.cell? ad = some (.int .u32 (x : Int)) := y
        go_wp2
        go_roundg d
        case rel => exact ⟨1, rfl, by omega, by rw [HT.out, hz]; simp [Nat.pow_zero], hb⟩
        case measure => omega
      · have hn : nv (l.take 1) < 4294967296 := by
          have h := nv_lt (hO.take 1)
          have h2 : (l.take 1).length ≤ 1 := List.length_take_le _ _
          have h3 : 4294967296 ^ (l.take 1).length ≤ 4294967296 ^ 1 := Nat.pow_le_pow_right (by decide) h2
          omega
        have ho := or_join2 hx32 hn
        have hw2 : IntKind.u64.wrap ((x : Int) * 4294967296) = (x : Int) * 4294967296 := by rw [IntKind.wrap_u64]; omega
        have y1 : wr.cell? ⟨ad.block, ad.off + 1, none⟩ = some (.int .u32 (x : Int)) := y
        go_wp2
        go_roundg d
        case rel => exact ⟨2, rfl, by omega, by (rw [HT.out, Nat.pow_one]; simp), hb⟩
        case measure => omega
theorem or_sign {b : Nat} (h : b < 9223372036854775808) : Go.bits BinOp.or IntKind.u64 (b : Int) 9223372036854775808 = ((9223372036854775808 + b : Nat) : Int) := by
  have h1 := (bits_nat .u64 64 (by decide) (fun n h0 h1 => by rw [IntKind.wrap_u64]; omega) b 9223372036854775808 (by omega) (by decide)).2
  have h2 : b ||| 9223372036854775808 = 9223372036854775808 + b := by
    rw [Nat.or_comm]
    have h3 := Nat.two_pow_add_eq_or_of_lt (i := 63) (b := b) (by exact h) 1
    exact h3.symm
  rw [h2] at h1
  exact h1
/-- a sign on bits -/
def sgn (neg : Bool) (b : Nat) : Nat := if neg then 9223372036854775808 + b else b
set_option maxHeartbeats 4000000 in
theorem signed_calls (neg : Bool) (b : Nat) (w : World) (h : b < 9223372036854775808) :
    Calls Tryz.prog 63 #[.bool neg, .int .u64 (b : Int)] w fun e w' => e = .returned (.int .u64 (sgn neg b : Nat)) ∧ Below w.heap.size w w' := by
  have ho := or_sign h
  have hb0 := Below.refl w.heap.size w
  cases neg
  · go_enter Tryz.func63, Tryz.ntmps63
    go_wp2
    go_ret
    exact ⟨rfl, hb0⟩
  · go_enter Tryz.func63, Tryz.ntmps63
    go_wp2
    go_ret
    exact ⟨rfl, hb0⟩
end Go.Proofs.YtffncomekbfihaaGreatDoor.Nat
