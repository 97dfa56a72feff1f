/- nat.Cmp, math/bits.Len32, math/bits.LeadingZeros32, nat.Bits. -/
import Derived.Test.YtffncomekbfihaaGreatDoorNatMem
import Derived.Lib.BitFns
import Derived.Lib.ItoaNum
import Derived.Test.YtffncomekbfihaaGreatDoorShelf
import Derived.Lib.Small
import Derived.Lib.Strings
import Derived.Lib.Slices
namespace Go.Proofs.YtffncomekbfihaaGreatDoor.Nat
open Go.RowKit Go.Shelf
set_option linter.unusedVariables false
def cmpI (a b : Nat) : Int := if a < b then -1 else if b < a then 1 else 0
theorem tl_get {l : List Nat} {j : Nat} (h : j < tn l) : (tl l)[j]? = l[j]? := by unfold tl; rw [List.getElem?_take, if_pos h]
theorem nv_tl {l : List Nat} (h : Ok l) : nv (tl l) = nv l := by rw [tl_eq h, nv_limbs]
theorem ok_tl {l : List Nat} (h : Ok l) : Ok (tl l) := h.take _
theorem below_dr {B : Nat} {a w : World} (h : Below B a w) (q : Nat) : Below B a (w.drewN q) := ⟨h.os, h.tape, h.output, h.size, h.block⟩
set_option maxHeartbeats 4000000 in
set_option maxRecDepth 100000 in
theorem cmp_calls (A : Option Addr) (l : List Nat) (c : Nat) (A' : Option Addr) (l' : List Nat) (c' : Nat) (w : World) (hG : Good w (A, l, c)) (hG' : Good w (A', l', c')) (hO : Ok l) (hO' : Ok l') :
    Calls Tryz.prog 23 #[.slice A l.length c, .slice A' l'.length c'] w fun e w' => e = .returned (.int .i64 (cmpI (nv l) (nv l'))) ∧ Below w.heap.size w w' := by
  have hle := tn_le l
  have hle' := tn_le l'
  have hl := hG.2.2
  have hl' := hG'.2.2
  dsimp only at hl hl'
  have k1 := trim_calls A l c w hG.1 hG.2.1 hG.2.2
  have k2 := fun W (hb : Below w.heap.size w W) => trim_calls A' l' c' W (hG'.1.below hb) hG'.2.1 hG'.2.2
  go_enter Tryz.func23, Tryz.ntmps23
  go_wp2_with (first | (go_at_call 58; (with_reducible refine k1.mono ?_); clear k1; rintro e1 w1 ⟨rfl, hb1⟩) | (go_at_call 58; (with_reducible refine (k2 _ hb1).mono ?_); clear k2; rintro e2 w2 ⟨rfl, hb2⟩; have hb3 := below_step hb1 hb2))
  · rename_i h
    go_ret
    refine ⟨?_, hb3⟩
    have h1 := cmp_len (a := nv l) (b := nv l') (by rw [← tn_eq hO, ← tn_eq hO']; exact h)
    rw [show cmpI (nv l) (nv l') = -1 by unfold cmpI; rw [if_pos h1]]
    rfl
  · rename_i h0 h
    go_ret
    refine ⟨?_, hb3⟩
    have h2 : tn l' < tn l := by
      have h3 : (tn l : Int) ≠ (tn l' : Int) := by simpa using h0
      omega
    have h1 := cmp_len (a := nv l') (b := nv l) (by rw [← tn_eq hO, ← tn_eq hO']; exact h2)
    rw [show cmpI (nv l) (nv l') = 1 by unfold cmpI; rw [if_neg (by omega), if_pos h1]]
    rfl
  · have hlen : tn l = tn l' := by
      have h3 : (tn l : Int) = (tn l' : Int) := by simpa using ‹((tn l : Int) != (tn l' : Int)) = false›
      omega
    go_loopg [5] (tn l) (fun kq v5 wr => v5 = .int .i64 ((kq : Int) - 1) ∧ kq ≤ tn l ∧ (tl l).drop kq = (tl l').drop kq ∧ Below w.heap.size w wr)
    case atStart => exact ⟨rfl, Nat.le_refl _, (by rw [List.drop_of_length_le (by rw [tl_length]; omega), List.drop_of_length_le (by rw [tl_length]; omega)]), hb3⟩
    case round =>
      clear hb3
      obtain ⟨rfl, hk, hd, hb⟩ := hrel
      cases gk with
      | zero =>
        rw [show ((0 : Nat) : Int) - 1 = -1 from rfl]
        go_wp2
        go_ret
        refine ⟨?_, hb⟩
        rw [List.drop_zero, List.drop_zero] at hd
        have h1 : nv l = nv l' := by rw [← nv_tl hO, ← nv_tl hO', hd]
        rw [show cmpI (nv l) (nv l') = 0 by unfold cmpI; rw [if_neg (by omega), if_neg (by omega)]]
        rfl
      | succ d =>
        rw [show ((d + 1 : Nat) : Int) - 1 = (d : Int) by omega]
        obtain ⟨ad, x, rfl, hx, hcell⟩ := hG.1.at (j := d) (by dsimp only; omega)
        obtain ⟨ad', x', rfl, hx', hcell'⟩ := hG'.1.at (j := d) (by dsimp only; omega)
        dsimp only at hx hx'
        have y := (hb.cell (World.block_lt_of_cell? _ _ hcell)).trans hcell
        have y' := (hb.cell (World.block_lt_of_cell? _ _ hcell')).trans hcell'
        have g : (tl l)[d]? = some x := (tl_get (by omega)).trans hx
        have g' : (tl l')[d]? = some x' := (tl_get (by omega)).trans hx'
        have hd0 : (0 : Int) ≤ (d : Int) := by omega
        have hd1 : (d : Int) < (tn l : Int) := by omega
        have hd2 : (d : Int) < (tn l' : Int) := by omega
        clear hcell hcell'
        rcases Nat.lt_trichotomy x x' with hlt | rfl | hgt
        · have h1 := cmp_at (ok_tl hO) (ok_tl hO') (by rw [tl_length, tl_length, hlen]) g g' hd hlt
          rw [nv_tl hO, nv_tl hO'] at h1
          have q : (x : Int) < (x' : Int) := by omega
          go_wp2_with fail
          go_quiet (fail)
          go_wp2_with fail
          go_ret
          refine ⟨?_, below_dr hb _⟩
          rw [show cmpI (nv l) (nv l') = -1 by unfold cmpI; rw [if_pos h1]]
          rfl
        · go_wp2_with fail
          go_quiet (fail)
          go_wp2_with fail
          go_quiet (fail)
          go_wp2_with fail
          go_roundg d
          case rel => exact ⟨rfl, by omega, (by
            have e1 := List.drop_eq_getElem_cons (l := tl l) (i := d) (by rw [tl_length]; omega)
            have e2 := List.drop_eq_getElem_cons (l := tl l') (i := d) (by rw [tl_length]; omega)
            rw [e1, e2, hd, (List.getElem?_eq_some_iff.1 g).2, (List.getElem?_eq_some_iff.1 g').2]), below_dr hb _⟩
          case measure => omega
        · have h1 := cmp_at (ok_tl hO') (ok_tl hO) (by rw [tl_length, tl_length, hlen]) g' g hd.symm hgt
          rw [nv_tl hO, nv_tl hO'] at h1
          have q : (x' : Int) < (x : Int) := by omega
          go_wp2_with fail
          go_quiet (fail)
          go_wp2_with fail
          go_quiet (fail)
          go_wp2_with fail
          go_ret
          refine ⟨?_, by first | exact below_dr (below_dr hb _) _ | exact below_dr hb _⟩
          rw [show cmpI (nv l) (nv l') = 1 by unfold cmpI; rw [if_neg (by omega), if_pos h1]]
          rfl
/-- bits.Len32 -/
theorem len32_calls (x : Nat) (w : World) (h1 : x < 4294967296) :
    Calls Tryz.prog 124 #[.int .u32 (x : Int)] w fun e w' => e = .returned (.int .i64 (Lib.bitLen x)) ∧ w' = w := by
  have h := Tryz.bits_Len32 (x : Int) w (by omega) (by omega)
  rwa [Int.toNat_natCast] at h
/-- how many bits a number has -/
def bl (v : Nat) : Nat := if v = 0 then 0 else Nat.log2 v + 1
theorem bl_of {v k : Nat} (h1 : 2 ^ k ≤ v) (h2 : v < 2 ^ (k + 1)) : bl v = k + 1 := by
  have h0 : v ≠ 0 := by have := Nat.two_pow_pos k; omega
  unfold bl
  rw [if_neg h0, (Nat.log2_eq_iff h0).2 ⟨h1, h2⟩]
theorem bl_bounds {v : Nat} (h : v ≠ 0) : 1 ≤ bl v ∧ 2 ^ (bl v - 1) ≤ v ∧ v < 2 ^ bl v := by
  have h1 := (Nat.log2_eq_iff (n := v) (k := v.log2) h).1 rfl
  unfold bl
  rw [if_neg h, Nat.add_sub_cancel]
  exact ⟨by omega, h1⟩
theorem bitLen_of {x : Nat} (h : x < 4294967296) (h0 : x ≠ 0) : 1 ≤ Lib.bitLen x ∧ 2 ^ (Lib.bitLen x - 1) ≤ x ∧ x < 2 ^ Lib.bitLen x := Lib.bitLenAux_bounds 64 x (Nat.lt_trans h (by decide)) h0
theorem bitLen_eq {x : Nat} (h : x < 4294967296) : Lib.bitLen x = bl x := by
  by_cases h0 : x = 0
  · subst h0; decide
  · have h1 := bitLen_of h h0
    have h2 := bl_of (v := x) (k := Lib.bitLen x - 1) h1.2.1 (by rw [Nat.sub_add_cancel h1.1]; exact h1.2.2)
    omega
theorem bl_le {x k : Nat} (h : x < 2 ^ k) : bl x ≤ k := by
  by_cases h0 : x = 0
  · subst h0; unfold bl; simp
  · have h1 := bl_bounds h0
    rcases Nat.lt_or_ge k (bl x) with h2 | h2
    · have := Nat.pow_le_pow_right (show 0 < 2 by decide) (show k ≤ bl x - 1 by omega)
      omega
    · exact h2
theorem pow32 (n : Nat) : 4294967296 ^ n = 2 ^ (32 * n) := by rw [Nat.pow_mul]
/-- the bits of a number by its highest limb -/
theorem bl_top {l : List Nat} (h : Ok l) {n x : Nat} (hn : tn l = n + 1) (hx : l[n]? = some x) : x ≠ 0 ∧ bl (nv l) = 32 * n + bl x := by
  have hle := tn_le l
  have hx32 := h.get hx
  have e1 : nv l = nv (l.take n) + 4294967296 ^ n * x := by
    rw [← nv_tl h, tl, hn, nv_take_succ hx]
  have h3 := nv_lt (h.take n)
  rw [List.length_take, Nat.min_eq_left (by omega)] at h3
  have h0 : x ≠ 0 := by
    rintro rfl
    rw [Nat.mul_zero, Nat.add_zero] at e1
    have h4 := tn_eq h
    rw [e1] at h4
    have h5 := limbs_len_le h3
    omega
  refine ⟨h0, ?_⟩
  have h6 := bl_bounds h0
  have e2 : 32 * n + bl x = (32 * n + (bl x - 1)) + 1 := by omega
  rw [e2]
  rw [pow32] at e1 h3
  have h7 : 2 ^ (32 * n + (bl x - 1)) = 2 ^ (32 * n) * 2 ^ (bl x - 1) := Nat.pow_add ..
  have h8 : 2 ^ (32 * n + (bl x - 1) + 1) = 2 ^ (32 * n) * 2 ^ bl x := by rw [← Nat.pow_add]; congr 1; omega
  refine bl_of ?_ ?_
  · rw [h7, e1]
    have := Nat.mul_le_mul_left (2 ^ (32 * n)) h6.2.1
    omega
  · rw [h8, e1]
    have h9 : 2 ^ (32 * n) * (x + 1) ≤ 2 ^ (32 * n) * 2 ^ bl x := Nat.mul_le_mul_left _ h6.2.2
    rw [Nat.mul_add, Nat.mul_one] at h9
    omega
set_option maxHeartbeats 4000000 in
set_option maxRecDepth 100000 in
theorem bits_calls (A : Option Addr) (l : List Nat) (c : Nat) (w : World) (hG : Good w (A, l, c)) (hO : Ok l) :
    Calls Tryz.prog 90 #[.slice A l.length c] w fun e w' => e = .returned (.int .i64 (bl (nv l))) ∧ Below w.heap.size w w' := by
  have hle := tn_le l
  have hl := hG.2.2
  dsimp only at hl
  have k1 := trim_calls A l c w hG.1 hG.2.1 hG.2.2
  cases hn : tn l with
  | zero =>
    rw [hn] at k1
    have h0 : nv l = 0 := tn_zero hn
    go_enter Tryz.func90, Tryz.ntmps90
    go_wp2_with (go_at_call 58; (with_reducible refine k1.mono ?_); clear k1; rintro e1 w1 ⟨rfl, hb1⟩)
    go_ret
    refine ⟨?_, hb1⟩
    rw [h0]; rfl
  | succ n =>
    rw [hn] at k1
    obtain ⟨ad, x, rfl, hx, hcell⟩ := hG.1.at (j := n) (by dsimp only; omega)
    dsimp only at hx
    have hx32 := hO.get hx
    obtain ⟨h0, hbl⟩ := bl_top hO hn hx
    have hbx := bl_le (x := x) (k := 32) hx32
    have k2 := fun W => len32_calls x W hx32
    simp only [bitLen_eq hx32] at k2
    rw [hbl]
    clear hbl
    generalize bl x = r at *
    have hn1 : (n : Int) < ((n + 1 : Nat) : Int) := by omega
    go_enter Tryz.func90, Tryz.ntmps90
    go_wp2_with (first | (go_at_call 58; (with_reducible refine k1.mono ?_); clear k1; rintro e1 w1 ⟨rfl, hb1⟩; have hcell2 := (hb1.cell (World.block_lt_of_cell? _ _ hcell)).trans hcell) | (go_at_call 124; (with_reducible refine (k2 _).mono ?_); clear k2; rintro e2 w2 ⟨rfl, rfl⟩))
    go_ret
    exact ⟨by rw [show ((32 * n + r : Nat) : Int) = 32 * (n : Int) + (r : Int) by omega]; rfl, hb1⟩
end Go.Proofs.YtffncomekbfihaaGreatDoor.Nat
