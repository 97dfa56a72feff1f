/- nat.left, nat.Shr, nat.Shl. -/
import Derived.Test.YtffncomekbfihaaGreatDoorNatDiv
namespace Go.Proofs.YtffncomekbfihaaGreatDoor.Nat
open Go.RowKit Go.Shelf
set_option linter.unusedVariables false
theorem or_low {a b n : Nat} (ha : a < 2 ^ n) (hb : b % 2 ^ n = 0) (ha2 : a < 4294967296) (hb2 : b < 4294967296) : Go.bits BinOp.or IntKind.u32 (a : Int) (b : Int) = ((a + b : Nat) : Int) := by
  rw [(bits_nat .u32 32 (by decide) (fun n h0 h1 => by rw [IntKind.wrap_u32]; omega) a b ha2 hb2).2, Nat.or_comm]
  have hq : b = 2 ^ n * (b / 2 ^ n) := by have := Nat.div_add_mod b (2 ^ n); omega
  have h2 : b ||| a = b + a := by
    rw [hq, ← Nat.two_pow_add_eq_or_of_lt ha]
  rw [h2, Nat.add_comm]
theorem pow_split {n : Nat} (h : n < 32) : 4294967296 = 2 ^ (32 - n) * 2 ^ n := by rw [← Nat.pow_add, Nat.sub_add_cancel (by omega)]
theorem shl_low (x : Nat) {n : Nat} (h : n < 32) : x * 2 ^ n % 4294967296 % 2 ^ n = 0 ∧ x * 2 ^ n % 4294967296 + 2 ^ n ≤ 4294967296 := by
  have h1 := pow_split h
  have h2 : x * 2 ^ n % 4294967296 = x % 2 ^ (32 - n) * 2 ^ n := by rw [h1, Nat.mul_mod_mul_right]
  rw [h2]
  refine ⟨Nat.mul_mod_left _ _, ?_⟩
  have h3 : x % 2 ^ (32 - n) + 1 ≤ 2 ^ (32 - n) := Nat.mod_lt _ (Nat.two_pow_pos _)
  have h4 := Nat.mul_le_mul_right (2 ^ n) h3
  rw [← h1, Nat.add_mul, Nat.one_mul] at h4
  exact h4
theorem shl_high {x n : Nat} (hx : x < 4294967296) : x * 2 ^ n / 4294967296 < 2 ^ n := by
  rw [Nat.div_lt_iff_lt_mul (by decide), Nat.mul_comm]
  exact Nat.mul_lt_mul_of_pos_left hx (Nat.two_pow_pos n)
theorem shl_bound {x n : Nat} (hx : x < 4294967296) (h : n < 32) : x * 2 ^ n < 9223372036854775808 := by
  have h1 : 2 ^ n ≤ 2 ^ 31 := Nat.pow_le_pow_right (by decide) (by omega)
  have h2 := Nat.mul_le_mul (show x ≤ 4294967295 by omega) h1
  omega
theorem shl_wrap {x n : Nat} (hx : x < 4294967296) (h : n < 32) : IntKind.u64.wrap ((x : Int) * 2 ^ n) = ((x * 2 ^ n : Nat) : Int) := by
  have h1 := shl_bound hx h
  have h2 : (x : Int) * 2 ^ n = ((x * 2 ^ n : Nat) : Int) := by rw [Int.natCast_mul, Int.natCast_pow]; rfl
  rw [h2, IntKind.wrap_u64]
  omega
set_option maxHeartbeats 8000000 in
set_option maxRecDepth 100000 in
theorem left_calls (A : Option Addr) (l : List Nat) (c n more : Nat) (w : World) (hR : Rd w A l) (hc : l.length ≤ c) (hl : l.length ≤ 4096) (hO : Ok l) (hn : n < 32) (hmore : more = 1 ∨ (more = 0 ∧ nv l * 2 ^ n < 4294967296 ^ l.length)) :
    Calls Tryz.prog 100 #[.slice A l.length c, .int .i64 (n : Int), .int .i64 (more : Int)] w fun e w' => ∃ v' o, e = .returned v' ∧ w'.ownsRow w.heap.size 53 1 v' (l.length + more) (cv o) ∧ Ok o ∧ o.length = l.length + more ∧ nv o = nv l * 2 ^ n ∧ Below w.heap.size w w' := by
  obtain ⟨N, hN⟩ : ∃ N, l.length + more = N := ⟨_, rfl⟩
  have hm1 : more ≤ 1 := by omega
  obtain ⟨i0, hi, hz0, hz1, hz2⟩ := info_parts info40
  obtain ⟨w4, hmk, hown, hgr⟩ := run_make_full (P := Tryz.prog) w w.heap.size 50 53 i0 (.int .u32 0) 1 Tryz.underlying50 hi hz0 hz1 .i64 .i64 N (by rw [hz2]; omega) (by unfold maxLen; omega) (Nat.le_refl _)
  rw [show (Value.int .u32 0).cells = #[Value.int .u32 0] from rfl, Nat.mul_one, toList_madeCells_one, ← cv_replicate] at hown
  have hnI : (l.length : Int) + (more : Int) = (N : Int) := by omega
  have hb7 := (Below.refl w.heap.size w).grown hgr (Nat.le_refl _) (fun k hk => by cases hk)
  rw [hN]
  go_enter Tryz.func100, Tryz.ntmps100
  go_wp2
  clear hmk hgr hi hz0 hz1 hz2
  go_loopg [8, 9, 10, 18] l.length (fun kq v8 v9 v10 v18 wr => ∃ (i : Nat) (o : List Nat), v18 = .int .i64 i ∧ i + kq = l.length ∧ wr.ownsRow w.heap.size 53 1 (.slice (some ⟨w.heap.size, 0, none⟩) N N) N (cv o) ∧ o.length = N ∧ Ok o ∧ nv o = nv (l.take i) * 2 ^ n ∧ (∀ (j x : Nat), i < j → o[j]? = some x → x = 0) ∧ (∀ x, o[i]? = some x → x < 2 ^ n) ∧ Below w.heap.size w wr)
  case atStart => exact ⟨0, _, rfl, by omega, hown, by simp, ok_replicate N, by rw [nv_replicate]; simp [nv], (fun j x _ hx => List.eq_of_mem_replicate (List.mem_of_getElem? hx)), (fun x hx => by have := List.eq_of_mem_replicate (List.mem_of_getElem? hx); have := Nat.two_pow_pos n; omega), hb7⟩
  case round =>
    clear hown hb7
    obtain ⟨i, o, rfl, hi, hown, hol, hoO, hov, hoz, hot, hb⟩ := hrel
    cases gk with
    | zero =>
      obtain rfl : i = l.length := by omega
      rw [List.take_length] at hov
      go_wp2
      go_ret
      exact ⟨_, o, rfl, hown, hoO, hol, hov, hb⟩
    | succ d =>
      obtain ⟨ad, x, rfl, hx, hcell⟩ := hR.at (j := i) (by omega)
      have hx32 := hO.get hx
      have y := (hb.cell (World.block_lt_of_cell? _ _ hcell)).trans hcell
      obtain ⟨old, hold⟩ : ∃ old, o[i]? = some old := ⟨_, List.getElem?_eq_getElem (by omega)⟩
      have hold32 := hoO.get hold
      have hcO := hown.cellAt i (by omega)
      rw [cv_get hold] at hcO
      have hfO := hown.frozenAt i
      have hi1 : (i : Int) < (l.length : Int) := by omega
      have hi2 : (i : Int) < (N : Int) := by omega
      have e1 := shl_wrap hx32 hn
      have hsl := shl_low x hn
      have hsh := shl_high (n := n) hx32
      have hb64 := shl_bound hx32 hn
      have hold2 := hot old hold
      have hset := set_step (old + x * 2 ^ n) hold
      obtain ⟨v, hv⟩ : ∃ v, x * 2 ^ n = v := ⟨_, rfl⟩
      have htk : nv (l.take (i + 1)) * 2 ^ n = nv (l.take i) * 2 ^ n + 4294967296 ^ i * v := by
        rw [nv_take_succ hx, Nat.add_mul, Nat.mul_assoc, hv]
      rw [hv] at e1 hsl hsh hb64 hset
      have e2 : Go.bits BinOp.or IntKind.u32 (old : Int) ((v : Int) % 4294967296) = ((old + v % 4294967296 : Nat) : Int) := by
        have h_ := or_low (a := old) (b := v % 4294967296) hold2 hsl.1 hold32 (by omega)
        rwa [show ((v % 4294967296 : Nat) : Int) = (v : Int) % 4294967296 by omega] at h_
      have e3 : (v : Int) / 4294967296 % 4294967296 = ((v / 4294967296 : Nat) : Int) := by omega
      have es1 : (old + v) % 4294967296 = old + v % 4294967296 := by omega
      have es2 : (old + v) / 4294967296 = v / 4294967296 := by omega
      rw [es1, es2] at hset
      have hs1 : old + v % 4294967296 < 4294967296 := by omega
      have hs2 : v / 4294967296 < 4294967296 := by omega
      have hv2 : v = v % 4294967296 + 4294967296 * (v / 4294967296) := by omega
      have hv0 : (0 : Int) ≤ (v : Int) := Int.natCast_nonneg _
      generalize hS1 : old + v % 4294967296 = s1 at *
      generalize hS2 : v / 4294967296 = s2 at *
      have hst := (hown.stored i (.int .u32 (s1 : Int))).1
      have hbs := hb.setCell (p := ⟨w.heap.size, i, none⟩) (Nat.le_refl _) (.int .u32 (s1 : Int))
      rw [← cv_set] at hst
      rw [Nat.mul_add] at hset
      have HA : Hid _ := Lib.hid hset
      have HB : Hid _ := Lib.hid hv2
      have HC : Hid _ := Lib.hid htk
      have HD : Hid _ := Lib.hid hv
      have HE : Hid _ := Lib.hid hS1
      have HF : Hid _ := Lib.hid hS2
      have HG : Hid _ := Lib.hid hsl
      have HH : Hid _ := Lib.hid hot
      have HI : Hid _ := Lib.hid hoz
      have HJ : Hid _ := Lib.hid hov
      clear hset hv2 htk hv hS1 hS2 hsl es1 es2 hot hoz hov
      by_cases hlast : i + 1 < N
      · have hz1 : o[i + 1]? = some 0 := by
          have h1 : o[i + 1]? = some o[i + 1] := List.getElem?_eq_getElem (by omega)
          rw [h1, HI.out _ _ (by omega) h1]
        have hz2 : (o.set i s1)[i + 1]? = some 0 := by rw [List.getElem?_set_ne (by omega)]; exact hz1
        have hcO2 := hst.cellAt (i + 1) (by omega)
        rw [cv_get hz2] at hcO2
        have hfO2 := hst.frozenAt (i + 1)
        have hst2 := (hst.stored (i + 1) (.int .u32 (s2 : Int))).1
        have hi3 : (i : Int) + 1 < (N : Int) := by omega
        have HK : Hid _ := Lib.hid (nv_set s2 hz2)
        clear hz1 hz2
        go_wp2
        have e4 : (v : Int) / 4294967296 = (s2 : Int) := by have h_ := HF.out; omega
        rw [e4]
        go_roundg d
        case rel => exact ⟨i + 1, (o.set i s1).set (i + 1) s2, by go_num, by omega, by rw [cv_set]; exact hst2, by rw [List.length_set, List.length_set]; exact hol, (hoO.set _ _ hs1).set _ _ hs2, by
            have h1 := HA.out
            have h2 := HK.out
            have h3 := HC.out
            have h4 := HJ.out
            rw [Nat.mul_zero, Nat.add_zero] at h2
            rw [h3, ← h4, h2]
            omega, (fun j q hj hq => by
            rw [List.getElem?_set_ne (by omega), List.getElem?_set_ne (by omega)] at hq
            exact HI.out j q (by omega) hq), (fun q hq => by
            rw [List.getElem?_set_self (by rw [List.length_set]; omega)] at hq
            cases hq; exact hsh), hbs.setCell (p := ⟨w.heap.size, i + 1, none⟩) (Nat.le_refl _) _⟩
        case measure => omega
      · have hi3 : ¬ (i : Int) + 1 < (N : Int) := by omega
        go_wp2
        have hNl : N = l.length ∧ i + 1 = l.length := by omega
        have hs20 : s2 = 0 := by
          have hm0 : more = 0 := by omega
          obtain ⟨_, hlt⟩ | ⟨_, hlt⟩ : (more = 1 ∧ False) ∨ (more = 0 ∧ nv l * 2 ^ n < 4294967296 ^ l.length) := by
            rcases hmore with h | h
            · omega
            · exact .inr h
          · exact hlt.elim
          · have h1 : nv (l.take (i + 1)) = nv l := by rw [List.take_of_length_le (by omega)]
            have h2 := HC.out
            rw [h1] at h2
            rw [← hNl.2, Nat.pow_succ] at hlt
            have h3 : 4294967296 ^ i * v < 4294967296 ^ i * 4294967296 := by omega
            have h4 := Nat.lt_of_mul_lt_mul_left h3
            have h5 := HF.out
            omega
        go_roundg d
        case rel => exact ⟨i + 1, o.set i s1, by go_num, by omega, hst, by rw [List.length_set]; exact hol, hoO.set _ _ hs1, by
            have h1 := HA.out
            have h3 := HC.out
            have h4 := HJ.out
            rw [hs20, Nat.mul_zero, Nat.add_zero] at h1
            rw [h3, ← h4]
            omega, (fun j q hj hq => by
            rw [List.getElem?_set_ne (by omega)] at hq
            exact HI.out j q (by omega) hq), (fun q hq => by
            have h_ := (List.getElem?_eq_some_iff.1 hq).1
            rw [List.length_set] at h_; omega), hbs⟩
        case measure => omega
end Go.Proofs.YtffncomekbfihaaGreatDoor.Nat
