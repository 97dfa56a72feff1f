/- nat.low, nat.Mul. -/
import Derived.Test.YtffncomekbfihaaGreatDoorNatCmp
import Derived.Laws.OwnMore
import Derived.Laws.MakeOwn
namespace Go.Proofs.YtffncomekbfihaaGreatDoor.Nat
open Go.RowKit Go.Shelf
set_option linter.unusedVariables false
set_option maxHeartbeats 4000000 in
set_option maxRecDepth 100000 in
theorem low_calls (x : Nat) (w : World) (h : x < 18446744073709551616) :
    Calls Tryz.prog 61 #[.int .u64 (x : Int)] w fun e w' => e = .returned (.tuple #[.int .u32 ((x % 4294967296 : Nat) : Int), .int .u64 ((x / 4294967296 : Nat) : Int)]) ∧ w' = w := by
  have e1 : ((x % 4294967296 : Nat) : Int) = (x : Int) % 4294967296 := by omega
  have e2 : ((x / 4294967296 : Nat) : Int) = (x : Int) / 4294967296 := by omega
  rw [e1, e2]
  go_enter Tryz.func61, Tryz.ntmps61
  go_wp2
  go_ret2
  exact ⟨rfl, rfl⟩
theorem mul_step {o2 : List Nat} {i k old carry : Nat} (hold : o2[i + k]? = some old) (x x' P : Nat) (m : List Nat) (h : nv o2 + 4294967296 ^ (i + k) * carry = P + 4294967296 ^ i * x * nv (m.take k)) (hx' : m[k]? = some x') :
    nv (o2.set (i + k) ((carry + old + x * x') % 4294967296)) + 4294967296 ^ (i + (k + 1)) * ((carry + old + x * x') / 4294967296) = P + 4294967296 ^ i * x * nv (m.take (k + 1)) := by
  have h1 := nv_set ((carry + old + x * x') % 4294967296) hold
  rw [nv_take_succ hx', Nat.mul_add]
  have h2 : 4294967296 ^ i * x * (4294967296 ^ k * x') = 4294967296 ^ (i + k) * (x * x') := by
    rw [Nat.pow_add, Nat.mul_mul_mul_comm]
  have h3 : 4294967296 ^ (i + (k + 1)) = 4294967296 ^ (i + k) * 4294967296 := by rw [← Nat.add_assoc, Nat.pow_succ]
  rw [h2, h3, Nat.mul_assoc]
  have h4 := Nat.mod_add_div (carry + old + x * x') 4294967296
  generalize (carry + old + x * x') % 4294967296 = s1 at *
  generalize (carry + old + x * x') / 4294967296 = s2 at *
  generalize x * x' = xx at *
  generalize 4294967296 ^ (i + k) = E at *
  have h5 : E * (s1 + 4294967296 * s2) = E * (carry + old + xx) := by rw [h4]
  rw [Nat.mul_add, Nat.mul_add, Nat.mul_add] at h5
  omega
set_option maxHeartbeats 4000000 in
set_option maxRecDepth 100000 in
theorem mul_calls (A : Option Addr) (l : List Nat) (c : Nat) (A' : Option Addr) (l' : List Nat) (c' : Nat) (w : World) (hG : Good w (A, l, c)) (hG' : Good w (A', l', c')) (hO : Ok l) (hO' : Ok l') (h4 : tn l + tn l' ≤ 4096) :
    Calls Tryz.prog 53 #[.slice A l.length c, .slice A' l'.length c'] w fun e w' => ∃ v', e = .returned (.tuple #[v', .int .i64 0]) ∧ NatV w' v' (nv l * nv l') ∧ Below w.heap.size w w' := by
  have hle := tn_le l
  have hle' := tn_le l'
  have hl := hG.2.2
  have hl' := hG'.2.2
  dsimp only at hl hl'
  have hb0 := below_alloc w (.cells #[.slice A l.length c, .slice A' l'.length c'] 50)
  have k0 := fits_calls (some ⟨w.heap.size, 0, none⟩) [(A, l, c), (A', l', c')] 2 _ (two_slat w A l c A' l' c' 50) (fun q hq => by
    rcases List.mem_cons.1 hq with rfl | hq
    · exact hG.below hb0
    · simp at hq; subst hq; exact hG'.below hb0) (by simp)
  rw [show ([(A, l, c), (A', l', c')].all (fun q : Option Addr × List Nat × Nat => decide (tn q.2.1 ≤ 4096))) = true by simp; omega] at k0
  simp only [List.length_cons, List.length_nil, Nat.zero_add] at k0
  have k1 := fun W (hb : Below w.heap.size w W) => trim_calls A l c W (hG.1.below hb) hG.2.1 hG.2.2
  have k2 := fun W (hb : Below w.heap.size w W) => trim_calls A' l' c' W (hG'.1.below hb) hG'.2.1 hG'.2.2
  go_enter Tryz.func53, Tryz.ntmps53
  go_wp2_with (first | (go_at_call 56; (with_reducible refine k0.mono ?_); clear k0; rintro e1 w1 ⟨rfl, hb1⟩; have hb2 := below_step hb0 hb1) | (go_at_call 58; (with_reducible refine (k1 _ hb2).mono ?_); clear k1; rintro e2 w2 ⟨rfl, hb3⟩; have hb4 := below_step hb2 hb3) | (go_at_call 58; (with_reducible refine (k2 _ hb4).mono ?_); clear k2; rintro e3 w3 ⟨rfl, hb5⟩; have hb6 := below_step hb4 hb5))
  obtain ⟨n, hn⟩ : ∃ n, tn l + tn l' = n := ⟨_, rfl⟩
  obtain ⟨i0, hi, hz0, hz1, hz2⟩ := info_parts info40
  obtain ⟨w4, hmk, hown, hgr⟩ := run_make_full (P := Tryz.prog) w3 w.heap.size 50 53 i0 (.int .u32 0) 1 Tryz.underlying50 hi hz0 hz1 .i64 .i64 n (by rw [hz2]; omega) (by unfold maxLen; omega) hb6.size
  rw [show (Value.int .u32 0).cells = #[Value.int .u32 0] from rfl, Nat.mul_one, toList_madeCells_one, ← cv_replicate] at hown
  have hnI : (tn l : Int) + (tn l' : Int) = (n : Int) := by omega
  have hb7 := hb6.grown hgr hb6.size (fun k hk => by cases hk)
  generalize w3.heap.size = g at *
  rw [← hnI] at hmk
  rw [hmk]
  simp only [Result.andThen]
  rw [Oper.upon_value]
  go_wp2
  clear hmk hgr hi hz0 hz1 hz2 hb6 hb5 hb4 hb3 hb2 hb1 hb0
  have own0 : w4.ownsRow w.heap.size 53 1 (.slice (some ⟨g, 0, none⟩) n n) n (cv (List.replicate n 0)) := hown
  go_loopg [7, 8, 9, 10, 11, 29] (tn l) (fun kq v7 v8 v9 v10 v11 v29 wr => ∃ (i : Nat) (o : List Nat), v29 = .int .i64 i ∧ i + kq = tn l ∧ wr.ownsRow w.heap.size 53 1 (.slice (some ⟨g, 0, none⟩) n n) n (cv o) ∧ o.length = n ∧ Ok o ∧ nv o = nv ((tl l).take i) * nv (tl l') ∧ (∀ (j x : Nat), i + tn l' ≤ j → o[j]? = some x → x = 0) ∧ Below w.heap.size w wr)
  case atStart => exact ⟨0, _, rfl, by omega, own0, by simp, ok_replicate n, by rw [nv_replicate]; simp [nv], (fun j x _ hx => List.eq_of_mem_replicate (List.mem_of_getElem? hx)), hb7⟩
  case round =>
    clear own0 hown hb7
    obtain ⟨i, o, rfl, hi, hown, hol, hoO, hov, hoz, hb⟩ := hrel
    cases gk with
    | zero =>
      obtain rfl : i = tn l := by omega
      rw [List.take_of_length_le (by rw [tl_length]; omega), nv_tl hO, nv_tl hO'] at hov
      have hgd : Good wr (some ⟨g, 0, none⟩, o, n) := by
        obtain ⟨A2, c2, e2, _, hc2, hR2⟩ := own_rd hown
        cases e2
        exact ⟨hR2, by dsimp only; omega, by dsimp only; omega⟩
      have htn := tn_le o
      have k9 := told_calls _ o n wr hgd hoO (by omega)
      rw [hov, hol] at k9
      go_wp2_with (go_at_call 62; (with_reducible refine k9.mono ?_); clear k9; rintro e5 w5 ⟨v', rfl, hv, hb8⟩)
      go_ret2
      exact ⟨v', rfl, hv, below_step hb hb8⟩
    | succ d =>
      obtain ⟨ad, x, rfl, hx, hcell⟩ := hG.1.at (j := i) (by dsimp only; omega)
      dsimp only at hx
      have hx32 := hO.get hx
      have y := (hb.cell (World.block_lt_of_cell? _ _ hcell)).trans hcell
      have hi1 : (i : Int) < (tn l : Int) := by omega
      go_wp2
      go_loopg [9, 10, 11, 36] (tn l') (fun kq v9 v10 v11 v36 wr2 => ∃ (k carry : Nat) (o2 : List Nat), v36 = .int .i64 k ∧ v9 = .int .u64 carry ∧ k + kq = tn l' ∧ carry < 4294967296 ∧ wr2.ownsRow w.heap.size 53 1 (.slice (some ⟨g, 0, none⟩) n n) n (cv o2) ∧ o2.length = n ∧ Ok o2 ∧
        nv o2 + 4294967296 ^ (i + k) * carry = nv ((tl l).take i) * nv (tl l') + 4294967296 ^ i * x * nv ((tl l').take k) ∧ (∀ (j x : Nat), i + tn l' ≤ j → o2[j]? = some x → x = 0) ∧ Below w.heap.size w wr2)
      case atStart => exact ⟨0, 0, o, rfl, rfl, by omega, by omega, hown, hol, hoO, by rw [hov]; simp [nv], hoz, hb⟩
      case round =>
        clear hown hol hoO hov hoz hb
        obtain ⟨k, carry, o2, rfl, rfl, hk, hcar, hown, hol, hoO, hov, hoz, hb⟩ := hrel
        cases gk with
        | zero =>
          obtain rfl : k = tn l' := by omega
          have hil : i + tn l' < o2.length := by omega
          have hz : o2[i + tn l']? = some 0 := by
            have h1 : o2[i + tn l']? = some o2[i + tn l'] := List.getElem?_eq_getElem hil
            rw [h1, hoz _ _ (Nat.le_refl _) h1]
          have hcO := hown.cellAt (i + tn l') (by omega)
          rw [cv_get hz] at hcO
          have hfO := hown.frozenAt (i + tn l')
          have hin : (i : Int) + (tn l' : Int) < (n : Int) := by omega
          have hst := (hown.stored (i + tn l') (.int .u32 (carry : Int))).1
          go_wp2
          go_roundg d
          case rel => exact ⟨i + 1, o2.set (i + tn l') carry, by go_num, by omega, by rw [cv_set]; exact hst, by rw [List.length_set]; exact hol, hoO.set _ _ hcar, by
              have h1 := nv_set carry hz
              rw [nv_take_succ ((tl_get (by omega)).trans hx), Nat.add_mul]
              rw [List.take_of_length_le (l := tl l') (by rw [tl_length]; exact Nat.le_refl _)] at hov
              rw [Nat.mul_zero, Nat.add_zero] at h1
              omega, (fun j q hj hq => by
              rw [List.getElem?_set] at hq
              split at hq
              · omega
              · exact hoz j q (by omega) hq), hb.setCell (p := ⟨g, i + tn l', none⟩) (hown.lt g rfl).1 _⟩
          case measure => omega
        | succ d2 =>
          obtain ⟨ad', x', rfl, hx', hcell'⟩ := hG'.1.at (j := k) (by dsimp only; omega)
          dsimp only at hx'
          have hx32' := hO'.get hx'
          have y' := (hb.cell (World.block_lt_of_cell? _ _ hcell')).trans hcell'
          have hk1 : (k : Int) < (tn l' : Int) := by omega
          obtain ⟨old, hold⟩ : ∃ old, o2[i + k]? = some old := ⟨_, List.getElem?_eq_getElem (by omega)⟩
          have hold32 := hoO.get hold
          have hcO := hown.cellAt (i + k) (by omega)
          rw [cv_get hold] at hcO
          have hfO := hown.frozenAt (i + k)
          have hin : (i : Int) + (k : Int) < (n : Int) := by omega
          have hxx : x * x' ≤ 18446744065119617025 := Nat.mul_le_mul (show x ≤ 4294967295 by omega) (show x' ≤ 4294967295 by omega)
          have hxxI : (x : Int) * (x' : Int) ≤ 18446744065119617025 := by have h_ := Int.ofNat_le.2 hxx; rw [Int.natCast_mul] at h_; exact h_
          have hxx0 : (0 : Int) ≤ (x : Int) * (x' : Int) := Int.mul_nonneg (Int.natCast_nonneg _) (Int.natCast_nonneg _)
          have k3 := fun W => low_calls (carry + old + x * x') W (by omega)
          simp only [Int.natCast_add, Int.natCast_mul] at k3
          go_wp2_with (go_at_call 61; (with_reducible refine (k3 _).mono ?_); clear k3; rintro e6 w6 ⟨rfl, rfl⟩)
          have hs := mul_step hold x x' (nv ((tl l).take i) * nv (tl l')) (tl l') hov ((tl_get (by omega)).trans hx')
          have hs1 : (carry + old + x * x') / 4294967296 < 4294967296 := by omega
          have es : ((carry : Int) + (old : Int) + (x : Int) * (x' : Int)) % 4294967296 = (((carry + old + x * x') % 4294967296 : Nat) : Int) := by rw [Int.natCast_emod, Int.natCast_add, Int.natCast_add, Int.natCast_mul]; rfl
          have es2 : ((carry : Int) + (old : Int) + (x : Int) * (x' : Int)) / 4294967296 = (((carry + old + x * x') / 4294967296 : Nat) : Int) := by rw [Int.natCast_ediv, Int.natCast_add, Int.natCast_add, Int.natCast_mul]; rfl
          rw [es, es2]
          have hm := Nat.mod_lt (carry + old + x * x') (show 0 < 4294967296 by decide)
          generalize (carry + old + x * x') % 4294967296 = s1 at *
          generalize (carry + old + x * x') / 4294967296 = s2 at *
          have hst := (hown.stored (i + k) (.int .u32 (s1 : Int))).1
          go_roundg d2
          case rel => exact ⟨k + 1, s2, o2.set (i + k) s1, by go_num, rfl, by omega, hs1, by rw [cv_set]; exact hst, by rw [List.length_set]; exact hol, hoO.set _ _ hm, hs, (fun j q hj hq => by
              rw [List.getElem?_set] at hq
              split at hq
              · omega
              · exact hoz j q hj hq), hb.setCell (p := ⟨g, i + k, none⟩) (hown.lt g rfl).1 _⟩
          case measure => omega
end Go.Proofs.YtffncomekbfihaaGreatDoor.Nat
