/- nat.Shr within a limb. -/
import Derived.Test.YtffncomekbfihaaGreatDoorNatShift
namespace Go.Proofs.YtffncomekbfihaaGreatDoor.Nat
open Go.RowKit Go.Shelf
set_option linter.unusedVariables false
theorem shr_limb {x y R n : Nat} (hx : x < 4294967296) (h : n < 32) : (x + 4294967296 * (y + 4294967296 * R)) / 2 ^ n = (x + 4294967296 * y) / 2 ^ n % 4294967296 + 4294967296 * ((y + 4294967296 * R) / 2 ^ n) := by
  have h1 := pow_split h
  have hp := Nat.two_pow_pos n
  have e1 : (x + 4294967296 * (y + 4294967296 * R)) / 2 ^ n / 4294967296 = (y + 4294967296 * R) / 2 ^ n := by
    rw [Nat.div_div_eq_div_mul, Nat.mul_comm (2 ^ n), ← Nat.div_div_eq_div_mul]
    congr 1
    omega
  have e2 : (x + 4294967296 * (y + 4294967296 * R)) / 2 ^ n % 4294967296 = (x + 4294967296 * y) / 2 ^ n % 4294967296 := by
    have h2 : x + 4294967296 * (y + 4294967296 * R) = (x + 4294967296 * y) + 4294967296 * R * 2 ^ (32 - n) * 2 ^ n := by
      rw [Nat.mul_assoc (4294967296 * R), ← h1]
      omega
    rw [h2, Nat.add_mul_div_right _ _ hp, Nat.mul_assoc, Nat.add_mul_mod_self_left]
  have h3 := Nat.mod_add_div ((x + 4294967296 * (y + 4294967296 * R)) / 2 ^ n) 4294967296
  rw [e1, e2] at h3
  exact h3.symm
theorem addr_pos (ad : Addr) (j : Nat) (hj : 0 < j) : ad.add j = ⟨ad.block, ad.off + j, none⟩ := by unfold Addr.add; simp [Nat.ne_of_gt hj]
theorem or_join2 {a b : Nat} (ha : a < 4294967296) (hb : b < 4294967296) : Go.bits BinOp.or IntKind.u64 (b : Int) ((a : Int) * 4294967296) = ((b + 4294967296 * a : Nat) : Int) := by
  have h := or_join ha hb
  have e : (a : Int) * 4294967296 = ((a * 4294967296 : Nat) : Int) := by omega
  rw [e] at h ⊢
  rw [(bits_nat .u64 64 (by decide) (fun n h0 h1 => by rw [IntKind.wrap_u64]; omega) _ _ (by omega) (by omega)).2] at h ⊢
  rw [Nat.or_comm, h]
  omega
set_option maxHeartbeats 8000000 in
set_option maxRecDepth 100000 in
theorem shr_calls (A : Option Addr) (l : List Nat) (c n : Nat) (w : World) (hG : Good w (A, l, c)) (hO : Ok l) (h4 : tn l ≤ 4096) (hn : n < 32) :
    Calls Tryz.prog 104 #[.slice A l.length c, .int .i64 (n : Int)] w fun e w' => ∃ v', e = .returned (.tuple #[v', .int .i64 0]) ∧ NatV w' v' (nv l / 2 ^ n) ∧ Below w.heap.size w w' := by
  have hle := tn_le l
  have hl := hG.2.2
  have hcc := hG.2.1
  dsimp only at hl hcc
  have hb0 := below_alloc w (.cells #[.slice A l.length c] 50)
  have k0 := fits_calls (some ⟨w.heap.size, 0, none⟩) [(A, l, c)] 1 _ (one_slat w A l c 50) (fun q hq => by simp at hq; subst hq; exact hG.below hb0) (by simp)
  rw [show ([(A, l, c)].all (fun q : Option Addr × List Nat × Nat => decide (tn q.2.1 ≤ 4096))) = true by simpa using h4] at k0
  simp only [List.length_cons, List.length_nil, Nat.zero_add] at k0
  have k1 := fun W (hb : Below w.heap.size w W) => trim_calls A l c W (hG.1.below hb) hG.2.1 hG.2.2
  have hnn : ¬ (n : Int) < 0 := by omega
  have hn32 : (n : Int) / 32 = 0 := by omega
  have hnm : (n : Int) % 32 = (n : Int) := by omega
  have hnt : Int.tdiv (n : Int) 32 = 0 := by rw [Int.tdiv_eq_ediv_of_nonneg (by omega)]; exact hn32
  have hnr : Int.tmod (n : Int) 32 = (n : Int) := by rw [Int.tmod_eq_emod_of_nonneg (by omega)]; exact hnm
  have hT := tl_length l
  have hvt := nv_tl hO
  have hOt := ok_tl hO
  have hgt : ∀ j, j < tn l → (tl l)[j]? = l[j]? := fun j h => tl_get h
  have h0v : tn l = 0 → nv l = 0 := tn_zero
  generalize tn l = N at *
  obtain ⟨i0, hi, hz0, hz1, hz2⟩ := info_parts info40
  by_cases h0 : N = 0
  · subst h0
    have h0v' := h0v rfl
    clear h0v
    go_enter Tryz.func104, Tryz.ntmps104
    go_wp2_with (first | (go_at_call 56; (with_reducible refine k0.mono ?_); clear k0; rintro e1 w1 ⟨rfl, hb1⟩; have hb4 := below_step hb0 hb1) | (go_at_call 58; (with_reducible refine (k1 _ hb4).mono ?_); clear k1; rintro e2 w3 ⟨rfl, hb5⟩; have hb6 := below_step hb4 hb5))
    go_ret2
    refine ⟨_, rfl, ?_, hb6⟩
    rw [h0v', Nat.zero_div]
    exact ⟨none, 0, by rw [limbs_zero]; rfl, by rw [limbs_zero]; exact Nat.le_refl _, by rw [limbs_zero]; exact rd_nil _ _⟩
  · have hN1 : ¬ (N : Int) ≤ 0 := by omega
    have hN0 : (0 : Int) < (N : Int) := by omega
    clear h0v
    go_enter Tryz.func104, Tryz.ntmps104
    go_wp2_with (first | (go_at_call 56; (with_reducible refine k0.mono ?_); clear k0; rintro e1 w1 ⟨rfl, hb1⟩; have hb4 := below_step hb0 hb1) | (go_at_call 58; (with_reducible refine (k1 _ hb4).mono ?_); clear k1; rintro e2 w3 ⟨rfl, hb5⟩; have hb6 := below_step hb4 hb5; obtain ⟨w4, hmk, hown, hgr⟩ := run_make_full (P := Tryz.prog) w3 w.heap.size 50 53 i0 (.int .u32 0) 1 Tryz.underlying50 hi hz0 hz1 .i64 .i64 N (by rw [hz2]; omega) (by unfold maxLen; omega) hb6.size))
    have hgB := hb6.size
    have hb7 := hb6.grown hgr hb6.size (fun k hk => by cases hk)
    rw [show (Value.int .u32 0).cells = #[Value.int .u32 0] from rfl, Nat.mul_one, toList_madeCells_one, ← cv_replicate] at hown
    generalize w3.heap.size = g at *
    clear hmk hgr hi hz0 hz1 hz2 hb6 hb5 hb4 hb1 hb0
    go_loopg [7, 8, 9, 34] N (fun kq v7 v8 v9 v34 wr => ∃ (i : Nat) (o : List Nat), v34 = .int .i64 i ∧ i + kq = N ∧ wr.ownsRow w.heap.size 53 1 (.slice (some ⟨g, 0, none⟩) N N) N (cv o) ∧ o.length = N ∧ Ok o ∧ nv (o.take i) + 4294967296 ^ i * (nv ((tl l).drop i) / 2 ^ n) = nv l / 2 ^ n ∧ Below w.heap.size w wr)
    case atStart => exact ⟨0, _, rfl, by omega, hown, by simp, ok_replicate N, by rw [List.drop_zero, hvt]; simp [nv], hb7⟩
    case round =>
      clear hown hb7
      obtain ⟨i, o, rfl, hi, hown, hol, hoO, hov, hb⟩ := hrel
      cases gk with
      | zero =>
        obtain rfl : i = N := by omega
        rw [List.take_of_length_le (by omega), List.drop_of_length_le (by omega)] at hov
        have hov2 : nv o = nv l / 2 ^ n := by rw [← hov]; simp [nv]
        have hgd := own_good (l := o) hown (by omega)
        rw [hol] at hgd
        have htn := tn_le o
        have k9 := told_calls (some ⟨g, 0, none⟩) o i wr hgd.1 hoO (by omega)
        rw [hol, hov2] at k9
        clear hov hov2
        go_wp2_with (go_at_call 62; (with_reducible refine k9.mono ?_); clear k9; rintro e5 w5 ⟨v', rfl, hv, hb8⟩)
        go_ret2
        exact ⟨v', rfl, hv, below_step hb hb8⟩
      | succ d =>
        obtain ⟨ad, x, rfl, hx, hcell⟩ := hG.1.at (j := i) (by dsimp only; omega)
        dsimp only at hx
        have hx32 := hO.get hx
        have y := (hb.cell (World.block_lt_of_cell? _ _ hcell)).trans hcell
        have hfO := hown.frozenAt i
        obtain ⟨old, hold⟩ : ∃ old, o[i]? = some old := ⟨_, List.getElem?_eq_getElem (by omega)⟩
        have hcO := hown.cellAt i (by omega)
        rw [cv_get hold] at hcO
        have hi1 : (i : Int) < (N : Int) := by omega
        have hd1 := nv_drop ((hgt i (by omega)).trans hx)
        have hs : ∀ s, s < 4294967296 → nv ((tl l).drop i) / 2 ^ n = s + 4294967296 * (nv ((tl l).drop (i + 1)) / 2 ^ n) → nv ((o.set i s).take (i + 1)) + 4294967296 ^ (i + 1) * (nv ((tl l).drop (i + 1)) / 2 ^ n) = nv l / 2 ^ n := fun s hs1 hs2 => by
          rw [← hov, hs2, nv_take_succ (List.getElem?_set_self (by omega)), List.take_set_of_le (Nat.le_refl _), Nat.mul_add, Nat.pow_succ, Nat.mul_assoc, Nat.add_assoc]
        have HS : Hid _ := Lib.hid hs
        have HD : Hid _ := Lib.hid hd1
        clear hov hs hd1
        have hbs := fun (u : Value) => hb.setCell (p := ⟨g, i, none⟩) hgB u
        by_cases hlast : i + 1 < N
        · obtain ⟨ad', x', e', hx', hcell'⟩ := hG.1.at (j := i + 1) (by dsimp only; omega)
          cases e'
          dsimp only at hx'
          have hx32' := hO.get hx'
          have y' := (hb.cell (World.block_lt_of_cell? _ _ hcell')).trans hcell'
          rw [addr_pos _ _ (Nat.succ_pos i)] at y'
          have hd2 := nv_drop ((hgt (i + 1) hlast).trans hx')
          have HE : Hid _ := Lib.hid hd2
          clear hd2
          have hi3 : (i : Int) + 1 < (N : Int) := by omega
          have hj := or_join2 hx32' hx32
          go_wp2
          have e5 : ((x : Int) + 4294967296 * (x' : Int)) / 2 ^ n % 4294967296 = (((x + 4294967296 * x') / 2 ^ n % 4294967296 : Nat) : Int) := by rw [Int.natCast_emod, Int.natCast_ediv, Int.natCast_pow]; rw [Int.natCast_add, Int.natCast_mul]; rfl
          have hm := Nat.mod_lt ((x + 4294967296 * x') / 2 ^ n) (show 0 < 4294967296 by decide)
          have hfin := HS.out ((x + 4294967296 * x') / 2 ^ n % 4294967296) hm (by rw [HD.out, HE.out]; exact shr_limb hx32 hn)
          rw [e5]
          generalize (x + 4294967296 * x') / 2 ^ n % 4294967296 = s at *
          have hst := (hown.stored i (.int .u32 (s : Int))).1
          go_roundg d
          case rel => exact ⟨i + 1, o.set i s, by go_num, by omega, by rw [cv_set]; exact hst, by rw [List.length_set]; exact hol, hoO.set _ _ hm, hfin, hbs _⟩
          case measure => omega
        · have hi3 : ¬ (i : Int) + 1 < (N : Int) := by omega
          go_wp2
          have e5 : (x : Int) / 2 ^ n % 4294967296 = ((x / 2 ^ n % 4294967296 : Nat) : Int) := by rw [Int.natCast_emod, Int.natCast_ediv, Int.natCast_pow]; rfl
          have hm := Nat.mod_lt (x / 2 ^ n) (show 0 < 4294967296 by decide)
          have hfin := HS.out (x / 2 ^ n % 4294967296) hm (by rw [HD.out, List.drop_of_length_le (show (tl l).length ≤ i + 1 by omega)]; simp only [nv, Nat.mul_zero, Nat.add_zero, Nat.zero_div]; exact (Nat.mod_eq_of_lt (Nat.lt_of_le_of_lt (Nat.div_le_self _ _) hx32)).symm)
          rw [e5]
          generalize x / 2 ^ n % 4294967296 = s at *
          have hst := (hown.stored i (.int .u32 (s : Int))).1
          go_roundg d
          case rel => exact ⟨i + 1, o.set i s, by go_num, by omega, by rw [cv_set]; exact hst, by rw [List.length_set]; exact hol, hoO.set _ _ hm, hfin, hbs _⟩
          case measure => omega
end Go.Proofs.YtffncomekbfihaaGreatDoor.Nat
