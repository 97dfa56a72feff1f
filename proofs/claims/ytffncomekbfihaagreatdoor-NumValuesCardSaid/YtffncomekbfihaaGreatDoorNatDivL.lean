/- nat.Div. -/
import Derived.Test.YtffncomekbfihaaGreatDoorNatDigit
namespace Go.Proofs.YtffncomekbfihaaGreatDoor.Nat
open Go.RowKit Go.Shelf
set_option linter.unusedVariables false
theorem lz32_calls (x : Nat) (w : World) (h1 : x < 4294967296) :
    Calls Tryz.prog 102 #[.int .u32 (x : Int)] w fun e w' => e = .returned (.int .i64 ((32 - bl x : Nat) : Int)) ∧ w' = w := by
  have h := Tryz.bits_LeadingZeros32 (x : Int) w (by omega) (by omega)
  rw [Int.toNat_natCast, bitLen_eq h1] at h
  have hb := bl_le (x := x) (k := 32) h1
  rwa [show ((32 - bl x : Nat) : Int) = 32 - (bl x : Int) by omega]
theorem natv_nil (w : World) : NatV w (.slice none 0 0) 0 := ⟨none, 0, by rw [limbs_zero]; rfl, by rw [limbs_zero]; exact Nat.le_refl _, by rw [limbs_zero]; exact rd_nil _ _⟩
theorem good_one (w : World) (x : Nat) : Good (w.alloc (.cells #[.int .u32 (x : Int)] 53)) (some ⟨w.heap.size, 0, none⟩, [x], 1) :=
  ⟨fun j y hy => ⟨_, rfl, by
    have hj := (List.getElem?_eq_some_iff.1 hy).1
    obtain rfl : j = 0 := by simpa using hj
    simp at hy; subst hy
    rw [Addr.add_lit, Lib.cell_of_heap (heap_alloc_new w _)]; rfl⟩, Nat.le_refl _, by simp⟩
set_option maxHeartbeats 8000000 in
set_option maxRecDepth 100000 in
/-- the cases without a long division -/
theorem div_short (A : Option Addr) (l : List Nat) (c : Nat) (A' : Option Addr) (l' : List Nat) (c' : Nat) (w : World) (hG : Good w (A, l, c)) (hG' : Good w (A', l', c')) (hO : Ok l) (hO' : Ok l') (h4 : tn l ≤ 4096) (h4' : tn l' ≤ 4096) (hb0 : nv l' ≠ 0) (hcase : nv l < nv l' ∨ (¬ nv l < nv l' ∧ tn l' = 1)) :
    Calls Tryz.prog 55 #[.slice A l.length c, .slice A' l'.length c'] w fun e w' => ∃ v1 v2, e = .returned (.tuple #[v1, v2, .int .i64 0]) ∧ NatV w' v1 (nv l / nv l') ∧ NatV w' v2 (nv l % nv l') ∧ Below w.heap.size w w' := by
  have hle := tn_le l
  have hle' := tn_le l'
  have hl := hG.2.2
  have hl' := hG'.2.2
  have hcc := hG.2.1
  have hcc' := hG'.2.1
  dsimp only at hl hl' hcc hcc'
  have hT := tl_length l
  have hT' := tl_length l'
  have hbA := below_alloc w (.cells #[.slice A l.length c, .slice A' l'.length c'] 50)
  have k0 := fits_calls (some ⟨w.heap.size, 0, none⟩) [(A, l, c), (A', l', c')] 2 _ (two_slat w A l c A' l' c' 50) (fun q hq => by
    rcases List.mem_cons.1 hq with rfl | hq
    · exact hG.below hbA
    · simp at hq; subst hq; exact hG'.below hbA) (by simp)
  rw [show ([(A, l, c), (A', l', c')].all (fun q : Option Addr × List Nat × Nat => decide (tn q.2.1 ≤ 4096))) = true by simp; omega] at k0
  simp only [List.length_cons, List.length_nil, Nat.zero_add] at k0
  have k1 := fun W (hb : Below w.heap.size w W) => trim_calls A l c W (hG.1.below hb) hG.2.1 hG.2.2
  have k2 := fun W (hb : Below w.heap.size w W) => trim_calls A' l' c' W (hG'.1.below hb) hG'.2.1 hG'.2.2
  have gA : ∀ W, Below w.heap.size w W → Good W (A, tl l, c) := fun W hb => ⟨(hG.1.below hb).take _, by dsimp only; omega, by dsimp only; omega⟩
  have gB : ∀ W, Below w.heap.size w W → Good W (A', tl l', c') := fun W hb => ⟨(hG'.1.below hb).take _, by dsimp only; omega, by dsimp only; omega⟩
  have k3 := fun W (hb : Below w.heap.size w W) => cmp_calls A (tl l) c A' (tl l') c' W (gA W hb) (gB W hb) (ok_tl hO) (ok_tl hO')
  have k4 := fun W (hb : Below w.heap.size w W) => clone_calls A (tl l) c W (gA W hb).1 (by rw [hT]; omega) (by rw [hT]; omega)
  have htl0 : tn l' ≠ 0 := fun h => hb0 (tn_zero h)
  rw [hT, hT', nv_tl hO, nv_tl hO'] at k3
  rw [hT] at k4
  have q0 : ¬ (tn l' : Int) = 0 := by omega
  rcases hcase with hlt | ⟨hnlt, h1⟩
  · rw [show cmpI (nv l) (nv l') = -1 by unfold cmpI; rw [if_pos hlt]] at k3
    rw [Nat.div_eq_of_lt hlt, Nat.mod_eq_of_lt hlt]
    go_enter Tryz.func55, Tryz.ntmps55
    go_wp2_with (first | (go_at_call 56; (with_reducible refine k0.mono ?_); clear k0; rintro e1 w1 ⟨rfl, hb1⟩; have hb2 := below_step hbA hb1) | (go_at_call 58; (with_reducible refine (k1 _ hb2).mono ?_); clear k1; rintro e2 w2 ⟨rfl, hb3⟩; have hb4 := below_step hb2 hb3) | (go_at_call 58; (with_reducible refine (k2 _ hb4).mono ?_); clear k2; rintro e3 w3 ⟨rfl, hb5⟩; have hb6 := below_step hb4 hb5) | (go_at_call 23; (with_reducible refine (k3 _ hb6).mono ?_); clear k3; rintro e4 w4 ⟨rfl, hb7⟩; have hb8 := below_step hb6 hb7) | (go_at_call 57; (with_reducible refine (k4 _ hb8).mono ?_); clear k4; rintro e5 w5 ⟨v5, rfl, hown, hb9⟩; have hb10 := below_step hb8 hb9))
    go_ret3
    exact ⟨_, _, rfl, natv_nil _, own_natv hO hown, hb10⟩
  · obtain ⟨cI, hcI, hcI0⟩ : ∃ cI : Int, cmpI (nv l) (nv l') = cI ∧ ¬ cI < 0 := ⟨_, rfl, by unfold cmpI; rw [if_neg hnlt]; split <;> decide⟩
    rw [hcI] at k3
    obtain ⟨d, hd⟩ := get_of_lt (l := l') (i := 0) (by omega)
    have hd32 := hO'.get hd
    obtain ⟨ad, rfl, hcell⟩ := hG'.1 0 d hd
    rw [Addr.add_zero'] at hcell
    have hdv : nv l' = d := by
      rw [← nv_tl hO', tl, h1, nv_take_succ hd]; simp [nv]
    have hd0 : 0 < d := by omega
    have k5 := fun W (hb : Below w.heap.size w W) => divSmall_calls A (tl l) c d W (gA W hb) (ok_tl hO) (by rw [← tl_length, tl, List.length_take, tl_length]; have := tn_le (tl l); omega) hd0 hd32
    rw [hT, nv_tl hO] at k5
    rw [hdv]
    rw [h1] at k2 k3 q0
    have hr32 : nv l % d < 4294967296 := Nat.lt_trans (Nat.mod_lt _ hd0) hd32
    have k6 := fun W (r : Nat) (hb : Good W (some ⟨r, 0, none⟩, [nv l % d], 1)) => trim_calls (some ⟨r, 0, none⟩) [nv l % d] 1 W hb.1 hb.2.1 hb.2.2
    have k7 := fun W (r : Nat) (hb : Good W (some ⟨r, 0, none⟩, [nv l % d], 1)) => clone_calls (some ⟨r, 0, none⟩) (tl [nv l % d]) 1 W (hb.1.take _) (by rw [tl_length]; exact tn_le _) (by rw [tl_length]; have := tn_le [nv l % d]; simp at this; omega)
    simp only [List.length_cons, List.length_nil, Nat.zero_add, tl_length] at k6 k7
    have hone : nv [nv l % d] = nv l % d := by simp [nv]
    have hok1 : Ok [nv l % d] := ok_one hr32
    have hn0 : tn [nv l % d] ≤ 1 := tn_le _
    have HDV : Hid _ := Lib.hid hdv
    clear hdv hnlt hb0
    generalize nv l % d = r at *
    have hcIp : ¬ (cI < 0) := hcI0
    clear hcI
    go_enter Tryz.func55, Tryz.ntmps55
    go_wp2_with (first | (go_at_call 56; (with_reducible refine k0.mono ?_); clear k0; rintro e1 w1 ⟨rfl, hb1⟩; have hb2 := below_step hbA hb1) | (go_at_call 58; (with_reducible refine (k1 _ hb2).mono ?_); clear k1; rintro e2 w2 ⟨rfl, hb3⟩; have hb4 := below_step hb2 hb3) | (go_at_call 58; (with_reducible refine (k2 _ hb4).mono ?_); clear k2; rintro e3 w3 ⟨rfl, hb5⟩; have hb6 := below_step hb4 hb5) | (go_at_call 23; (with_reducible refine (k3 _ hb6).mono ?_); clear k3; rintro e4 w4 ⟨rfl, hb7⟩; have hb8 := below_step hb6 hb7; have hcell2 := (hb8.cell (World.block_lt_of_cell? _ _ hcell)).trans hcell) | (go_at_call 59; (with_reducible refine (k5 _ hb8).mono ?_); clear k5; rintro e5 w5 ⟨v5, rfl, hv5, hb9⟩; have hb10 := below_step hb8 hb9; have hg1 := good_one w5 r; have hbO := below_alloc w5 (.cells #[.int .u32 (r : Int)] 53)) | (go_at_call 58; (with_reducible refine (k6 _ _ hg1).mono ?_); clear k6; rintro e6 w6 ⟨rfl, hb11⟩; have hg2 := hg1.below hb11; have hbP := below_step hbO hb11) | (go_at_call 57; (with_reducible refine (k7 _ _ hg2).mono ?_); clear k7; rintro e7 w7 ⟨v7, rfl, hown, hb13⟩; have hbQ := below_step hbP hb13))
    go_ret3
    have h_ := own_natv hok1 hown
    rw [hone] at h_
    exact ⟨_, _, rfl, hv5.below hbQ, h_, below_step hb10 hbQ⟩
end Go.Proofs.YtffncomekbfihaaGreatDoor.Nat
