/- nat.Div: the long division. -/
import Derived.Test.YtffncomekbfihaaGreatDoorNatDivL
namespace Go.Proofs.YtffncomekbfihaaGreatDoor.Nat
open Go.RowKit Go.Shelf
set_option linter.unusedVariables false
/-- a round of the long division, as numbers -/
theorem div_round {U U' : List Nat} (hU : Ok U) {k L Vv q NU : Nat} (hl : U.length = NU) (hl' : U'.length = NU) (hk : k + (L + 1) ≤ NU) (ht : U'.take k = U.take k) (hd : U'.drop (k + (L + 1)) = U.drop (k + (L + 1))) (hV : Vv < 4294967296 ^ L) (hlt : nv U < 4294967296 ^ (k + 1) * Vv) :
    nvr U k (L + 1) < 4294967296 * Vv ∧ (nvr U' k (L + 1) + q * Vv = nvr U k (L + 1) → nvr U' k (L + 1) < Vv → nv U' + 4294967296 ^ k * (q * Vv) = nv U ∧ nv U' < 4294967296 ^ k * Vv) := by
  have sp : ∀ X : List Nat, X.length = NU → nv X = nv (X.take k) + 4294967296 ^ k * (nvr X k (L + 1) + 4294967296 ^ (L + 1) * nv (X.drop (k + (L + 1)))) := fun X hX => by
    rw [nv_split X k (by omega), nv_split (X.drop k) (L + 1) (by rw [List.length_drop]; omega), List.drop_drop]; rfl
  have e1 := sp U hl
  have e2 := sp U' hl'
  rw [ht, hd] at e2
  have htk := nv_lt (hU.take k)
  rw [List.length_take, Nat.min_eq_left (by omega)] at htk
  have hz : nv (U.drop (k + (L + 1))) = 0 := by
    rcases Nat.eq_zero_or_pos (nv (U.drop (k + (L + 1)))) with h | h
    · exact h
    · exfalso
      have h1 : 4294967296 ^ (L + 1) * 1 ≤ 4294967296 ^ (L + 1) * nv (U.drop (k + (L + 1))) := Nat.mul_le_mul_left _ h
      have h2 : 4294967296 ^ k * 4294967296 ^ (L + 1) ≤ nv U := by
        rw [e1]
        refine Nat.le_trans ?_ (Nat.le_add_left _ _)
        exact Nat.mul_le_mul_left _ (by omega)
      have h3 : 4294967296 ^ (k + 1) * Vv ≤ 4294967296 ^ (k + 1) * 4294967296 ^ L := Nat.mul_le_mul_left _ (Nat.le_of_lt hV)
      have h4 : 4294967296 ^ (k + 1) * 4294967296 ^ L = 4294967296 ^ k * 4294967296 ^ (L + 1) := by rw [← Nat.pow_add, ← Nat.pow_add]; congr 1; omega
      omega
  rw [hz, Nat.mul_zero, Nat.add_zero] at e1 e2
  have hp := Nat.pow_pos (n := k) (show 0 < 4294967296 by decide)
  have hpk : 4294967296 ^ (k + 1) * Vv = 4294967296 ^ k * (4294967296 * Vv) := by rw [Nat.pow_succ, Nat.mul_assoc]
  refine ⟨?_, fun h1 h2 => ⟨?_, ?_⟩⟩
  · have h3 : 4294967296 ^ k * nvr U k (L + 1) < 4294967296 ^ k * (4294967296 * Vv) := by omega
    exact Nat.lt_of_mul_lt_mul_left h3
  · rw [e2, e1, ← h1, Nat.mul_add]; omega
  · have h3 : 4294967296 ^ k * (nvr U' k (L + 1) + 1) ≤ 4294967296 ^ k * Vv := Nat.mul_le_mul_left _ h2
    rw [Nat.mul_add, Nat.mul_one] at h3
    omega
theorem top_half {V : List Nat} (hV : Ok V) {n1 v1 s : Nat} (hl : V.length = n1 + 1) (hv : V[n1]? = some v1) (h : 2 ^ (32 * n1 + 31) ≤ nv V) : 2147483648 ≤ v1 := by
  have e : nv V = nv (V.take n1) + 4294967296 ^ n1 * v1 := by
    have h1 : V.take (n1 + 1) = V := List.take_of_length_le (by omega)
    rw [← nv_take_succ hv, h1]
  have h2 := nv_lt (hV.take n1)
  rw [List.length_take, Nat.min_eq_left (by omega)] at h2
  rcases Nat.lt_or_ge v1 2147483648 with h3 | h3
  · exfalso
    have h4 : 4294967296 ^ n1 * (v1 + 1) ≤ 4294967296 ^ n1 * 2147483648 := Nat.mul_le_mul_left _ h3
    have h5 : 2 ^ (32 * n1 + 31) = 4294967296 ^ n1 * 2147483648 := by rw [pow32, Nat.pow_add]
    rw [Nat.mul_add, Nat.mul_one] at h4
    omega
  · exact h3
theorem gb_cell {w w' : World} {g : Nat} (h : w.grownBy w' (some g)) {a : Addr} {u : Value} (ha : a.block ≠ g) (hc : w.cell? a = some u) : w'.cell? a = some u := by
  have hlt := World.block_lt_of_cell? _ _ hc
  have hb := h.block a.block hlt (fun e => ha (Option.some.inj e))
  unfold World.cell? at hc ⊢
  rw [hb]; exact hc
theorem rd_gb {w w' : World} {ad : Addr} {g : Nat} {V : List Nat} (h : Rd w (some ad) V) (hg : ad.block ≠ g) (hb : w.grownBy w' (some g)) : Rd w' (some ad) V := fun j x hx => by
  obtain ⟨ad2, e, hc⟩ := h j x hx
  cases e
  exact ⟨ad, rfl, gb_cell hb (by rw [add_blk]; exact hg) hc⟩
theorem below_gb {B g : Nat} {w W W' : World} (h : Below B w W) (hg : B ≤ g) (hB : B ≤ W.heap.size) (hb : W.grownBy W' (some g)) : Below B w W' := h.grown hb hB (fun k hk => by cases hk; exact hg)
theorem div_end {u q V a b s : Nat} (hV : V = b * 2 ^ s) (hb : b ≠ 0) (h1 : u < V) (h2 : u + q * V = a * 2 ^ s) : q = a / b ∧ u / 2 ^ s = a % b := by
  have hp := Nat.two_pow_pos s
  have hV0 : 0 < V := by omega
  have h3 : a * 2 ^ s / V = q := by rw [← h2, Nat.add_mul_div_right _ _ hV0, Nat.div_eq_of_lt h1, Nat.zero_add]
  have h4 : a * 2 ^ s % V = u := by rw [← h2, Nat.add_mul_mod_self_right, Nat.mod_eq_of_lt h1]
  rw [hV, Nat.mul_div_mul_right _ _ hp] at h3
  rw [hV, Nat.mul_mod_mul_right] at h4
  exact ⟨h3.symm, by rw [← h4, Nat.mul_div_cancel _ hp]⟩
theorem own_Rd {w : World} {B T g n c m : Nat} {l : List Nat} (h : w.ownsRow B T 1 (.slice (some ⟨g, 0, none⟩) n c) m (cv l)) : Rd w (some ⟨g, 0, none⟩) l := by
  obtain ⟨A2, c2, e2, _, _, hR2⟩ := own_rd h
  simp only [Value.slice.injEq] at e2
  obtain ⟨rfl, _, _⟩ := e2
  exact hR2
theorem own_cap {w : World} {B T g n c m : Nat} {xs : List Value} (h : w.ownsRow B T 1 (.slice (some ⟨g, 0, none⟩) n c) m xs) : m ≤ c := by
  rcases h.2 with ⟨h, _⟩ | ⟨g, cap, cur, h, _, _, hc, _⟩
  · cases h
  · simp only [Value.slice.injEq] at h
    obtain ⟨_, _, rfl⟩ := h
    exact hc
theorem mk_u32 {z : Int} {n : Nat} (h : z.toNat = n) (h0 : 0 ≤ z) (h1 : z ≤ 4096) (W : World) : (Instr.makeSlice 50 (.int .i64 z) (.int .i64 z)).run Tryz.prog W = .ok (.slice (some ⟨W.heap.size, 0, none⟩) n n) (W.alloc (.cells (madeCells #[Value.int .u32 0] n) 53)) := by
  obtain ⟨i0, hi, hz0, hz1, hz2⟩ := info_parts info40
  have h_ := run_make (P := Tryz.prog) W 50 53 i0 (.int .u32 0) Tryz.underlying50 hi hz0 .i64 .i64 z z h0 (Int.le_refl _) (by rw [hz2]; omega) (by omega)
  rw [hz1, Nat.mul_one, h] at h_
  exact h_
theorem div_nums (l l' : List Nat) (hO : Ok l) (hO' : Ok l') (n1 : Nat) (hlb : tn l' = n1 + 1) (hge : ¬ nv l < nv l') : ∃ s M x : Nat, tn l = M + (n1 + 1) ∧ l'[n1]? = some x ∧ x < 4294967296 ∧ 32 - bl x = s ∧ s < 32 ∧
    Hid (nv l' * 2 ^ s < 4294967296 ^ (n1 + 1) ∧ 2 ^ (32 * n1 + 31) ≤ nv l' * 2 ^ s ∧ nv l * 2 ^ s < 4294967296 ^ (M + 1) * (nv l' * 2 ^ s)) := by
  have hle' := tn_le l'
  have hT := tl_length l
  have hlm : tn l' ≤ tn l := by
    rw [tn_eq hO, tn_eq hO']; exact limbs_len_mono (Nat.le_of_not_lt hge)
  obtain ⟨x, hx⟩ := get_of_lt (l := l') (i := n1) (by omega)
  have hx32 := hO'.get hx
  obtain ⟨hx0, hblb⟩ := bl_top hO' hlb hx
  have hblx := bl_bounds hx0
  have hblx2 := bl_le (x := x) (k := 32) hx32
  obtain ⟨s, hs⟩ : ∃ s, 32 - bl x = s := ⟨_, rfl⟩
  have hs32 : s < 32 := by omega
  have hb0 : nv l' ≠ 0 := fun h => by have := nv_zero_tn h; omega
  -- the divisor, moved up, and the dividend
  have hVlt : nv l' * 2 ^ s < 4294967296 ^ (n1 + 1) := by
    have h1 := (bl_bounds (v := nv l' * 2 ^ s) (Nat.mul_ne_zero hb0 (Nat.pos_iff_ne_zero.1 (Nat.two_pow_pos s)))).2.2
    rw [bl_mul hb0, hblb] at h1
    rw [pow32]
    rwa [show 32 * n1 + bl x + s = 32 * (n1 + 1) by omega] at h1
  have hVge : 2 ^ (32 * n1 + 31) ≤ nv l' * 2 ^ s := by
    have h1 := (bl_bounds (v := nv l' * 2 ^ s) (Nat.mul_ne_zero hb0 (Nat.pos_iff_ne_zero.1 (Nat.two_pow_pos s)))).2.1
    rw [bl_mul hb0, hblb] at h1
    rwa [show 32 * n1 + bl x + s - 1 = 32 * n1 + 31 by omega] at h1
  obtain ⟨M, hM⟩ : ∃ M, tn l = M + (n1 + 1) := ⟨tn l - (n1 + 1), by omega⟩
  have hUlt : nv l * 2 ^ s < 4294967296 ^ (M + 1) * (nv l' * 2 ^ s) := by
    have h1 : nv l < 4294967296 ^ tn l := by
      have h2 := nv_lt (ok_tl hO)
      rwa [nv_tl hO, hT] at h2
    have h2 : 2 ^ s ≤ 2 ^ 31 := Nat.pow_le_pow_right (by decide) (by omega)
    have h3 : nv l * 2 ^ s < 4294967296 ^ tn l * 2 ^ 31 := Nat.lt_of_lt_of_le (Nat.mul_lt_mul_of_pos_right h1 (Nat.two_pow_pos s)) (Nat.mul_le_mul_left _ h2)
    have h4 : 4294967296 ^ (M + 1) * 2 ^ (32 * n1 + 31) ≤ 4294967296 ^ (M + 1) * (nv l' * 2 ^ s) := Nat.mul_le_mul_left _ hVge
    have h5 : 4294967296 ^ tn l * 2 ^ 31 = 4294967296 ^ (M + 1) * 2 ^ (32 * n1 + 31) := by
      rw [pow32, pow32, ← Nat.pow_add, ← Nat.pow_add, hM]; congr 1; omega
    omega
  exact ⟨s, M, x, hM, hx, hx32, hs, hs32, Lib.hid ⟨hVlt, hVge, hUlt⟩⟩
set_option maxHeartbeats 16000000 in
set_option maxRecDepth 100000 in
theorem div_long (A : Option Addr) (l : List Nat) (c : Nat) (A' : Option Addr) (l' : List Nat) (c' : Nat) (w : World) (hG : Good w (A, l, c)) (hG' : Good w (A', l', c')) (hO : Ok l) (hO' : Ok l') (h4 : tn l ≤ 4096) (n1 : Nat) (hn1 : 1 ≤ n1) (hlb : tn l' = n1 + 1) (h4' : n1 ≤ 4095) (hge : ¬ nv l < nv l') :
    Calls Tryz.prog 55 #[.slice A l.length c, .slice A' l'.length c'] w fun e w' => ∃ v1 v2, e = .returned (.tuple #[v1, v2, .int .i64 0]) ∧ NatV w' v1 (nv l / nv l') ∧ NatV w' v2 (nv l % nv l') ∧ Below w.heap.size w w' := by
  have hle := tn_le l
  have hle' := tn_le l'
  have hl := hG.2.2
  have hl' := hG'.2.2
  have hcc := hG.2.1
  have hcc' := hG'.2.1
  dsimp only at hl hl' hcc hcc'
  have hT := tl_length l
  have hT' := tl_length l'
  obtain ⟨s, M, x, hM, hx, hx32, hs, hs32, HP⟩ := div_nums l l' hO hO' n1 hlb hge
  have hbA := below_alloc w (.cells #[.slice A l.length c, .slice A' l'.length c'] 50)
  have k0 := fits_calls (some ⟨w.heap.size, 0, none⟩) [(A, l, c), (A', l', c')] 2 _ (two_slat w A l c A' l' c' 50) (fun q hq => by
    rcases List.mem_cons.1 hq with rfl | hq
    · exact hG.below hbA
    · simp at hq; subst hq; exact hG'.below hbA) (by simp)
  rw [show ([(A, l, c), (A', l', c')].all (fun q : Option Addr × List Nat × Nat => decide (tn q.2.1 ≤ 4096))) = true by simp; omega] at k0
  simp only [List.length_cons, List.length_nil, Nat.zero_add] at k0
  have k1 := fun W (hb : Below w.heap.size w W) => trim_calls A l c W (hG.1.below hb) hG.2.1 hG.2.2
  have k2 := fun W (hb : Below w.heap.size w W) => trim_calls A' l' c' W (hG'.1.below hb) hG'.2.1 hG'.2.2
  have gA : ∀ W, Below w.heap.size w W → Good W (A, tl l, c) := fun W hb => ⟨(hG.1.below hb).take _, by dsimp only; omega, by dsimp only; omega⟩
  have gB : ∀ W, Below w.heap.size w W → Good W (A', tl l', c') := fun W hb => ⟨(hG'.1.below hb).take _, by dsimp only; omega, by dsimp only; omega⟩
  have k3 := fun W (hb : Below w.heap.size w W) => cmp_calls A (tl l) c A' (tl l') c' W (gA W hb) (gB W hb) (ok_tl hO) (ok_tl hO')
  rw [hT, hT', nv_tl hO, nv_tl hO'] at k3
  obtain ⟨cI, hcI, hcI0⟩ : ∃ cI : Int, cmpI (nv l) (nv l') = cI ∧ ¬ cI < 0 := ⟨_, rfl, by unfold cmpI; rw [if_neg hge]; split <;> decide⟩
  rw [hcI] at k3
  have k4 : ∀ W, Below w.heap.size w W → Calls Tryz.prog 100 #[.slice A (tl l).length c, .int .i64 (s : Int), .int .i64 1] W fun e w' => ∃ v' o, e = .returned v' ∧ w'.ownsRow W.heap.size 53 1 v' ((tl l).length + 1) (cv o) ∧ Ok o ∧ o.length = (tl l).length + 1 ∧ nv o = nv (tl l) * 2 ^ s ∧ Below W.heap.size W w' :=
    fun W hb => left_calls A (tl l) c s 1 W (gA W hb).1 (by rw [hT]; omega) (by rw [hT]; omega) (ok_tl hO) hs32 (.inl rfl)
  have k5 : ∀ W, Below w.heap.size w W → Calls Tryz.prog 100 #[.slice A' (tl l').length c', .int .i64 (s : Int), .int .i64 0] W fun e w' => ∃ v' o, e = .returned v' ∧ w'.ownsRow W.heap.size 53 1 v' ((tl l').length + 0) (cv o) ∧ Ok o ∧ o.length = (tl l').length + 0 ∧ nv o = nv (tl l') * 2 ^ s ∧ Below W.heap.size W w' :=
    fun W hb => left_calls A' (tl l') c' s 0 W (gB W hb).1 (by rw [hT']; omega) (by rw [hT']; omega) (ok_tl hO') hs32 (.inr ⟨rfl, by rw [nv_tl hO', hT', hlb]; exact HP.out.1⟩)
  rw [hT, nv_tl hO] at k4
  rw [hT', nv_tl hO', Nat.add_zero, hlb] at k5
  rw [hlb] at k2 k3
  have k6 := fun W => lz32_calls x W hx32
  rw [hs] at k6
  obtain ⟨ad, rfl, hcell⟩ := hG'.1 n1 x hx
  have hM4 : M + n1 ≤ 4095 := by omega
  have eM1 : ((M : Int) + 1).toNat = M + 1 := by omega
  have hM1a : (0 : Int) ≤ (M : Int) + 1 := by omega
  have hM1b : (M : Int) + 1 ≤ 4096 := by omega
  have hmk : ∀ W, (Instr.makeSlice 50 (.int .i64 ((M : Int) + 1)) (.int .i64 ((M : Int) + 1))).run Tryz.prog W = .ok (.slice (some ⟨W.heap.size, 0, none⟩) (M + 1) (M + 1)) (W.alloc (.cells (madeCells #[Value.int .u32 0] (M + 1)) 53)) := mk_u32 eM1 hM1a hM1b
  have hMI : (M : Int) + (n1 : Int) ≤ 4095 := by omega
  have hMI2 : (M : Int) ≤ 4095 := by omega
  rw [hM] at *
  clear hs hT hT' hge hcI
  have q0 : ¬ ((n1 + 1 : Nat) : Int) = 0 := by omega
  have q1 : ¬ ((n1 + 1 : Nat) : Int) = 1 := by omega
  have q2 : ((n1 + 1 : Nat) : Int) - 1 = (n1 : Int) := by omega
  have q3 : ((M + (n1 + 1) : Nat) : Int) - ((n1 + 1 : Nat) : Int) + 1 = ((M + 1 : Nat) : Int) := by omega
  go_enter Tryz.func55, Tryz.ntmps55
  go_wp2_with (first | (go_at_call 56; (with_reducible refine k0.mono ?_); clear k0; rintro e1 w1 ⟨rfl, hb1⟩; have hb2 := below_step hbA hb1) | (go_at_call 58; (with_reducible refine (k1 _ hb2).mono ?_); clear k1; rintro e2 w2 ⟨rfl, hb3⟩; have hb4 := below_step hb2 hb3) | (go_at_call 58; (with_reducible refine (k2 _ hb4).mono ?_); clear k2; rintro e3 w3 ⟨rfl, hb5⟩; have hb6 := below_step hb4 hb5) | (go_at_call 23; (with_reducible refine (k3 _ hb6).mono ?_); clear k3; rintro e4 w4 ⟨rfl, hb7⟩; have hb8 := below_step hb6 hb7; have hcell2 := (hb8.cell (World.block_lt_of_cell? _ _ hcell)).trans hcell) | (go_at_call 102; (with_reducible refine (k6 _).mono ?_); clear k6; rintro e5 w5 ⟨rfl, rfl⟩) | (go_at_call 100; refine (k4 _ hb8).mono ?_; clear k4; rintro e6 w6 ⟨vU, U0, rfl, hownU, hU0, hU0l, hU0v, hb9⟩; have hb10 := below_step hb8 hb9; obtain ⟨g1, CU, rfl⟩ := own_form hownU (by omega)) | (go_at_call 100; refine (k5 _ hb10).mono ?_; clear k5; rintro e7 w7 ⟨vV, V, rfl, hownV, hV, hVl, hVv, hb11⟩; have hb12 := below_step hb10 hb11; obtain ⟨g2, CV, rfl⟩ := own_form hownV (by omega)))
  have hg12 : g1 ≠ g2 := by have h1 := (hownU.lt g1 rfl).2; have h2 := (hownV.lt g2 rfl).1; omega
  have hU7 := own_le (own_keep hownU hb11) hb8.size
  have hV7 := own_le hownV hb10.size
  have hQ8 := make_own (W := w7) (B := w.heap.size) (M + 1) hb12.size (by unfold maxLen; omega)
  have hU8 := hU7.alloc (.cells (madeCells #[Value.int .u32 0] (M + 1)) 53)
  have hV8 := hV7.alloc (.cells (madeCells #[Value.int .u32 0] (M + 1)) 53)
  have hb13 := below_al hb12 hb12.size (.cells (madeCells #[Value.int .u32 0] (M + 1)) 53)
  have hg3 : w7.heap.size ≠ g1 ∧ w7.heap.size ≠ g2 := ⟨by have := (hU7.lt g1 rfl).2; omega, by have := (hV7.lt g2 rfl).2; omega⟩
  go_wp2
  have hVl2 : V.length = n1 + 1 := hVl
  have hVV : nv V = nv l' * 2 ^ s := hVv
  obtain ⟨v1, hv1⟩ := get_of_lt (l := V) (i := n1) (by omega)
  have hv31 : 2147483648 ≤ v1 := top_half hV (s := s) hVl2 hv1 (by rw [hVV]; exact HP.out.2.1)
  have hRV8 : Rd (w7.alloc (.cells (madeCells #[Value.int .u32 0] (M + 1)) 53)) (some ⟨g2, 0, none⟩) V := own_Rd hV8
  obtain ⟨n2, hn2⟩ : ∃ n2, n1 = n2 + 1 := ⟨n1 - 1, by omega⟩
  have HN2 : Hid _ := Lib.hid hn2
  have hdr := fun (W : World) (U : List Nat) (k : Nat) (hk : k ≤ M) (ho : World.ownsRow W w.heap.size 53 1 (.slice (some ⟨g1, 0, none⟩) (M + (n1 + 1) + 1) CU) (M + (n1 + 1) + 1) (cv U)) (hU : Ok U) (hR : Rd W (some ⟨g2, 0, none⟩) V) (hlt : nvr U k (n1 + 2) < 4294967296 * nv V) =>
    digit_calls w.heap.size g1 (M + (n1 + 1) + 1) CU k n1 n2 (CU - k) U V (some ⟨g2, 0, none⟩) CV W ho hU hV hVl2 hn2 (by omega) (by omega) (by have h_ := own_cap ho; omega) (own_cap hV8) hR (fun a ha => by cases ha; exact fun q => hg12 q.symm) v1 hv1 hv31 hlt
  have hCU : M + (n1 + 1) + 1 ≤ CU := own_cap hU8
  have hgB : w.heap.size ≤ g1 := (hU8.lt g1 rfl).1
  have hgB3 : w.heap.size ≤ w7.heap.size := hb12.size
  have hU0v' : nv U0 = nv l * 2 ^ s := hU0v
  have HDR : Hid _ := Lib.hid hdr
  clear hdr hU7 hV7 hV8 hownU hownV hb2 hb4 hb6 hb8 hb10 hb12 hb1 hb3 hb5 hb7 hb9 hb11 hn2 hcell hcell2 hmk
  generalize w7.heap.size = g3 at *
  generalize w7.alloc (.cells (madeCells #[Value.int .u32 0] (M + 1)) 53) = w8 at *
  go_loopg [14] (M + 1) (fun kq v14 wr => ∃ U Q : List Nat, v14 = .int .i64 ((kq : Int) - 1) ∧ kq ≤ M + 1 ∧ wr.ownsRow w.heap.size 53 1 (.slice (some ⟨g1, 0, none⟩) (M + (n1 + 1) + 1) CU) (M + (n1 + 1) + 1) (cv U) ∧ U.length = M + (n1 + 1) + 1 ∧ Ok U ∧ wr.ownsRow w.heap.size 53 1 (.slice (some ⟨g3, 0, none⟩) (M + 1) (M + 1)) (M + 1) (cv Q) ∧ Q.length = M + 1 ∧ Ok Q ∧ Rd wr (some ⟨g2, 0, none⟩) V ∧
    Hid (nv U < 4294967296 ^ kq * nv V ∧ nv U + 4294967296 ^ kq * (nv (Q.drop kq) * nv V) = nv l * 2 ^ s) ∧ Below w.heap.size w wr)
  case atStart => exact ⟨U0, List.replicate (M + 1) 0, by rw [show ((M + 1 : Nat) : Int) - 1 = (M : Int) by omega], Nat.le_refl _, hU8, hU0l, hU0, hQ8, by simp, ok_replicate _, hRV8, Lib.hid ⟨by rw [hU0v', hVV]; exact HP.out.2.2, by rw [List.drop_of_length_le (by simp), hU0v']; simp [nv]⟩, hb13⟩
  case round =>
    clear hU8 hU0l hU0 hQ8 hRV8 hb13 hU0v hU0v' hVl hVv
    obtain ⟨U, Q, rfl, hk, hU, hUl, hUO, hQ, hQl, hQO, hRV, HI, hb⟩ := hrel
    cases gk with
    | zero =>
      rw [show ((0 : Nat) : Int) - 1 = -1 from rfl]
      have hI := HI.out
      rw [Nat.pow_zero, Nat.one_mul, Nat.one_mul, List.drop_zero] at hI
      have hb0 : nv l' ≠ 0 := fun h => by have := nv_zero_tn h; omega
      obtain ⟨r1, r2⟩ := div_end hVV hb0 hI.1 hI.2
      have htU : tn U ≤ 4096 := by
        rw [tn_eq hUO]
        have h1 : (limbs (nv U)).length ≤ n1 + 1 := limbs_len_le (Nat.lt_trans hI.1 (by rw [hVV]; exact HP.out.1))
        omega
      have kS := shr_calls (some ⟨g1, 0, none⟩) U CU s wr ⟨own_Rd hU, by dsimp only; omega, by dsimp only; omega⟩ hUO htU hs32
      rw [r2, hUl] at kS
      have kT := fun W (hR : Rd W (some ⟨g3, 0, none⟩) Q) => trim_calls (some ⟨g3, 0, none⟩) Q (M + 1) W hR (by omega) (by omega)
      have htQ := tn_le Q
      have kC := fun W (hR : Rd W (some ⟨g3, 0, none⟩) Q) => clone_calls (some ⟨g3, 0, none⟩) (tl Q) (M + 1) W (hR.take _) (by rw [tl_length]; omega) (by rw [tl_length]; omega)
      rw [hQl] at kT
      simp only [tl_length] at kC
      have hRQ := own_Rd hQ
      have R1 : Hid _ := Lib.hid r1
      clear hI r1 r2 HI hU hQ hRV
      generalize tn Q = tq at *
      go_wp2_with (first | (go_at_call 104; (with_reducible refine kS.mono ?_); clear kS; rintro e8 w9 ⟨v9, rfl, hv9, hb14⟩; have hb15 := below_step hb hb14; have hRQ2 := hRQ.below hb14) | (go_at_call 58; (with_reducible refine (kT _ hRQ2).mono ?_); clear kT; rintro e9 w10 ⟨rfl, hb16⟩; have hb17 := below_step hb15 hb16; have hRQ3 := hRQ2.below hb16) | (go_at_call 57; (with_reducible refine (kC _ hRQ3).mono ?_); clear kC; rintro e10 w11 ⟨v11, rfl, hown, hb18⟩; have hb19 := below_step hb17 hb18))
      go_ret3
      have h_ := own_natv hQO hown
      rw [R1.out] at h_
      exact ⟨_, _, rfl, h_, hv9.below (below_step hb16 hb18), hb19⟩
    | succ k =>
      rw [show ((k + 1 : Nat) : Int) - 1 = (k : Int) by omega]
      obtain ⟨qo, hqo⟩ := get_of_lt (l := Q) (i := k) (by omega)
      have hcQ := hQ.cellAt k (by omega)
      rw [cv_get hqo] at hcQ
      have hk0 : (0 : Int) ≤ (k : Int) := by omega
      have hkM : (k : Int) ≤ (M : Int) := by omega
      have hround := div_round (U := U) (U' := U) hUO (k := k) (L := n1 + 1) (Vv := nv V) (q := 0) hUl hUl (by omega) rfl rfl (by rw [hVV]; exact HP.out.1) HI.out.1
      have kD := HDR.out wr U k (by omega) hU hUO hRV hround.1
      have HR1 : Hid _ := Lib.hid hround.1
      clear hround
      have hCUI : (M : Int) + ((n1 : Int) + 1) + 1 ≤ (CU : Int) := by omega
      have hfar : g3 ≠ g1 := hg3.1
      have hfar2 : (⟨g2, 0, none⟩ : Addr).block ≠ g1 := fun q => hg12 q.symm
      have hfar3 : (⟨g2, 0, none⟩ : Addr).block ≠ g3 := fun q => hg3.2 q.symm
      go_wp2_with (go_at_call 103; rw [show k + (n1 + 1) + 1 - k = n1 + 2 by omega]; refine kD.mono ?_; clear kD; rintro e8 w9 ⟨q, rfl, hq32, U', hU', hUO', htk, hdp, hq1, hq2, hgr⟩; have hQ9 := hQ.kept hgr (.inr (fun e => hfar (Option.some.inj e))); have hRV9 := rd_gb hRV hfar2 hgr; have hb9 := below_gb hb hgB hb.size hgr; have hcQ9 := hQ9.cellAt k (by omega); rw [cv_get hqo] at hcQ9; have hfQ9 := hQ9.frozenAt k)
      have hU'l : U'.length = M + (n1 + 1) + 1 := by have h1 := hU'.1; rw [cv_length] at h1; omega
      have hr2 := (div_round (U := U) (U' := U') hUO (k := k) (L := n1 + 1) (Vv := nv V) (q := q) hUl hU'l (by omega) htk hdp (by rw [hVV]; exact HP.out.1) HI.out.1).2 hq1 hq2
      have hdq : nv ((Q.set k q).drop k) = q + 4294967296 * nv (Q.drop (k + 1)) := by
        rw [nv_drop (List.getElem?_set_self (by omega)), List.drop_set_of_lt (by omega)]
      have hI2 := HI.out.2
      have heq : nv U' + 4294967296 ^ k * (nv ((Q.set k q).drop k) * nv V) = nv l * 2 ^ s := by
        rw [hdq, Nat.add_mul, Nat.mul_add, ← Nat.add_assoc, hr2.1, ← hI2, Nat.pow_succ]
        congr 1
        ac_rfl
      have hstQ := (hQ9.stored k (.int .u32 (q : Int))).1
      have hstU := ownsRow_setCell_other hU' (a := ⟨g3, k, none⟩) (fun e => hfar (Option.some.inj e).symm) (.int .u32 (q : Int))
      go_roundg k
      case rel => exact ⟨U', Q.set k q, rfl, by omega, hstU, hU'l, hUO', by rw [cv_set]; exact hstQ, by rw [List.length_set]; exact hQl, hQO.set _ _ hq32, rd_far hRV9 hfar3 _, Lib.hid ⟨hr2.2, heq⟩, hb9.setCell (p := ⟨g3, k, none⟩) hgB3 _⟩
      case measure => omega
/-- nat.Div -/
theorem div_calls (A : Option Addr) (l : List Nat) (c : Nat) (A' : Option Addr) (l' : List Nat) (c' : Nat) (w : World) (hG : Good w (A, l, c)) (hG' : Good w (A', l', c')) (hO : Ok l) (hO' : Ok l') (h4 : tn l ≤ 4096) (h4' : tn l' ≤ 4096) (hb0 : nv l' ≠ 0) :
    Calls Tryz.prog 55 #[.slice A l.length c, .slice A' l'.length c'] w fun e w' => ∃ v1 v2, e = .returned (.tuple #[v1, v2, .int .i64 0]) ∧ NatV w' v1 (nv l / nv l') ∧ NatV w' v2 (nv l % nv l') ∧ Below w.heap.size w w' := by
  by_cases h1 : nv l < nv l'
  · exact div_short A l c A' l' c' w hG hG' hO hO' h4 h4' hb0 (.inl h1)
  · have h0 : tn l' ≠ 0 := fun h => hb0 (tn_zero h)
    by_cases h2 : tn l' = 1
    · exact div_short A l c A' l' c' w hG hG' hO hO' h4 h4' hb0 (.inr ⟨h1, h2⟩)
    · exact div_long A l c A' l' c' w hG hG' hO hO' h4 (tn l' - 1) (by omega) (by omega) (by omega) h1
end Go.Proofs.YtffncomekbfihaaGreatDoor.Nat
