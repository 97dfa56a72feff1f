/- glossatorlaw06: awake, FdecOrder. -/
import Derived.Test.YtffncomekbfihaaMore
namespace Go.Proofs.Ytffncomekbfihaa.Nat
open Go.RowKit Go.Shelf
set_option linter.unusedVariables false
theorem near_one : near 1 1 = 4607182418800017408 := by decide +kernel
theorem rnd_one : rnd false (bts ⟨#[49]⟩) 0 = (4607182418800017408, 0) := by
  have hd : dval (bts ⟨#[49]⟩) = 1 := by decide +kernel
  unfold rnd
  rw [if_neg (by decide +kernel), if_neg (by decide +kernel), if_neg (by decide +kernel), if_neg (by decide), hd, if_neg (by decide), show 1 * tp 0 = 1 from rfl, show tp (-0) = 1 from rfl, near_one]
  rfl
set_option maxHeartbeats 8000000 in
theorem awake_calls (w : World) : Calls Try.prog 5 #[] w fun e w' => e = .returned (.bool true) ∧ Below w.heap.size w w' := by
  have k1 : Calls Try.prog 6 #[.bool false, .string ⟨#[49]⟩, .int .i64 0] w fun e w' => e = .returned (.tuple #[.int .u64 4607182418800017408, .int .i64 0]) ∧ Below w.heap.size w w' := by
    have h := round_calls false ⟨#[49]⟩ 0 w
    rw [rnd_one] at h
    exact h
  go_enter Try.func5, Try.ntmps5
  go_wp2_with (go_at_call 6; (with_reducible refine k1.mono ?_); clear k1; rintro e1 w1 ⟨rfl, hb1⟩)
  go_ret
  exact ⟨rfl, hb1⟩
theorem tp_shift (e : Int) : tp e * tp (-(e - 1)) = 10 * (tp (e - 1) * tp (-e)) := by
  unfold tp
  rw [← Nat.pow_add, ← Nat.pow_add]
  show _ = 10 * 10 ^ _
  rw [Nat.mul_comm 10, ← Nat.pow_succ]
  congr 1
  omega
theorem dgB_snoc (L : List Nat) : dgB (L ++ [48]) = dgB L := by unfold dgB; rw [List.all_append]; simp
theorem dval_snoc (L : List Nat) : dval (L ++ [48]) = 10 * dval L := by rw [dval_append, dval_one]; simp; omega
/-- what FdecOrder asks, of the digits alone -/
theorem order_law (L : List Nat) (e : Int) (h0 : L.length ≠ 0) (h7 : L.length ≤ 700) (he1 : -1000 ≤ e) (he2 : e ≤ 1000) :
    (∃ c : Nat, c ≠ 0 ∧ c ≤ 8 ∧ rnd false L e = (0, c) ∧ rnd true L e = (0, c) ∧ rnd false (L ++ [48]) (e - 1) = (0, c)) ∨
    (∃ X : Nat, X < 9223372036854775808 ∧ Dgs L ∧ rnd false L e = (X, 0) ∧ rnd true L e = (9223372036854775808 + X, 0) ∧ rnd false (L ++ [48]) (e - 1) = (X, 0) ∧
      ∀ M, Dgs M → M.length ≤ 701 → M.length ≠ 0 → dval M = dval L + 1 → (rnd false M e = (0, 8) ∨ ∃ Y : Nat, X ≤ Y ∧ Y < 9223372036854775808 ∧ rnd false M e = (Y, 0))) := by
  have hl : (L ++ [48]).length = L.length + 1 := by simp
  have g1 : ∀ neg, rnd neg L e = if dgB L = false then (0, 4) else if dval L = 0 then (sgn neg 0, 0) else if near (dval L * tp e) (tp (-e)) < 9218868437227405312 then (sgn neg (near (dval L * tp e) (tp (-e))), 0) else (0, 8) := fun neg => by
    unfold rnd
    rw [if_neg (by omega), if_neg h0, if_neg (show ¬ (e < -2000 ∨ 2000 < e) by omega)]
  have g2 : rnd false (L ++ [48]) (e - 1) = if dgB L = false then (0, 4) else if dval L = 0 then (sgn false 0, 0) else if near (10 * dval L * tp (e - 1)) (tp (-(e - 1))) < 9218868437227405312 then (sgn false (near (10 * dval L * tp (e - 1)) (tp (-(e - 1)))), 0) else (0, 8) := by
    unfold rnd
    rw [if_neg (by omega), if_neg (by omega), if_neg (show ¬ (e - 1 < -2000 ∨ 2000 < e - 1) by omega), dgB_snoc, dval_snoc]
    by_cases hz : dval L = 0
    · rw [hz]
    · rw [if_neg hz, if_neg (show ¬ 10 * dval L = 0 by omega)]
  have g3 : ∀ M : List Nat, Dgs M → M.length ≤ 701 → M.length ≠ 0 → dval M = dval L + 1 → rnd false M e = if near ((dval L + 1) * tp e) (tp (-e)) < 9218868437227405312 then (sgn false (near ((dval L + 1) * tp e) (tp (-e))), 0) else (0, 8) := fun M hM hM1 hM2 hM3 => by
    unfold rnd
    rw [if_neg (by omega), if_neg hM2, if_neg (by rw [Bool.not_eq_false, dgB_iff]; exact hM), if_neg (show ¬ (e < -2000 ∨ 2000 < e) by omega), hM3, if_neg (Nat.succ_ne_zero _)]
  by_cases hd : dgB L = false
  · left
    refine ⟨4, by decide, by decide, ?_, ?_, ?_⟩
    · rw [g1, if_pos hd]
    · rw [g1, if_pos hd]
    · rw [g2, if_pos hd]
  have hD : Dgs L := by rw [Bool.not_eq_false, dgB_iff] at hd; exact hd
  by_cases hz : dval L = 0
  · right
    refine ⟨0, by decide, hD, ?_, ?_, ?_, ?_⟩
    · rw [g1, if_neg hd, if_pos hz]; rfl
    · rw [g1, if_neg hd, if_pos hz]; rfl
    · rw [g2, if_neg hd, if_pos hz]; rfl
    · intro M hM h1 h2 h3
      rw [g3 M hM h1 h2 h3]
      by_cases hK : near ((dval L + 1) * tp e) (tp (-e)) < 9218868437227405312
      · rw [if_pos hK]; exact .inr ⟨near ((dval L + 1) * tp e) (tp (-e)), Nat.zero_le _, by omega, rfl⟩
      · rw [if_neg hK]; exact .inl rfl
  have p1 : dval L * tp e ≠ 0 := Nat.ne_of_gt (Nat.mul_pos (Nat.pos_of_ne_zero hz) (tp_pos e))
  have p2 : tp (-e) ≠ 0 := Nat.ne_of_gt (tp_pos _)
  have p3 : 10 * dval L * tp (e - 1) ≠ 0 := Nat.ne_of_gt (Nat.mul_pos (by omega) (tp_pos _))
  have p4 : tp (-(e - 1)) ≠ 0 := Nat.ne_of_gt (tp_pos _)
  have p5 : (dval L + 1) * tp e ≠ 0 := Nat.ne_of_gt (Nat.mul_pos (by omega) (tp_pos _))
  have hs : near (10 * dval L * tp (e - 1)) (tp (-(e - 1))) = near (dval L * tp e) (tp (-e)) := by
    refine (near_same p1 p2 p3 p4 ?_).symm
    rw [Nat.mul_assoc, tp_shift, ← Nat.mul_assoc, Nat.mul_comm (dval L) 10, ← Nat.mul_assoc]
  have hm : near (dval L * tp e) (tp (-e)) ≤ near ((dval L + 1) * tp e) (tp (-e)) := near_mono p1 p2 p5 p2 (Nat.mul_le_mul_right _ (Nat.mul_le_mul_right _ (Nat.le_succ _)))
  by_cases hK : near (dval L * tp e) (tp (-e)) < 9218868437227405312
  · right
    refine ⟨near (dval L * tp e) (tp (-e)), by omega, hD, ?_, ?_, ?_, ?_⟩
    · rw [g1, if_neg hd, if_neg hz, if_pos hK]; rfl
    · rw [g1, if_neg hd, if_neg hz, if_pos hK]; rfl
    · rw [g2, if_neg hd, if_neg hz, hs, if_pos hK]; rfl
    · intro M hM h1 h2 h3
      rw [g3 M hM h1 h2 h3]
      by_cases hK2 : near ((dval L + 1) * tp e) (tp (-e)) < 9218868437227405312
      · rw [if_pos hK2]; exact .inr ⟨_, hm, by omega, rfl⟩
      · rw [if_neg hK2]; exact .inl rfl
  · left
    refine ⟨8, by decide, by decide, ?_, ?_, ?_⟩
    · rw [g1, if_neg hd, if_neg hz, if_neg hK]
    · rw [g1, if_neg hd, if_neg hz, if_neg hK]
    · rw [g2, if_neg hd, if_neg hz, hs, if_neg hK]
theorem rndV_eq {p : Nat × Nat} {a b : Nat} (h : p = (a, b)) : rndV p = .tuple #[.int .u64 (a : Int), .int .i64 (b : Int)] := by rw [h]; rfl
set_option maxHeartbeats 8000000 in
set_option maxRecDepth 100000 in
theorem order_calls (s : ByteArray) (e : Int) (w : World) : Calls Try.prog 3 #[.string s, .int .i64 e] w fun en w' => en = .returned (.bool true) ∧ Below w.heap.size w w' := by
  have k0 := fun w => awake_calls w
  have hlen := bts_length s
  by_cases h1 : s.size = 0
  · have hemp := empty_of h1
    clear h1 hlen
    go_enter Try.func3, Try.ntmps3
    go_wp2_with (go_at_call 5; (with_reducible refine (k0 _).mono ?_); clear k0; rintro e1 w1 ⟨rfl, hb1⟩)
    go_ret
    exact ⟨rfl, hb1⟩
  have hemp := full_of h1
  by_cases h2 : 700 < s.size
  · have h2I : (700 : Int) < (s.size : Int) := by omega
    clear h1 hlen h2
    go_enter Try.func3, Try.ntmps3
    go_wp2_with (go_at_call 5; (with_reducible refine (k0 _).mono ?_); clear k0; rintro e1 w1 ⟨rfl, hb1⟩)
    go_ret
    exact ⟨rfl, hb1⟩
  have h2I : ¬ (700 : Int) < (s.size : Int) := by omega
  by_cases h3 : e < -1000
  · clear h1 hlen h2
    go_enter Try.func3, Try.ntmps3
    go_wp2_with (go_at_call 5; (with_reducible refine (k0 _).mono ?_); clear k0; rintro e1 w1 ⟨rfl, hb1⟩)
    go_ret
    exact ⟨rfl, hb1⟩
  by_cases h4 : 1000 < e
  · clear h1 hlen h2
    go_enter Try.func3, Try.ntmps3
    go_wp2_with (go_at_call 5; (with_reducible refine (k0 _).mono ?_); clear k0; rintro e1 w1 ⟨rfl, hb1⟩)
    go_ret
    exact ⟨rfl, hb1⟩
  have hew : IntKind.i64.wrap (e - 1) = e - 1 := by rw [IntKind.wrap_i64]; omega
  have hsz : s.size ≤ 700 := by omega
  have r1 := fun w => round_calls false s e w
  have r2 := fun w => round_calls true s e w
  have r3 := fun w => round_calls false (s ++ ⟨#[48]⟩) (e - 1) w
  have hb48 : bts (s ++ ⟨#[48]⟩) = bts s ++ [48] := by rw [bts_append]; rfl
  rw [hb48] at r3
  rcases order_law (bts s) e (by omega) (by omega) (by omega) (by omega) with ⟨c, c0, c8, a1, a2, a3⟩ | ⟨X, hX, hD, a1, a2, a3, a4⟩
  · rw [rndV_eq a1] at r1
    rw [rndV_eq a2] at r2
    rw [rndV_eq a3] at r3
    have c0I : ¬ (c : Int) = 0 := by omega
    clear h1 h2 hlen hb48 a1 a2 a3 c0
    go_enter Try.func3, Try.ntmps3
    go_wp2_with (first
      | (go_at_call 6; (with_reducible refine (r1 _).mono ?_); clear r1; rintro e1 w1 ⟨rfl, hb1⟩)
      | (go_at_call 6; (with_reducible refine (r2 _).mono ?_); clear r2; rintro e2 w2 ⟨rfl, hb2⟩)
      | (go_at_call 6; (with_reducible refine (r3 _).mono ?_); clear r3; rintro e3 w3 ⟨rfl, hb3⟩)
      | (go_at_call 5; (with_reducible refine (k0 _).mono ?_); clear k0; rintro e1 w4 ⟨rfl, hb4⟩))
    go_ret
    exact ⟨rfl, below_step (below_step (below_step hb1 hb2) hb3) hb4⟩
  · have km := fun w => more_calls s w (by omega) h1 hD
    have r4 := fun (t : ByteArray) w => round_calls false t e w
    rw [rndV_eq a1] at r1
    rw [rndV_eq a2] at r2
    rw [rndV_eq a3] at r3
    have ho := or_sign hX
    have A4 : Hid _ := Lib.hid a4
    clear h1 h2 hlen hb48 a1 a2 a3 a4 hD
    go_enter Try.func3, Try.ntmps3
    go_wp2_with (first
      | (go_at_call 6; (with_reducible refine (r1 _).mono ?_); clear r1; rintro e1 w1 ⟨rfl, hb1⟩)
      | (go_at_call 6; (with_reducible refine (r2 _).mono ?_); clear r2; rintro e2 w2 ⟨rfl, hb2⟩)
      | (go_at_call 6; (with_reducible refine (r3 _).mono ?_); clear r3; rintro e3 w3 ⟨rfl, hb3⟩)
      | (go_at_call 7; (with_reducible refine (km _).mono ?_); clear km; rintro e4 w4 ⟨t, rfl, ht1, ht2, ht3, ht4, hb4⟩)
      | (go_at_call 6; (with_reducible refine (r4 t _).mono ?_); clear r4; rintro e5 w5 ⟨rfl, hb5⟩; rcases A4.out (bts t) ht1 (by rw [bts_length]; omega) (by rw [bts_length]; omega) ht2 with a5 | ⟨Y, hXY, hY, a5⟩)
      | (rw [rndV_eq a5])
      | (go_at_call 5; (with_reducible refine (k0 _).mono ?_); clear k0; rintro e1 w6 ⟨rfl, hb6⟩))
    all_goals
      go_ret
      exact ⟨rfl, below_step (below_step (below_step (below_step (below_step hb1 hb2) hb3) hb4) hb5) hb6⟩
end Go.Proofs.Ytffncomekbfihaa.Nat
