/- glossatorref06.Round. -/
import Derived.Test.YtffncomekbfihaaGreatDoorRef7
import Derived.Test.YtffncomekbfihaaGreatDoorRound
namespace Go.Proofs.YtffncomekbfihaaGreatDoor.Nat
open Go.RowKit Go.Shelf
set_option linter.unusedVariables false
set_option linter.unusedSimpArgs false
theorem rfrom_empty (s : ByteArray) (w : World) (h0 : s.size = 0) :
    Calls Tryz.prog 45 #[.string s] w fun e w' => e = .returned (.tuple #[.slice none 0 0, .int .i64 4]) ∧ Below w.heap.size w w' := by
  have hemp := empty_of h0
  have hs1 : ¬ (4096 : Int) < (s.size : Int) := by omega
  have hb0 := Below.refl w.heap.size w
  go_enter Tryz.func45, Tryz.ntmps45
  go_wp2
  go_ret2
  exact ⟨rfl, hb0⟩
theorem sgn_or (neg : Bool) {N : Nat} (h : N < 9223372036854775808) : Go.bits BinOp.or IntKind.u64 ((sgn neg 0 : Nat) : Int) (N : Int) = ((sgn neg N : Nat) : Int) := by
  have h1 := (bits_nat .u64 64 (by decide) (fun n h0 h1 => by rw [IntKind.wrap_u64]; omega) (sgn neg 0) N (by unfold sgn; split <;> decide) (by omega)).2
  rw [h1]
  congr 1
  cases neg with
  | false => show 0 ||| N = N; rw [Nat.zero_or]
  | true => show 9223372036854775808 ||| N = 9223372036854775808 + N; exact (Nat.two_pow_add_eq_or_of_lt (i := 63) (b := N) (by exact h) 1).symm
set_option maxHeartbeats 8000000 in
set_option maxRecDepth 100000 in
theorem rround_calls (neg : Bool) (s : ByteArray) (e : Int) (w : World) :
    Calls Tryz.prog 112 #[.bool neg, .string s, .int .i64 e] w fun en w' => en = .returned (rndV (rnd neg (bts s) e)) ∧ Below w.heap.size w w' := by
  have hlen := bts_length s
  have hb0 := Below.refl w.heap.size w
  unfold rnd
  by_cases h1 : 800 < s.size
  · rw [if_pos (by omega)]
    have h1I : (800 : Int) < (s.size : Int) := by omega
    go_enter Tryz.func112, Tryz.ntmps112
    go_wp2
    go_ret2
    exact ⟨rfl, hb0⟩
  rw [if_neg (by omega)]
  have h1I : ¬ (800 : Int) < (s.size : Int) := by omega
  by_cases h2 : s.size = 0
  · rw [if_pos (by omega)]
    have k1 := rfrom_empty s w h2
    clear hlen h2 h1
    go_enter Tryz.func112, Tryz.ntmps112
    go_wp2_with (go_at_call 45; (with_reducible refine k1.mono ?_); clear k1; rintro e1 w1 ⟨rfl, hb1⟩)
    go_ret2
    exact ⟨rfl, hb1⟩
  rw [if_neg (by omega)]
  have k1 := rfrom_calls s w (by omega) h2
  by_cases h3 : Dgs (bts s)
  case neg =>
    rw [if_pos (by rw [← Bool.not_eq_true, dgB_iff]; exact h3)]
    have k2 : Calls Tryz.prog 45 #[.string s] w fun e w' => e = .returned (.tuple #[.slice none 0 0, .int .i64 4]) ∧ Below w.heap.size w w' := k1.mono (fun e w' h => by
      obtain ⟨h | h, hb⟩ := h
      · exact absurd h.1 h3
      · exact ⟨h.2, hb⟩)
    clear hlen h2 h1 k1 h3
    go_enter Tryz.func112, Tryz.ntmps112
    go_wp2_with (go_at_call 45; (with_reducible refine k2.mono ?_); clear k2; rintro e1 w1 ⟨rfl, hb1⟩)
    go_ret2
    exact ⟨rfl, hb1⟩
  rw [if_neg (by rw [Bool.not_eq_false, dgB_iff]; exact h3)]
  have hl8 := dval_limbs8 h3 (by omega)
  have k2 : Calls Tryz.prog 45 #[.string s] w fun e w' => ∃ A c, e = .returned (.tuple #[.slice A (limbs (dval (bts s))).length c, .int .i64 0]) ∧ NatB w' (.slice A (limbs (dval (bts s))).length c) (dval (bts s)) ∧ Below w.heap.size w w' := k1.mono (fun e w' h => by
    obtain ⟨h | h, hb⟩ := h
    · obtain ⟨_, V, rfl, hV⟩ := h
      obtain ⟨A, c, rfl, hV2⟩ := hV.natv
      exact ⟨A, c, rfl, NatV.b ⟨A, c, rfl, hV2⟩ (by omega), hb⟩
    · exact absurd h3 h.1)
  clear hlen h2 h1 k1 h3
  generalize dval (bts s) = D at *
  by_cases h4 : e < -2000
  · rw [if_pos (.inl h4)]
    go_enter Tryz.func112, Tryz.ntmps112
    go_wp2_with (go_at_call 45; (with_reducible refine k2.mono ?_); clear k2; rintro e1 w1 ⟨A, c, rfl, hV, hb1⟩)
    go_ret2
    exact ⟨rfl, hb1⟩
  by_cases h5 : 2000 < e
  · rw [if_pos (.inr h5)]
    go_enter Tryz.func112, Tryz.ntmps112
    go_wp2_with (go_at_call 45; (with_reducible refine k2.mono ?_); clear k2; rintro e1 w1 ⟨A, c, rfl, hV, hb1⟩)
    go_ret2
    exact ⟨rfl, hb1⟩
  rw [if_neg (by omega)]
  by_cases h6 : D = 0
  · subst h6
    rw [if_pos rfl]
    have hz : (limbs 0).length = 0 := by rw [limbs_zero]; rfl
    rw [hz] at k2
    have k3 := fun w1 => sign_ref neg w1
    clear hl8 hz
    go_enter Tryz.func112, Tryz.ntmps112
    go_wp2_with (first
      | (go_at_call 45; (with_reducible refine k2.mono ?_); clear k2; rintro e1 w1 ⟨A, c, rfl, hV, hb1⟩)
      | (go_at_call 125; (with_reducible refine (k3 _).mono ?_); clear k3; rintro e2 w2 ⟨rfl, rfl⟩))
    go_ret2
    exact ⟨rfl, hb1⟩
  · rw [if_neg h6]
    have hpos : (limbs D).length ≠ 0 := fun q => h6 (limbs_len_zero.1 q)
    have hposI : ¬ ((limbs D).length : Int) = 0 := by omega
    have he1 : -2000 ≤ e := by omega
    have he2 : e ≤ 2000 := by omega
    have hla : (limbs (D * tp e)).length ≤ 900 := by have h1 := limbs_mul D (tp e); have h2 := limbs_tp he2; omega
    have hlb : (limbs (tp (-e))).length ≤ 900 := by have h2 := limbs_tp (e := -e) (by omega); omega
    have ha0 : D * tp e ≠ 0 := Nat.ne_of_gt (Nat.mul_pos (Nat.pos_of_ne_zero h6) (tp_pos e))
    have hb00 : tp (-e) ≠ 0 := Nat.ne_of_gt (tp_pos _)
    have k4 : ∀ (Va Vb : Value) (w1 : World), NatB w1 Va (D * tp e) → NatB w1 Vb (tp (-e)) → Calls Tryz.prog 127 #[Va, Vb] w1 _ := fun Va Vb w1 hA hB => rnearest_calls hA hB hla hlb ha0 hb00
    unfold nearV at k4
    have HL : Hid _ := Lib.hid (And.intro hla hlb)
    clear hla hlb ha0 hb00 hl8
    generalize (limbs D).length = n0 at *
    obtain ⟨R, hR⟩ : ∃ R : Nat × Nat, (if near (D * tp e) (tp (-e)) < 9218868437227405312 then (sgn neg (near (D * tp e) (tp (-e))), 0) else (0, 8)) = R := ⟨_, rfl⟩
    rw [hR]
    have HR : Hid _ := Lib.hid hR
    clear hR
    go_enter Tryz.func112, Tryz.ntmps112
    go_upto_if 35 with (go_at_call 45; (with_reducible refine k2.mono ?_); clear k2; rintro e1 w1 ⟨A, c, rfl, hV, hb1⟩)
    go_cut [8, 10] (fun v8 v10 wx => NatB wx v8 (D * tp e) ∧ NatB wx v10 (tp (-e)) ∧ Below w1.heap.size w1 wx)
    case first =>
      have bA := below_alloc w1 (.cells #[.int .u32 1] 53)
      have vA := natb_one w1 1 (by decide)
      by_cases he0 : 0 ≤ e
      · obtain ⟨n, rfl⟩ : ∃ n : Nat, e = n := ⟨e.toNat, by omega⟩
        have ht1 : tp (n : Int) = 10 ^ n := rfl
        have ht2 : tp (-(n : Int)) = 1 := by unfold tp; rw [show (-(n : Int)).toNat = 0 from by omega]
        have kp := power10_calls n (w1.alloc (.cells #[.int .u32 1] 53)) (by omega)
        have kt := fun W V (hb : Below w1.heap.size w1 W) (hV2 : NatB W V (10 ^ n)) => rtimes_b (hV.below hb) hV2
        have HT : Hid _ := Lib.hid (And.intro ht1 ht2)
        clear ht1 ht2 hV
        go_wp2_with (first
          | (go_at_call 110; (with_reducible refine kp.mono ?_); clear kp; rintro e2 w2 ⟨v2, rfl, hv2, hb2⟩; have hb3 := below_step bA hb2; have kt := kt w2 v2 hb3 hv2)
          | (go_at_call 66; (with_reducible refine kt.mono ?_); clear kt; rintro e3 w3 ⟨v3, rfl, hv3, hb4⟩))
        go_meet
        case rel =>
          obtain ⟨q1, q2⟩ := HT.out
          have q3 := HL.out.1
          rw [q1] at q3
          refine ⟨by rw [q1]; exact hv3.b (by omega), by rw [q2]; exact (vA.below hb2).below hb4, below_step hb3 hb4⟩
      · obtain ⟨n, hn⟩ : ∃ n : Nat, -e = n := ⟨(-e).toNat, by omega⟩
        have ht1 : tp (-e) = 10 ^ n := by unfold tp; rw [hn]; rfl
        have ht2 : tp e = 1 := by unfold tp; rw [show e.toNat = 0 from by omega]
        have hw4 : IntKind.i64.wrap (n : Int) = (n : Int) := by rw [IntKind.wrap_i64]; omega
        have kp := power10_calls n (w1.alloc (.cells #[.int .u32 1] 53)) (by omega)
        have HT : Hid _ := Lib.hid (And.intro ht1 (And.intro ht2 hV))
        clear ht1 ht2 hV
        go_wp2_with (first
          | (go_at_call 110; (with_reducible refine kp.mono ?_); clear kp; rintro e2 w2 ⟨v2, rfl, hv2, hb2⟩; have hb3 := below_step bA hb2))
        go_meet
        case rel =>
          obtain ⟨q1, q2, q3⟩ := HT.out
          refine ⟨by rw [q2, Nat.mul_one]; exact q3.below hb3, by rw [q1]; exact hv2, hb3⟩
    case rest =>
      obtain ⟨hA, hB, hb2⟩ := hcut
      have k4 := k4 _ _ wc hA hB
      have hb3 := below_step hb1 hb2
      clear hA hB HL hV hb1 hb2
      by_cases h7 : near (D * tp e) (tp (-e)) < 9218868437227405312
      · have hR := HR.out
        rw [if_pos h7] at hR
        rw [if_pos h7] at k4
        have k5 := fun w1 => sign_ref neg w1
        have hor := sgn_or neg (N := near (D * tp e) (tp (-e))) (Nat.lt_trans h7 (by decide))
        generalize near (D * tp e) (tp (-e)) = N at *
        clear h7
        generalize hs0 : sgn neg 0 = s0 at *
        generalize hs9 : sgn neg N = s9 at *
        have HR2 : Hid _ := Lib.hid hR
        clear hs0 hs9 hR HR
        go_wp2_with (first
          | (go_at_call 127; (with_reducible refine k4.mono ?_); clear k4; rintro e3 w3 ⟨rfl, hb4⟩)
          | (go_at_call 125; (with_reducible refine (k5 _).mono ?_); clear k5; rintro e4 w4 ⟨rfl, rfl⟩))
        go_ret2
        exact ⟨by rw [← HR2.out]; rfl, below_step hb3 hb4⟩
      · have hR := HR.out
        rw [if_neg h7] at hR
        rw [if_neg h7] at k4
        have HR2 : Hid _ := Lib.hid hR
        clear h7 hR HR
        go_wp2_with (first
          | (go_at_call 127; (with_reducible refine k4.mono ?_); clear k4; rintro e3 w3 ⟨rfl, hb4⟩))
        go_ret2
        exact ⟨by rw [← HR2.out]; rfl, below_step hb3 hb4⟩
end Go.Proofs.YtffncomekbfihaaGreatDoor.Nat
