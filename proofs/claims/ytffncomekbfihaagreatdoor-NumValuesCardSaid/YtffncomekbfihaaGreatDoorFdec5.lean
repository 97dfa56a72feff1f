/- fdec.nearest. -/
import Derived.Test.YtffncomekbfihaaGreatDoorNearMore
import Derived.Deep.CutBlock
import Derived.Deep.DeepCutAuto
namespace Go.Proofs.YtffncomekbfihaaGreatDoor.Nat
open Go.RowKit Go.Shelf
set_option linter.unusedVariables false
theorem times_two (Va Vb : Value) (a b : Nat) (two : Int) (w : World) (hA : NatA w Va a) (hB : NatA w Vb b) (hla : (limbs a).length ≤ 1000) (hlb : (limbs b).length ≤ 1000) (h1 : -32000 ≤ two) (h2 : two ≤ 32000) :
    Calls Tryz.prog 20 #[.agg #[Va, Vb], .int .i64 (-two), .int .i64 0] w fun e w' => ∃ A1 l1 c1 A2 l2 c2, e = .returned (.agg #[.slice A1 (l1 : List Nat).length c1, .slice A2 (l2 : List Nat).length c2]) ∧ NatA w' (.slice A1 l1.length c1) (a * up (-two)) ∧ NatA w' (.slice A2 l2.length c2) (b * up two) ∧ Below w.heap.size w w' := by
  refine (times_calls Va Vb a b (-two) 0 w hA hB hla hlb (by omega) (by omega) (by decide) (by decide)).mono ?_
  rintro e w' ⟨Va', Vb', rfl, h3, h4, hb⟩
  rw [show tp 0 = 1 from rfl, Nat.mul_one] at h3
  rw [show tp (-0) = 1 from rfl, Nat.mul_one, Int.neg_neg] at h4
  obtain ⟨A1, l1, c1, rfl, k1⟩ := h3
  obtain ⟨A2, l2, c2, rfl, k2⟩ := h4
  exact ⟨A1, l1, c1, A2, l2, c2, rfl, ⟨_, _, _, rfl, k1⟩, ⟨_, _, _, rfl, k2⟩, hb⟩
theorem limbs_up {a : Nat} {e : Int} (ha : (limbs a).length ≤ 1000) (h : e ≤ 32000) : (limbs (a * up e)).length ≤ 3000 := limbs_shift (n := e.toNat) ha (by omega)
theorem cmp_lt {a b : Nat} (h : a < b) : cmpI a b = -1 := if_pos h
theorem cmp_gt {a b : Nat} (h : b < a) : cmpI a b = 1 := by unfold cmpI; rw [if_neg (by omega), if_pos h]
theorem cmp_eq {a b : Nat} (h : a = b) : cmpI a b = 0 := by unfold cmpI; rw [if_neg (by omega), if_neg (by omega)]
theorem cmp_nlt {a b : Nat} (h : ¬ a < b) : ¬ cmpI a b < 0 := by unfold cmpI; rw [if_neg h]; split <;> decide
set_option maxHeartbeats 8000000 in
set_option maxRecDepth 100000 in
theorem nearest_calls (Va Vb : Value) (a b : Nat) (w : World) (hA : NatA w Va a) (hB : NatA w Vb b) (hla : (limbs a).length ≤ 900) (hlb : (limbs b).length ≤ 900) (ha0 : a ≠ 0) (hb0 : b ≠ 0) :
    Calls Tryz.prog 64 #[.agg #[Va, Vb]] w fun e w' => e = .returned (nearV a b) ∧ Below w.heap.size w w' := by
  obtain ⟨A1, l1, c1, rfl, hG1, hO1, hv1⟩ := hA
  obtain ⟨A2, l2, c2, rfl, hG2, hO2, hv2⟩ := hB
  have hA0 : NatA w (.slice A1 l1.length c1) a := ⟨_, _, _, rfl, hG1, hO1, hv1⟩
  have hB0 : NatA w (.slice A2 l2.length c2) b := ⟨_, _, _, rfl, hG2, hO2, hv2⟩
  clear hG1 hO1 hv1 hG2 hO2 hv2
  obtain ⟨RV, hRV⟩ : ∃ RV, nearV a b = RV := ⟨_, rfl⟩
  rw [hRV]
  have HRV : Hid _ := Lib.hid hRV
  clear hRV
  have bx0 := br_new w (.slice A1 l1.length c1) (.slice A2 l2.length c2)
  have hbA := below_alloc w (.cells #[.slice A1 l1.length c1, .slice A2 l2.length c2] 52)
  have ba := bl_limbs hla
  have bb := bl_limbs hlb
  obtain ⟨e0, he0⟩ : ∃ e0, lg0 a b = e0 := ⟨_, rfl⟩
  have hsub : (bl a : Int) - (bl b : Int) = e0 := he0
  have hw0 : IntKind.i64.wrap e0 = e0 := by rw [IntKind.wrap_i64]; omega
  have hw1 : IntKind.i64.wrap (-e0) = -e0 := by rw [IntKind.wrap_i64]; omega
  have r1 : -32000 ≤ e0 := by omega
  have r2 : e0 ≤ 32000 := by omega
  have k1 := fun W (hb : Below w.heap.size w W) => bits_a (hA0.below hb)
  have k2 := fun W (hb : Below w.heap.size w W) => bits_a (hB0.below hb)
  have k3 := fun two W (hb : Below w.heap.size w W) (h1 : -32000 ≤ two) (h2 : two ≤ 32000) => times_two _ _ a b two W (hA0.below hb) (hB0.below hb) (by omega) (by omega) h1 h2
  clear ba bb
  go_enter Tryz.func64, Tryz.ntmps64
  go_upto_region 1 with fail
  go_cut [4] (fun v4 wx => v4 = .int .i64 e0 ∧ BR wx w.heap.size (.slice A1 l1.length c1) (.slice A2 l2.length c2) ∧ Below w.heap.size w wx)
  case first =>
    have q0 := bx0.c0
    have q1 := bx0.c1
    have bx0d := bx0.drew
    have hbAd := hbA.drew
    go_region_law (first
      | (go_simp; go_at_call 90; (first | (with_reducible refine (k1 _ hbA).mono ?_) | (with_reducible refine (k1 _ hbAd).mono ?_)); rintro e1 w1 ⟨rfl, hb1⟩; (first | have bx1 := bx0.below hb1 | have bx1 := bx0d.below hb1); have q2 := bx1.c1; (first | have hbB := below_step hbA hb1 | have hbB := below_step hbAd hb1))
      | (go_simp; go_at_call 90; (with_reducible refine (k2 _ hbB).mono ?_); rintro e2 w2 ⟨rfl, hb2⟩; have bx2 := bx1.below hb2; have hbC := below_step hbB hb2))
    all_goals
      go_wp2_with fail
      go_meet
      case rel => exact ⟨rfl, bx2, hbC⟩
  case rest =>
    obtain ⟨rfl, bx1, hbC⟩ := hcut
    clear k1 k2 bx0 hbA hsub
    have k4 := k3 e0 wc hbC r1 r2
    have q0 := bx1.c0
    have q1 := bx1.c1
    obtain ⟨e, he⟩ : ∃ e, lg a b = e := ⟨_, rfl⟩
    have hee : e = if a * up (-e0) < b * up e0 then e0 - 1 else e0 := by rw [← he, ← he0]; rfl
    have hre : -32001 ≤ e ∧ e ≤ 32000 := by rw [hee]; split <;> omega
    have HEE : Hid _ := Lib.hid hee
    have HE : Hid _ := Lib.hid he
    clear hee he
    go_upto_if 27 with (first
      | (go_at_call 20; (with_reducible refine k4.mono ?_); clear k4; rintro e1 w1 ⟨A3, l3, c3, A4, l4, c4, rfl, hA3, hB3, hb1⟩)
      | (go_at_call 23; refine (cmp_a (hA3.below (below_alloc w1 _)) (hB3.below (below_alloc w1 _))).mono ?_; rintro e2 w2 ⟨rfl, hb2⟩))
    go_cut [4] (fun v4 wx => v4 = .int .i64 e ∧ wx = w2)
    case first =>
      have hee := HEE.out
      by_cases hlt : a * up (-e0) < b * up e0
      · rw [if_pos hlt] at hee
        have hc := cmp_lt hlt
        have hw2 : IntKind.i64.wrap (e0 - 1) = e := by rw [IntKind.wrap_i64]; omega
        clear hee
        go_wp2
        go_meet
        case rel => exact ⟨rfl, rfl⟩
      · rw [if_neg hlt] at hee
        have hc := cmp_nlt hlt
        subst hee
        go_wp2
        go_meet
        case rel => exact ⟨rfl, rfl⟩
    case rest =>
      obtain ⟨rfl, rfl⟩ := hcut
      have bx2 := ((bx1.below hb1).alloc (.cells #[.slice A3 l3.length c3, .slice A4 l4.length c4] 52)).below hb2
      have hbD := below_step hbC hb1
      have hbE := below_step (hbD.alloc hbD.size (.cells #[.slice A3 l3.length c3, .slice A4 l4.length c4] 52)) hb2
      clear hb2 bx1 q0 q1 hbD hb1 hA3 hB3 hbC hw0 hw1
      have q0 := bx2.c0
      have q1 := bx2.c1
      obtain ⟨u, hu⟩ : ∃ u, uOf e = u := ⟨_, rfl⟩
      have hu2 : u = max (e - 52) (-1074) := by rw [← hu]; rfl
      have hu3 : -1074 ≤ u ∧ u ≤ 32000 := by omega
      have hw3 : IntKind.i64.wrap (e - 52) = e - 52 := by rw [IntKind.wrap_i64]; omega
      have hw4 : IntKind.i64.wrap (-u) = -u := by rw [IntKind.wrap_i64]; omega
      have hmx : max (e - 52) (-1074) = u := hu2.symm
      have k4 := k3 u wc hbE (by omega) (by omega)
      have hel := HE.out
      have hQ : nq a b = a * up (-u) / (b * up u) := by unfold nq; rw [hel, hu]
      have hD : nd a b = b * up u := by unfold nd; rw [hel, hu]
      have hR : nr a b = a * up (-u) % (b * up u) := by unfold nr; rw [hel, hu]
      have hnq : nq a b ≤ 9007199254740992 := Nat.le_trans nq_le (nn_le ha0 hb0)
      have hd0 : b * up u ≠ 0 := by rw [← hD]; exact Nat.ne_of_gt (nd_pos hb0)
      have hs1 : (limbs (a * up (-u))).length ≤ 3500 := by have := limbs_up (a := a) (e := -u) (by omega) (by omega); omega
      have hs2 : (limbs (b * up u)).length ≤ 3500 := by have := limbs_up (a := b) (e := u) (by omega) (by omega); omega
      have hq64 : a * up (-u) / (b * up u) < 18446744073709551616 := by rw [← hQ]; omega
      have HN : Hid _ := Lib.hid hel
      have HU : Hid _ := Lib.hid hu
      have HQ : Hid _ := Lib.hid hQ
      have HR : Hid _ := Lib.hid hR
      have HD : Hid _ := Lib.hid hD
      clear hu2 hu k3 hel hQ hR hD HEE
      go_upto_region 8 with (first
        | (go_at_call 20; (with_reducible refine k4.mono ?_); clear k4; rintro e3 w3 ⟨A5, l5, c5, A6, l6, c6, rfl, hA5, hB5, hb3⟩)
        | (go_at_call 21; refine (cut_calls _ _ _ _ w3 hA5 hB5 hs1 hs2 hd0).mono ?_; rintro e4 w4 ⟨vq, rfl, hvq, hb4⟩; rw [← HQ.out] at hvq; rw [← HR.out, ← HD.out])
        | (go_at_call 106; refine (small_calls _ _ w4 hvq (by omega)).mono ?_; rintro e5 w5 ⟨rfl, hb5⟩))
      have hbF := below_step (below_step (below_step hbE hb3) hb4) hb5
      clear hb3 hb4 hb5 hvq hA5 hB5 bx2 hbE q0 q1 hw3 hw4 hmx HQ HR HD hs1 hs2 hd0 hq64
      obtain ⟨B, hBd⟩ : ∃ B : Bool, decide (nd a b < 2 * nr a b ∨ (2 * nr a b = nd a b ∧ nq a b % 2 = 1)) = B := ⟨_, rfl⟩
      go_cut [53] (fun v53 wx => v53 = .bool B ∧ wx = w5)
      case first =>
        have hand := (bits_nat .u64 64 (by decide) (fun n h0 h1 => by rw [IntKind.wrap_u64]; omega) (nq a b) 1 (by omega) (by decide)).1
        rw [Nat.and_one_is_mod] at hand
        have hand2 : Go.bits BinOp.and IntKind.u64 ((nq a b : Nat) : Int) 1 = ((nq a b % 2 : Nat) : Int) := hand
        clear hand
        rcases Nat.lt_trichotomy (nd a b) (2 * nr a b) with h | h | h
        · rw [decide_eq_true (p := nd a b < 2 * nr a b ∨ (2 * nr a b = nd a b ∧ nq a b % 2 = 1)) (.inl h)] at hBd
          have hc := cmp_gt h
          clear h hand2
          have HBd : Hid _ := Lib.hid hBd
          clear hBd
          go_wp2
          go_meet
          case rel => exact ⟨congrArg Value.bool HBd.out, rfl⟩
        · have hc := cmp_eq h.symm
          rcases Nat.mod_two_eq_zero_or_one (nq a b) with h2 | h2
          · rw [decide_eq_false (p := nd a b < 2 * nr a b ∨ (2 * nr a b = nd a b ∧ nq a b % 2 = 1)) (by omega)] at hBd
            rw [h2] at hand2
            clear h h2
            have HBd : Hid _ := Lib.hid hBd
            clear hBd
            go_wp2
            go_meet
            case rel => exact ⟨congrArg Value.bool HBd.out, rfl⟩
          · rw [decide_eq_true (p := nd a b < 2 * nr a b ∨ (2 * nr a b = nd a b ∧ nq a b % 2 = 1)) (.inr ⟨h.symm, h2⟩)] at hBd
            rw [h2] at hand2
            clear h h2
            have HBd : Hid _ := Lib.hid hBd
            clear hBd
            go_wp2
            go_meet
            case rel => exact ⟨congrArg Value.bool HBd.out, rfl⟩
        · rw [decide_eq_false (p := nd a b < 2 * nr a b ∨ (2 * nr a b = nd a b ∧ nq a b % 2 = 1)) (by omega)] at hBd
          have hc := cmp_lt h
          clear h hand2
          have HBd : Hid _ := Lib.hid hBd
          clear hBd
          go_wp2
          go_meet
          case rel => exact ⟨congrArg Value.bool HBd.out, rfl⟩
      case rest =>
        obtain ⟨rfl, rfl⟩ := hcut
        go_upto_if 53 with fail
        have hnn := nn_le ha0 hb0
        go_cut [9] (fun v9 wx => v9 = .int .u64 ((nn a b : Nat) : Int) ∧ wx = wc)
        case first =>
          by_cases hup : nd a b < 2 * nr a b ∨ (2 * nr a b = nd a b ∧ nq a b % 2 = 1)
          · rw [decide_eq_true hup] at hBd
            subst hBd
            have h1 := nn_up hup
            have hw : IntKind.u64.wrap ((nq a b : Nat) + 1 : Int) = ((nn a b : Nat) : Int) := by rw [IntKind.wrap_u64]; omega
            clear hup h1
            go_wp2
            go_meet
            case rel => exact ⟨rfl, rfl⟩
          · rw [decide_eq_false hup] at hBd
            subst hBd
            have h1 := nn_down hup
            have H1 : Hid _ := Lib.hid h1
            clear hup h1
            go_wp2
            go_meet
            case rel => exact ⟨by rw [H1.out], rfl⟩
        case rest =>
          obtain ⟨rfl, rfl⟩ := hcut
          clear hnq
          have heq : near a b = (u + 1074).toNat * 4503599627370496 + nn a b := by rw [near_eq, HN.out, HU.out]
          have hlow := near_low ha0 hb0
          clear hBd
          have hRV := HRV.out
          unfold nearV at hRV
          generalize near a b = N at *
          generalize nn a b = m at *
          by_cases hm : m < 4503599627370496
          · have hmI : (m : Int) < 4503599627370496 := by omega
            rw [hlow hm, if_pos (by omega)] at hRV
            have HR2 : Hid _ := Lib.hid hRV
            clear hlow heq hm hRV HRV
            go_wp2
            go_ret2
            exact ⟨congrArg Ending.returned HR2.out, hbF⟩
          · have hmI : ¬ (m : Int) < 4503599627370496 := by omega
            clear hlow
            by_cases hu971 : u ≤ 971
            · obtain ⟨v, hv⟩ : ∃ v : Nat, u + 1074 = v := ⟨(u + 1074).toNat, by omega⟩
              have hv2 : v ≤ 2045 := by omega
              have hw5 : IntKind.i64.wrap (v : Int) = (v : Int) := by rw [IntKind.wrap_i64]; omega
              have hw6 : IntKind.u64.wrap (v : Int) = (v : Int) := by rw [IntKind.wrap_u64]; omega
              have hw7 : IntKind.u64.wrap ((v : Int) * 4503599627370496) = (v : Int) * 4503599627370496 := by rw [IntKind.wrap_u64]; omega
              have hN : (v : Int) * 4503599627370496 + (m : Int) = (N : Int) := by rw [heq, hv]; omega
              have hw8 : IntKind.u64.wrap (N : Int) = (N : Int) := by rw [IntKind.wrap_u64]; omega
              clear heq
              by_cases hK : N < 9218868437227405312
              · have hKI : (N : Int) < 9218868437227405312 := by omega
                rw [if_pos hK] at hRV
                have HR2 : Hid _ := Lib.hid hRV
                clear hRV HRV
                go_wp2
                go_ret2
                exact ⟨congrArg Ending.returned HR2.out, hbF⟩
              · have hKI : ¬ (N : Int) < 9218868437227405312 := by omega
                rw [if_neg hK] at hRV
                have HR2 : Hid _ := Lib.hid hRV
                clear hRV HRV
                go_wp2
                go_ret2
                exact ⟨congrArg Ending.returned HR2.out, hbF⟩
            · rw [if_neg (by omega)] at hRV
              have HR2 : Hid _ := Lib.hid hRV
              clear heq hRV HRV
              go_wp2
              go_ret2
              exact ⟨congrArg Ending.returned HR2.out, hbF⟩
end Go.Proofs.YtffncomekbfihaaGreatDoor.Nat
