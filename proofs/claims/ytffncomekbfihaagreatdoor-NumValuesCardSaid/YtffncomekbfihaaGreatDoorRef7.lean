/- glossatorref06.nearest. -/
import Derived.Test.YtffncomekbfihaaGreatDoorRef6
import Derived.Deep.CutBlock
import Derived.Deep.DeepCutAuto
namespace Go.Proofs.YtffncomekbfihaaGreatDoor.Nat
open Go.RowKit Go.Shelf
set_option linter.unusedVariables false
set_option linter.unusedSimpArgs false
theorem limbs_63 {b : Nat} (h : (limbs b).length ≤ 3000) : (limbs (b * 2 ^ 63)).length ≤ 4000 := by
  have h1 := limbs_mul b (2 ^ 63)
  have h2 : (limbs (2 ^ 63)).length ≤ 2 := limbs_pow (v := 2 ^ 63) (e := 63) (L := 2) (Nat.le_refl _) (by decide)
  omega
theorem quot_ok {A B : Nat} (hB : B ≠ 0) (h : A / B ≤ 9007199254740992) : A < B * 2 ^ 63 := by
  have h1 := Nat.div_add_mod A B
  have h2 : A % B < B := Nat.mod_lt _ (Nat.pos_of_ne_zero hB)
  have h3 : B * (A / B) ≤ B * 9007199254740992 := Nat.mul_le_mul_left _ h
  have h4 : B * 2 ^ 63 = B * 9223372036854775808 := rfl
  omega
set_option maxHeartbeats 8000000 in
set_option maxRecDepth 100000 in
theorem rnearest_calls {V1 V2 : Value} {a b : Nat} {w : World} (hA : NatB w V1 a) (hB : NatB w V2 b) (hla : (limbs a).length ≤ 900) (hlb : (limbs b).length ≤ 900) (ha0 : a ≠ 0) (hb0 : b ≠ 0) :
    Calls Tryz.prog 127 #[V1, V2] w fun e w' => e = .returned (nearV a b) ∧ Below w.heap.size w w' := by
  have hbA := Below.refl w.heap.size w
  obtain ⟨RV, hRV⟩ : ∃ RV, nearV a b = RV := ⟨_, rfl⟩
  rw [hRV]
  have HRV : Hid _ := Lib.hid hRV
  clear hRV
  have ba := bl_limbs hla
  have bb := bl_limbs hlb
  obtain ⟨e0, he0⟩ : ∃ e0, lg0 a b = e0 := ⟨_, rfl⟩
  have hsub : (bl a : Int) - (bl b : Int) = e0 := he0
  have hw0 : IntKind.i64.wrap e0 = e0 := by rw [IntKind.wrap_i64]; omega
  have r1 : -32000 ≤ e0 := by omega
  have r2 : e0 ≤ 32000 := by omega
  have k1 := fun W (hb : Below w.heap.size w W) => rbits_a (hA.below hb).a (by omega)
  have k2 := fun W (hb : Below w.heap.size w W) => rbits_a (hB.below hb).a (by omega)
  have k3 := fun W (hb : Below w.heap.size w W) => over_calls e0 (hA.below hb) (hB.below hb) (by omega) (by omega) r1 r2
  obtain ⟨B0, hB0⟩ : ∃ B0, decide (geP a b e0) = B0 := ⟨_, rfl⟩
  rw [hB0] at k3
  obtain ⟨e, he⟩ : ∃ e, lg a b = e := ⟨_, rfl⟩
  have hee : e = if B0 = true then e0 else e0 - 1 := by
    rw [← he, ← hB0]
    unfold lg
    rw [he0]
    by_cases h : a * up (-e0) < b * up e0
    · rw [if_pos h, if_neg (by rw [decide_eq_true_iff]; exact Nat.not_le_of_lt h)]
    · rw [if_neg h, if_pos (by rw [decide_eq_true_iff]; exact Nat.le_of_not_lt h)]
  have hre : -32001 ≤ e ∧ e ≤ 32000 := by rw [hee]; split <;> omega
  have HEE : Hid _ := Lib.hid hee
  have HE : Hid _ := Lib.hid he
  have HL : Hid _ := Lib.hid (And.intro hla hlb)
  clear hee he ba bb he0 hB0 hla hlb
  go_enter Tryz.func127, Tryz.ntmps127
  go_upto_if 20 with (first
    | (go_at_call 68; (with_reducible refine (k1 _ hbA).mono ?_); clear k1; rintro e1 w1 ⟨rfl, hb1⟩)
    | (go_at_call 68; (with_reducible refine (k2 _ hb1).mono ?_); clear k2; rintro e2 w2 ⟨rfl, hb2⟩; have hb2 := below_step hb1 hb2)
    | (go_at_call 140; (with_reducible refine (k3 _ hb2).mono ?_); clear k3; rintro e3 w3 ⟨rfl, hb3⟩; have hb3 := below_step hb2 hb3))
  go_cut [6] (fun v6 wx => v6 = .int .i64 e ∧ wx = w3)
  case first =>
    have hee := HEE.out
    cases B0 with
    | true =>
      rw [if_pos rfl] at hee
      subst hee
      go_wp2
      go_meet
      case rel => exact ⟨rfl, rfl⟩
    | false =>
      rw [if_neg (by decide)] at hee
      have hw2 : IntKind.i64.wrap (e0 - 1) = e := by rw [IntKind.wrap_i64]; omega
      clear hee
      go_wp2
      go_meet
      case rel => exact ⟨rfl, rfl⟩
  case rest =>
    obtain ⟨rfl, rfl⟩ := hcut
    clear hsub hw0 r1 r2 HEE hbA
    obtain ⟨u, hu⟩ : ∃ u, uOf e = u := ⟨_, rfl⟩
    have hu2 : u = max (e - 52) (-1074) := by rw [← hu]; rfl
    have hu3 : -1074 ≤ u ∧ u ≤ 32000 := by omega
    have hw3 : IntKind.i64.wrap (e - 52) = e - 52 := by rw [IntKind.wrap_i64]; omega
    have hmx : max (e - 52) (-1074) = u := hu2.symm
    have hel := HE.out
    have hQ : nq a b = a * up (-u) / (b * up u) := by unfold nq; rw [hel, hu]
    have hD : nd a b = b * up u := by unfold nd; rw [hel, hu]
    have hR : nr a b = a * up (-u) % (b * up u) := by unfold nr; rw [hel, hu]
    have hnq : nq a b ≤ 9007199254740992 := Nat.le_trans nq_le (nn_le ha0 hb0)
    have hd0 : b * up u ≠ 0 := by rw [← hD]; exact Nat.ne_of_gt (nd_pos hb0)
    have hl0 := HL.out
    have hs1 : (limbs (a * up (-u))).length ≤ 3000 := limbs_up (a := a) (e := -u) (by omega) (by omega)
    have hs2 : (limbs (b * up u)).length ≤ 3000 := limbs_up (a := b) (e := u) (by omega) (by omega)
    have hqk : a * up (-u) < b * up u * 2 ^ 63 := quot_ok hd0 (by rw [← hQ]; exact hnq)
    have hs3 := limbs_63 hs2
    have hrl : (limbs (a * up (-u) % (b * up u))).length ≤ 3000 := Nat.le_trans (limbs_len_mono (Nat.mod_le _ _)) hs1
    have HK : Hid _ := Lib.hid (And.intro hel (And.intro hu (And.intro hQ (And.intro hR (And.intro hD (And.intro hs1 (And.intro hs2 (And.intro hs3 (And.intro hqk hrl)))))))))
    clear hu2 hu hel hQ hR hD HE HL hs3 hd0 hl0 hqk hrl
    go_upto_if 27 with fail
    clear hmx hw3
    go_cut [0, 1] (fun v0 v1 wx => NatB wx v0 (a * up (-u)) ∧ NatB wx v1 (b * up u) ∧ Below w.heap.size w wx)
    case first =>
      have hA3 := hA.below hb3
      have hB3 := hB.below hb3
      clear hA hB
      by_cases hu0 : 0 ≤ u
      · obtain ⟨n, rfl⟩ : ∃ n : Nat, u = n := ⟨u.toNat, by omega⟩
        have hu1 : up (n : Int) = 2 ^ n := rfl
        have hup : up (-(n : Int)) = 1 := by unfold up; rw [show (-(n : Int)).toNat = 0 from by omega]
        have k1 := two_calls n wc (by omega)
        have k2 := fun W V (hb : Below wc.heap.size wc W) (hV : NatB W V (2 ^ n)) => rtimes_b (hB3.below hb) hV
        have HU : Hid _ := Lib.hid (And.intro hu1 (And.intro hup (And.intro hs1 hs2)))
        have HA3 : Hid _ := Lib.hid hA3
        clear hu1 hup hA3 hB3 hs1 hs2
        go_wp2_with (first
          | (go_at_call 67; (with_reducible refine k1.mono ?_); clear k1; rintro e1 w1 ⟨v1, rfl, hv1, hb4⟩; have k2 := k2 w1 v1 hb4 hv1)
          | (go_at_call 66; (with_reducible refine k2.mono ?_); clear k2; rintro e2 w2 ⟨v2, rfl, hv2, hb5⟩))
        go_meet
        case rel =>
          have hb6 := below_step hb4 hb5
          obtain ⟨q1, q2, q3, q4⟩ := HU.out
          refine ⟨by rw [q2, Nat.mul_one]; exact HA3.out.below hb6, by rw [q1]; exact hv2.b (by rw [q1] at q4; omega), below_step hb3 hb6⟩
      · obtain ⟨n, hn⟩ : ∃ n : Nat, -u = n := ⟨(-u).toNat, by omega⟩
        have hu1 : up (-u) = 2 ^ n := by unfold up; rw [hn]; rfl
        have hup : up u = 1 := by unfold up; rw [show u.toNat = 0 from by omega]
        have hw4 : IntKind.i64.wrap (n : Int) = (n : Int) := by rw [IntKind.wrap_i64]; omega
        have k1 := two_calls n wc (by omega)
        have k2 := fun W V (hb : Below wc.heap.size wc W) (hV : NatB W V (2 ^ n)) => rtimes_b (hA3.below hb) hV
        have HU : Hid _ := Lib.hid (And.intro hu1 (And.intro hup (And.intro hs1 hs2)))
        have HB3 : Hid _ := Lib.hid hB3
        clear hu1 hup hA3 hB3 hs1 hs2
        go_wp2_with (first
          | (go_at_call 67; (with_reducible refine k1.mono ?_); clear k1; rintro e1 w1 ⟨v1, rfl, hv1, hb4⟩; have k2 := k2 w1 v1 hb4 hv1)
          | (go_at_call 66; (with_reducible refine k2.mono ?_); clear k2; rintro e2 w2 ⟨v2, rfl, hv2, hb5⟩))
        go_meet
        case rel =>
          have hb6 := below_step hb4 hb5
          obtain ⟨q1, q2, q3, q4⟩ := HU.out
          refine ⟨by rw [q1]; exact hv2.b (by rw [q1] at q3; omega), by rw [q2, Nat.mul_one]; exact HB3.out.below hb6, below_step hb3 hb6⟩
    case rest =>
      obtain ⟨hA1, hB1, hb4⟩ := hcut
      clear hA hB hb3 hs1 hs2
      obtain ⟨g1, g2, g3, g4, g5, g6, g7, g8, g9, g10⟩ := HK.out
      have kq := quot_calls hA1 hB1 (by omega) g9 g8
      rw [← g3, ← g4] at kq
      have hten : (limbs 2).length ≤ 1 := limbs_pow (v := 2) (e := 1) (L := 1) (by decide) (by decide)
      have hr2 : (limbs (nr a b * 2)).length ≤ 10000 := by rw [g4]; exact Nat.le_trans (limbs_mul _ _) (by omega)
      have kt := fun W V (hV : NatB W V (nr a b)) => rtimes_b (hV.below (below_alloc W (.cells #[.int .u32 2] 53))) (natb_one W 2 (by decide))
      have kc := fun W V (hb : Below wc.heap.size wc W) (hV : OwnN W V (nr a b * 2)) => rcmp_a (hV.b hr2).a (hB1.below hb).a
      rw [← g5] at kc
      clear g1 g2 g3 g4 g5 g6 g7 g8 g9 g10 hten
      go_upto_region 10 with (first
        | (go_at_call 71; (with_reducible refine kq.mono ?_); clear kq; rintro e4 w4 ⟨vr, rfl, hvr, hb5⟩; have kt := kt w4 vr hvr)
        | (go_at_call 66; (with_reducible refine kt.mono ?_); clear kt; rintro e5 w5 ⟨v5, rfl, hv5, hb6⟩; have hb7 := below_step hb5 (below_step (below_alloc w4 _) hb6); have kc := kc w5 v5 hb7 hv5)
        | (go_at_call 70; (with_reducible refine kc.mono ?_); clear kc; rintro e6 w6 ⟨rfl, hb8⟩))
      have hbF := below_step hb4 (below_step hb7 hb8)
      clear hb4 hb5 hb6 hb7 hb8 hvr hv5 hA1 hB1
      obtain ⟨B, hBd⟩ : ∃ B : Bool, decide (nd a b < 2 * nr a b ∨ (2 * nr a b = nd a b ∧ nq a b % 2 = 1)) = B := ⟨_, rfl⟩
      rw [Nat.mul_comm (nr a b) 2]
      go_cut [58] (fun v58 wx => v58 = .bool B ∧ wx = w6)
      case first =>
        have hand := (bits_nat .u64 64 (by decide) (fun n h0 h1 => by rw [IntKind.wrap_u64]; omega) (nq a b) 1 (by omega) (by decide)).1
        rw [Nat.and_one_is_mod] at hand
        have hand2 : Go.bits BinOp.and IntKind.u64 ((nq a b : Nat) : Int) 1 = ((nq a b % 2 : Nat) : Int) := hand
        clear hand
        rcases Nat.lt_trichotomy (nd a b) (2 * nr a b) with h | h | h
        · rw [decide_eq_true (p := nd a b < 2 * nr a b ∨ (2 * nr a b = nd a b ∧ nq a b % 2 = 1)) (.inl h)] at hBd
          have hc := cmp_gt h
          clear h hand2
          have HBd : Hid _ := Lib.hid hBd
          clear hBd
          go_wp2
          go_meet
          case rel => exact ⟨congrArg Value.bool HBd.out, rfl⟩
        · have hc := cmp_eq h.symm
          rcases Nat.mod_two_eq_zero_or_one (nq a b) with h2 | h2
          · rw [decide_eq_false (p := nd a b < 2 * nr a b ∨ (2 * nr a b = nd a b ∧ nq a b % 2 = 1)) (by omega)] at hBd
            rw [h2] at hand2
            clear h h2
            have HBd : Hid _ := Lib.hid hBd
            clear hBd
            go_wp2
            go_meet
            case rel => exact ⟨congrArg Value.bool HBd.out, rfl⟩
          · rw [decide_eq_true (p := nd a b < 2 * nr a b ∨ (2 * nr a b = nd a b ∧ nq a b % 2 = 1)) (.inr ⟨h.symm, h2⟩)] at hBd
            rw [h2] at hand2
            clear h h2
            have HBd : Hid _ := Lib.hid hBd
            clear hBd
            go_wp2
            go_meet
            case rel => exact ⟨congrArg Value.bool HBd.out, rfl⟩
        · rw [decide_eq_false (p := nd a b < 2 * nr a b ∨ (2 * nr a b = nd a b ∧ nq a b % 2 = 1)) (by omega)] at hBd
          have hc := cmp_lt h
          clear h hand2
          have HBd : Hid _ := Lib.hid hBd
          clear hBd
          go_wp2
          go_meet
          case rel => exact ⟨congrArg Value.bool HBd.out, rfl⟩
      case rest =>
        obtain ⟨rfl, rfl⟩ := hcut
        go_upto_if 58 with fail
        have hnn := nn_le ha0 hb0
        go_cut [8] (fun v8 wx => v8 = .int .u64 ((nn a b : Nat) : Int) ∧ wx = wc)
        case first =>
          by_cases hup : nd a b < 2 * nr a b ∨ (2 * nr a b = nd a b ∧ nq a b % 2 = 1)
          · rw [decide_eq_true hup] at hBd
            subst hBd
            have h1 := nn_up hup
            have hw : IntKind.u64.wrap ((nq a b : Nat) + 1 : Int) = ((nn a b : Nat) : Int) := by rw [IntKind.wrap_u64]; omega
            clear hup h1
            go_wp2
            go_meet
            case rel => exact ⟨rfl, rfl⟩
          · rw [decide_eq_false hup] at hBd
            subst hBd
            have h1 := nn_down hup
            have H1 : Hid _ := Lib.hid h1
            clear hup h1
            go_wp2
            go_meet
            case rel => exact ⟨by rw [H1.out], rfl⟩
        case rest =>
          obtain ⟨rfl, rfl⟩ := hcut
          clear hnq
          have heq : near a b = (u + 1074).toNat * 4503599627370496 + nn a b := by rw [near_eq, HK.out.1, HK.out.2.1]
          have hlow := near_low ha0 hb0
          clear hBd HK hr2
          have hRV := HRV.out
          unfold nearV at hRV
          generalize near a b = N at *
          generalize nn a b = m at *
          by_cases hm : m < 4503599627370496
          · have hmI : (m : Int) < 4503599627370496 := by omega
            have hmN : ((m : Int) == 9007199254740992) = false := beq_eq_false_iff_ne.2 (by omega)
            rw [hlow hm, if_pos (by omega)] at hRV
            have HR2 : Hid _ := Lib.hid hRV
            clear hlow heq hm hRV HRV
            go_wp2
            go_ret2
            exact ⟨congrArg Ending.returned HR2.out, hbF⟩
          · have hmI : ¬ (m : Int) < 4503599627370496 := by omega
            clear hlow
            by_cases hm2 : m = 9007199254740992
            · subst hm2
              have hw5 : IntKind.i64.wrap (u + 1) = u + 1 := by rw [IntKind.wrap_i64]; omega
              by_cases hu971 : u + 1 ≤ 971
              · obtain ⟨v, hv⟩ : ∃ v : Nat, u + 1 + 1074 = v := ⟨(u + 1 + 1074).toNat, by omega⟩
                have hv2 : v ≤ 2045 := by omega
                have hw6 : IntKind.i64.wrap (v : Int) = (v : Int) := by rw [IntKind.wrap_i64]; omega
                have hw7 : IntKind.u64.wrap (v : Int) = (v : Int) := by rw [IntKind.wrap_u64]; omega
                have hw8 : IntKind.u64.wrap ((v : Int) * 4503599627370496) = (v : Int) * 4503599627370496 := by rw [IntKind.wrap_u64]; omega
                have hN : (v : Int) * 4503599627370496 + 4503599627370496 = (N : Int) := by omega
                have hw9 : IntKind.u64.wrap (N : Int) = (N : Int) := by rw [IntKind.wrap_u64]; omega
                rw [if_pos (by omega)] at hRV
                have HR2 : Hid _ := Lib.hid hRV
                have hu9 : ¬ 971 < u + 1 := by omega
                clear heq hRV HRV
                go_wp2
                go_ret2
                exact ⟨congrArg Ending.returned HR2.out, hbF⟩
              · rw [if_neg (by omega)] at hRV
                have HR2 : Hid _ := Lib.hid hRV
                have hu9 : 971 < u + 1 := by omega
                clear heq hRV HRV hu971
                go_wp2
                go_ret2
                exact ⟨congrArg Ending.returned HR2.out, hbF⟩
            · have hmN : ((m : Int) == 9007199254740992) = false := beq_eq_false_iff_ne.2 (by omega)
              by_cases hu971 : u ≤ 971
              · obtain ⟨v, hv⟩ : ∃ v : Nat, u + 1074 = v := ⟨(u + 1074).toNat, by omega⟩
                have hv2 : v ≤ 2045 := by omega
                have hw6 : IntKind.i64.wrap (v : Int) = (v : Int) := by rw [IntKind.wrap_i64]; omega
                have hw7 : IntKind.u64.wrap (v : Int) = (v : Int) := by rw [IntKind.wrap_u64]; omega
                have hw8 : IntKind.u64.wrap ((v : Int) * 4503599627370496) = (v : Int) * 4503599627370496 := by rw [IntKind.wrap_u64]; omega
                have hN : (v : Int) * 4503599627370496 + (m : Int) = (N : Int) := by rw [heq, hv]; omega
                have hw9 : IntKind.u64.wrap (N : Int) = (N : Int) := by rw [IntKind.wrap_u64]; omega
                rw [if_pos (by omega)] at hRV
                have HR2 : Hid _ := Lib.hid hRV
                have hu9 : ¬ 971 < u := by omega
                clear heq hRV HRV hm2
                go_wp2
                go_ret2
                exact ⟨congrArg Ending.returned HR2.out, hbF⟩
              · rw [if_neg (by omega)] at hRV
                have HR2 : Hid _ := Lib.hid hRV
                have hu9 : 971 < u := by omega
                clear heq hRV HRV hm2
                go_wp2
                go_ret2
                exact ⟨congrArg Ending.returned HR2.out, hbF⟩
end Go.Proofs.YtffncomekbfihaaGreatDoor.Nat
