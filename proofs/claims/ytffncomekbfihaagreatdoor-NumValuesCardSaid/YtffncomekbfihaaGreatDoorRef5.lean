/- glossatorref01.Sub of any limbs; glossatorref06: over, quot, sign. -/
import Derived.Test.YtffncomekbfihaaGreatDoorRef4
import Derived.Test.YtffncomekbfihaaGreatDoorFdec5
namespace Go.Proofs.YtffncomekbfihaaGreatDoor.Nat
open Go.RowKit Go.Shelf
set_option linter.unusedVariables false
set_option linter.unusedSimpArgs false
theorem nv_limbs_le {l : List Nat} (hO : Ok l) {b : Nat} (h : b ≤ nv l) : (limbs b).length ≤ l.length := by
  have h1 := limbs_len_mono h
  rw [← tn_eq hO] at h1
  exact Nat.le_trans h1 (tn_le l)
set_option maxHeartbeats 8000000 in
set_option maxRecDepth 100000 in
theorem rsub_b {w : World} {V1 V2 : Value} {a b : Nat} (h1 : NatB w V1 a) (h2 : NatV w V2 b) (hl : (limbs a).length ≤ 4096) (hab : b ≤ a) :
    Calls Tryz.prog 96 #[V1, V2] w fun e w' => ∃ v', e = .returned (.tuple #[v', .int .i64 0]) ∧ OwnN w' v' (a - b) ∧ Below w.heap.size w w' := by
  have hll := limbs_len_mono hab
  have kcmp := fun W (hb : Below w.heap.size w W) => rcmp_a (h1.a.below hb) ((h2.a (by omega)).below hb)
  obtain ⟨A, l, c, rfl, hG, hO, hv, hl1⟩ := h1
  obtain ⟨A', c', rfl, hc', hR'⟩ := h2
  subst hv
  have hlb := nv_limbs_le hO hab
  have htl : tn l ≤ 4096 := by rw [tn_eq hO]; exact hl
  have hcn : ¬ cmpI (nv l) b < 0 := by
    unfold cmpI
    rw [if_neg (by omega)]
    split <;> decide
  have hG' : Good w (A', limbs b, c') := ⟨hR', hc', by dsimp only; omega⟩
  have hb0 := below_alloc w (.cells #[.slice A l.length c, .slice A' (limbs b).length c'] 50)
  have k0 := long_calls (some ⟨w.heap.size, 0, none⟩) [(A, l, c), (A', limbs b, c')] 2 _ (two_slat w A l c A' (limbs b) c' 50) (fun q hq => by
    simp at hq
    rcases hq with rfl | rfl
    · exact ⟨hG.below hb0, htl⟩
    · exact ⟨hG'.below hb0, by dsimp only; rw [tn_limbs]; omega⟩) (by simp)
  simp only [List.length_cons, List.length_nil, Nat.zero_add] at k0
  have kl := fun W (hb : Below w.heap.size w W) => rless_calls A l c A' (limbs b) c' W (hG.below hb) (hG'.below hb) hO (ok_limbs b) hl1 hlb (by rw [nv_limbs]; exact hab)
  rw [nv_limbs] at kl
  clear hG hG' hR' hc' hll hl htl hl1 hlb hO hab
  generalize l.length = n1 at *
  generalize (limbs b).length = n2 at *
  go_enter Tryz.func96, Tryz.ntmps96
  go_wp2_with (first
    | (go_at_call 119; (with_reducible refine k0.mono ?_); clear k0; rintro e1 w1 ⟨rfl, hb1⟩; have hb2 := below_step hb0 hb1)
    | (go_at_call 70; (with_reducible refine (kcmp _ hb2).mono ?_); clear kcmp; rintro e2 w2 ⟨rfl, hb3⟩; have hb4 := below_step hb2 hb3)
    | (go_at_call 126; (with_reducible refine (kl _ hb4).mono ?_); clear kl; rintro e3 w3 ⟨v3, rfl, hv3, hb5⟩))
  go_ret2
  exact ⟨v3, rfl, hv3, below_step hb4 hb5⟩
theorem sign_ref (neg : Bool) (w : World) :
    Calls Tryz.prog 125 #[.bool neg] w fun e w' => e = .returned (.int .u64 (sgn neg 0 : Nat)) ∧ w' = w := by
  cases neg with
  | true =>
    go_enter Tryz.func125, Tryz.ntmps125
    go_wp2
    go_ret
    exact ⟨rfl, rfl⟩
  | false =>
    go_enter Tryz.func125, Tryz.ntmps125
    go_wp2
    go_ret
    exact ⟨rfl, rfl⟩
instance (a b : Nat) (e : Int) : Decidable (geP a b e) := inferInstanceAs (Decidable (b * up e ≤ a * up (-e)))
theorem cmp_ge {a b : Nat} (h : b ≤ a) : 0 ≤ cmpI a b := by unfold cmpI; rw [if_neg (by omega)]; split <;> decide
set_option maxHeartbeats 8000000 in
set_option maxRecDepth 100000 in
theorem over_calls {w : World} {V1 V2 : Value} {a b : Nat} (e : Int) (h1 : NatB w V1 a) (h2 : NatB w V2 b) (hla : (limbs a).length ≤ 1000) (hlb : (limbs b).length ≤ 1000) (r1 : -32000 ≤ e) (r2 : e ≤ 32000) :
    Calls Tryz.prog 140 #[V1, V2, .int .i64 e] w fun en w' => en = .returned (.bool (decide (geP a b e))) ∧ Below w.heap.size w w' := by
  have hb0 := Below.refl w.heap.size w
  have s1 := limbs_up (a := a) (e := -e) hla (by omega)
  have s2 := limbs_up (a := b) (e := e) hlb (by omega)
  have hgP : geP a b e ↔ b * up e ≤ a * up (-e) := Iff.rfl
  by_cases he : 0 ≤ e
  · obtain ⟨n, rfl⟩ : ∃ n : Nat, e = n := ⟨e.toNat, by omega⟩
    have hn : n ≤ 200000 := by omega
    have k1 := two_calls n w hn
    have k2 := fun W V (hb : Below w.heap.size w W) (hV : NatB W V (2 ^ n)) => rtimes_b (h2.below hb) hV
    have hu1 : up (n : Int) = 2 ^ n := rfl
    have hu2 : up (-(n : Int)) = 1 := by unfold up; rw [show (-(n : Int)).toNat = 0 from by omega]
    rw [hu1] at s2
    rw [hu1, hu2, Nat.mul_one] at hgP
    have k3 := fun W V (hb : Below w.heap.size w W) (hV : OwnN W V (b * 2 ^ n)) => rcmp_a (h1.below hb).a (hV.b (by omega)).a
    obtain ⟨c, hc⟩ : ∃ c, cmpI a (b * 2 ^ n) = c := ⟨_, rfl⟩
    rw [hc] at k3
    by_cases hle : b * 2 ^ n ≤ a
    · have hc0 : 0 ≤ c := by rw [← hc]; exact cmp_ge hle
      rw [decide_eq_true (hgP.2 hle)]
      clear hle hgP hc hu1 hu2 s1 s2 hla hlb r1 r2 hn h1 h2
      go_enter Tryz.func140, Tryz.ntmps140
      go_wp2_with (first
        | (go_at_call 67; (with_reducible refine k1.mono ?_); clear k1; rintro e1 w1 ⟨v1, rfl, hv1, hb1⟩; have k2 := k2 w1 v1 hb1 hv1)
        | (go_at_call 66; (with_reducible refine k2.mono ?_); clear k2; rintro e2 w2 ⟨v2, rfl, hv2, hb2⟩; have hb3 := below_step hb1 hb2; have k3 := k3 w2 v2 hb3 hv2)
        | (go_at_call 70; (with_reducible refine k3.mono ?_); clear k3; rintro e3 w3 ⟨rfl, hb4⟩))
      go_ret
      exact ⟨rfl, below_step hb3 hb4⟩
    · have hc0 : ¬ 0 ≤ c := by rw [← hc, cmp_lt (by omega)]; decide
      rw [decide_eq_false (fun q => hle (hgP.1 q))]
      clear hle hgP hc hu1 hu2 s1 s2 hla hlb r1 r2 hn h1 h2
      go_enter Tryz.func140, Tryz.ntmps140
      go_wp2_with (first
        | (go_at_call 67; (with_reducible refine k1.mono ?_); clear k1; rintro e1 w1 ⟨v1, rfl, hv1, hb1⟩; have k2 := k2 w1 v1 hb1 hv1)
        | (go_at_call 66; (with_reducible refine k2.mono ?_); clear k2; rintro e2 w2 ⟨v2, rfl, hv2, hb2⟩; have hb3 := below_step hb1 hb2; have k3 := k3 w2 v2 hb3 hv2)
        | (go_at_call 70; (with_reducible refine k3.mono ?_); clear k3; rintro e3 w3 ⟨rfl, hb4⟩))
      go_ret
      exact ⟨congrArg (fun b => Ending.returned (Value.bool b)) (decide_eq_false (p := 0 ≤ c) (by omega)), below_step hb3 hb4⟩
  · obtain ⟨n, hn0⟩ : ∃ n : Nat, -e = n := ⟨(-e).toNat, by omega⟩
    have hn : n ≤ 200000 := by omega
    have k1 := two_calls n w hn
    have k2 := fun W V (hb : Below w.heap.size w W) (hV : NatB W V (2 ^ n)) => rtimes_b (h1.below hb) hV
    have hu1 : up (-e) = 2 ^ n := by unfold up; rw [hn0]; rfl
    have hu2 : up e = 1 := by unfold up; rw [show e.toNat = 0 from by omega]
    rw [hu1] at s1
    rw [hu1, hu2, Nat.mul_one] at hgP
    have k3 := fun W V (hb : Below w.heap.size w W) (hV : OwnN W V (a * 2 ^ n)) => rcmp_a (hV.b (by omega)).a (h2.below hb).a
    obtain ⟨c, hc⟩ : ∃ c, cmpI (a * 2 ^ n) b = c := ⟨_, rfl⟩
    rw [hc] at k3
    have hw : IntKind.i64.wrap (n : Int) = (n : Int) := by rw [IntKind.wrap_i64]; omega
    by_cases hle : b ≤ a * 2 ^ n
    · have hc0 : 0 ≤ c := by rw [← hc]; exact cmp_ge hle
      rw [decide_eq_true (hgP.2 hle)]
      clear hle hgP hc hu1 hu2 s1 s2 hla hlb r1 r2 hn h1 h2
      go_enter Tryz.func140, Tryz.ntmps140
      go_wp2_with (first
        | (go_at_call 67; (with_reducible refine k1.mono ?_); clear k1; rintro e1 w1 ⟨v1, rfl, hv1, hb1⟩; have k2 := k2 w1 v1 hb1 hv1)
        | (go_at_call 66; (with_reducible refine k2.mono ?_); clear k2; rintro e2 w2 ⟨v2, rfl, hv2, hb2⟩; have hb3 := below_step hb1 hb2; have k3 := k3 w2 v2 hb3 hv2)
        | (go_at_call 70; (with_reducible refine k3.mono ?_); clear k3; rintro e3 w3 ⟨rfl, hb4⟩))
      go_ret
      exact ⟨rfl, below_step hb3 hb4⟩
    · have hc0 : ¬ 0 ≤ c := by rw [← hc, cmp_lt (by omega)]; decide
      rw [decide_eq_false (fun q => hle (hgP.1 q))]
      clear hle hgP hc hu1 hu2 s1 s2 hla hlb r1 r2 hn h1 h2
      go_enter Tryz.func140, Tryz.ntmps140
      go_wp2_with (first
        | (go_at_call 67; (with_reducible refine k1.mono ?_); clear k1; rintro e1 w1 ⟨v1, rfl, hv1, hb1⟩; have k2 := k2 w1 v1 hb1 hv1)
        | (go_at_call 66; (with_reducible refine k2.mono ?_); clear k2; rintro e2 w2 ⟨v2, rfl, hv2, hb2⟩; have hb3 := below_step hb1 hb2; have k3 := k3 w2 v2 hb3 hv2)
        | (go_at_call 70; (with_reducible refine k3.mono ?_); clear k3; rintro e3 w3 ⟨rfl, hb4⟩))
      go_ret
      exact ⟨congrArg (fun b => Ending.returned (Value.bool b)) (decide_eq_false (p := 0 ≤ c) (by omega)), below_step hb3 hb4⟩
theorem quot_step {a b A q d : Nat} (h : A + q * 2 ^ (d + 1) * b = a) (hA : A < b * 2 ^ (d + 1)) :
    (b * 2 ^ d ≤ A → A - b * 2 ^ d + (2 * q + 1) * 2 ^ d * b = a ∧ A - b * 2 ^ d < b * 2 ^ d) ∧ A + 2 * q * 2 ^ d * b = a := by
  have e1 : q * 2 ^ (d + 1) * b = 2 * (q * 2 ^ d * b) := by rw [Nat.pow_succ, ← Nat.mul_assoc, Nat.mul_right_comm, Nat.mul_comm]
  have e2 : b * 2 ^ (d + 1) = 2 * (b * 2 ^ d) := by rw [Nat.pow_succ, ← Nat.mul_assoc, Nat.mul_comm]
  have e3 : (2 * q + 1) * 2 ^ d * b = 2 * (q * 2 ^ d * b) + b * 2 ^ d := by
    rw [Nat.add_mul, Nat.add_mul, Nat.one_mul, Nat.mul_comm (2 ^ d) b, Nat.mul_assoc 2, Nat.mul_assoc 2]
  have e4 : 2 * q * 2 ^ d * b = 2 * (q * 2 ^ d * b) := by rw [Nat.mul_assoc 2, Nat.mul_assoc 2]
  refine ⟨fun hle => ⟨by omega, by omega⟩, by omega⟩
theorem quot_lt {a b A q k : Nat} (h : A + q * 2 ^ k * b = a) (hlt : a < b * 2 ^ 63) : q < 9223372036854775808 := by
  rcases Nat.lt_or_ge q 9223372036854775808 with c | c
  · exact c
  · exfalso
    have h1 : 9223372036854775808 * b ≤ q * 2 ^ k * b := Nat.mul_le_mul_right _ (Nat.le_trans c (Nat.le_mul_of_pos_right _ (Nat.two_pow_pos k)))
    have h2 : b * 2 ^ 63 = 9223372036854775808 * b := by rw [Nat.mul_comm]
    omega
theorem quot_end {a b A q : Nat} (h : A + q * 2 ^ 0 * b = a) (hA : A < b * 2 ^ 0) : q = a / b ∧ A = a % b := by
  rw [Nat.pow_zero, Nat.mul_one] at h hA
  subst h
  have hb : 0 < b := by omega
  rw [Nat.add_mul_div_right _ _ hb, Nat.add_mul_mod_self_right, Nat.div_eq_of_lt hA, Nat.mod_eq_of_lt hA]
  exact ⟨by omega, rfl⟩
set_option maxHeartbeats 8000000 in
set_option maxRecDepth 100000 in
theorem quot_calls {w : World} {V1 V2 : Value} {a b : Nat} (h1 : NatB w V1 a) (h2 : NatB w V2 b) (hla : (limbs a).length ≤ 4000) (hlt : a < b * 2 ^ 63) (hlx : (limbs (b * 2 ^ 63)).length ≤ 4000) :
    Calls Tryz.prog 71 #[V1, V2] w fun e w' => ∃ v', e = .returned (.tuple #[.int .u64 ((a / b : Nat) : Int), v']) ∧ NatB w' v' (a % b) ∧ Below w.heap.size w w' := by
  have hb0 := Below.refl w.heap.size w
  have hlx2 : ∀ i, i < 63 → (limbs (b * 2 ^ i)).length ≤ 4000 := fun i hi => Nat.le_trans (limbs_len_mono (Nat.mul_le_mul_left _ (Nat.pow_le_pow_right (by decide) (by omega)))) hlx
  have k1 := fun i W (hi : i < 63) => two_calls i W (by omega)
  have k2 := fun i W V (hb : Below w.heap.size w W) (hV : NatB W V (2 ^ i)) => rtimes_b (h2.below hb) hV
  have H0 : Hid (a + 0 * 2 ^ 63 * b = a ∧ a < b * 2 ^ 63 ∧ (limbs a).length ≤ 4000 ∧ ∀ i, i < 63 → (limbs (b * 2 ^ i)).length ≤ 4000) := Lib.hid ⟨by simp, hlt, hla, hlx2⟩
  clear hlx hlx2 h2 hla hlt
  go_enter Tryz.func71, Tryz.ntmps71
  go_wp2
  obtain ⟨K, hK⟩ : ∃ K, 63 = K := ⟨_, rfl⟩
  go_loopg [0, 6, 7] K (fun kq v0 v6 v7 wr => ∃ A q : Nat, v7 = .int .i64 ((kq : Int) - 1) ∧ kq ≤ K ∧ v6 = .int .u64 q ∧ Hid (A + q * 2 ^ kq * b = a ∧ A < b * 2 ^ kq) ∧ NatB wr v0 A ∧ Below w.heap.size w wr)
  case atStart => exact ⟨a, 0, by rw [← hK]; rfl, Nat.le_refl _, rfl, Lib.hid (by rw [← hK]; exact ⟨H0.out.1, H0.out.2.1⟩), h1, hb0⟩
  case round =>
    clear h1 hb0
    obtain ⟨A, q, rfl, hk, rfl, HV, hA, hb⟩ := hrel
    cases gk with
    | zero =>
      have he := quot_end HV.out.1 HV.out.2
      clear HV H0
      obtain ⟨rfl, rfl⟩ := he
      go_wp2
      go_ret2
      exact ⟨_, rfl, hA, hb⟩
    | succ d =>
      subst hK
      have hd63 : d < 63 := by omega
      have hq := quot_lt HV.out.1 H0.out.2.1
      have k1 := k1 d wr hd63
      have hst := quot_step HV.out.1 HV.out.2
      have hAl : (limbs A).length ≤ 4000 := Nat.le_trans (limbs_len_mono (by have := HV.out.1; omega)) H0.out.2.2.1
      have hxl := H0.out.2.2.2 d hd63
      have hA2 := HV.out.2
      have hdI : 0 ≤ (d : Int) := by omega
      obtain ⟨q2, hq2⟩ : ∃ q2, 2 * q = q2 := ⟨_, rfl⟩
      rw [hq2] at hst
      have hw1 : IntKind.u64.wrap (2 * (q : Int)) = (q2 : Int) := by rw [IntKind.wrap_u64]; omega
      have k2 := fun W V (hb : Below w.heap.size w W) (hV : NatB W V (2 ^ d)) => k2 d W V hb hV
      have k3 := fun W V (hb : Below wr.heap.size wr W) (hV : OwnN W V (b * 2 ^ d)) => rcmp_a (hA.below hb).a (hV.b (by omega)).a
      obtain ⟨c, hc⟩ : ∃ c, cmpI A (b * 2 ^ d) = c := ⟨_, rfl⟩
      rw [hc] at k3
      by_cases hle : b * 2 ^ d ≤ A
      · have hc0 : 0 ≤ c := by rw [← hc]; exact cmp_ge hle
        have hw2 : IntKind.u64.wrap ((q2 : Int) + 1) = ((q2 + 1 : Nat) : Int) := by rw [IntKind.wrap_u64]; omega
        have k4 := fun W V (hb : Below wr.heap.size wr W) (hV : OwnN W V (b * 2 ^ d)) => rsub_b (hA.below hb) hV.natv (by omega) hle
        have HN : Hid _ := Lib.hid (hst.1 hle)
        have hrl : (limbs (A - b * 2 ^ d)).length ≤ 4000 := Nat.le_trans (limbs_len_mono (Nat.sub_le _ _)) hAl
        have HR : Hid _ := Lib.hid hrl
        clear hq2 hst hle hc hA2 hAl hxl hq HV hA hrl hk
        go_wp2_with (first
          | (go_at_call 67; (with_reducible refine k1.mono ?_); clear k1; rintro e1 w1 ⟨v1, rfl, hv1, hb1⟩; have k2 := k2 w1 v1 (below_step hb hb1) hv1)
          | (go_at_call 66; (with_reducible refine k2.mono ?_); clear k2; rintro e2 w2 ⟨v2, rfl, hv2, hb2⟩; have hb3 := below_step hb1 hb2; have k3 := k3 w2 v2 hb3 hv2)
          | (go_at_call 70; (with_reducible refine k3.mono ?_); clear k3; rintro e3 w3 ⟨rfl, hb4⟩; have hb5 := below_step hb3 hb4; have k4 := k4 w3 v2 hb5 (hv2.below hb4))
          | (go_at_call 96; (with_reducible refine k4.mono ?_); clear k4; rintro e4 w4 ⟨v4, rfl, hv4, hb6⟩))
        go_roundg d
        case rel => exact ⟨A - b * 2 ^ d, q2 + 1, by go_num, by omega, rfl, HN, hv4.b (by have := HR.out; omega), below_step hb (below_step hb5 hb6)⟩
        case measure => omega
      · have hc0 : ¬ 0 ≤ c := by rw [← hc, cmp_lt (by omega)]; decide
        have HN : Hid (A + q2 * 2 ^ d * b = a ∧ A < b * 2 ^ d) := Lib.hid ⟨hst.2, by omega⟩
        clear hq2 hst hle hc hA2 hAl hxl hq HV hk
        have HA : Hid _ := Lib.hid hA
        clear hA
        go_wp2_with (first
          | (go_at_call 67; (with_reducible refine k1.mono ?_); clear k1; rintro e1 w1 ⟨v1, rfl, hv1, hb1⟩; have k2 := k2 w1 v1 (below_step hb hb1) hv1)
          | (go_at_call 66; (with_reducible refine k2.mono ?_); clear k2; rintro e2 w2 ⟨v2, rfl, hv2, hb2⟩; have hb3 := below_step hb1 hb2; have k3 := k3 w2 v2 hb3 hv2)
          | (go_at_call 70; (with_reducible refine k3.mono ?_); clear k3; rintro e3 w3 ⟨rfl, hb4⟩; have hb5 := below_step hb3 hb4))
        go_roundg d
        case rel => exact ⟨A, q2, by go_num, by omega, rfl, HN, HA.out.below hb5, below_step hb hb5⟩
        case measure => omega
end Go.Proofs.YtffncomekbfihaaGreatDoor.Nat
