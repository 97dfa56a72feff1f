/- fdec.Shortest. -/
import Derived.Test.YtffncomekbfihaaGreatDoorDecimal
import Derived.Test.YtffncomekbfihaaGreatDoorExact
import Derived.Laws.BitsAllLaws
import Derived.WalkMore
import Derived.Deep.CutBlock
import Derived.Deep.DeepCutAuto
namespace Go.Proofs.YtffncomekbfihaaGreatDoor.Nat
open Go.RowKit Go.Shelf
set_option linter.unusedVariables false
theorem exM_x (b : Nat) : exM b = xM b := rfl
theorem exX_x (b : Nat) : exX b = xX b := rfl
/-- what the search for the shortest digits ends with, at the length n + 1 -/
def Found (x a b : Nat) (h : Int) (n t : Nat) : Prop :=
  n ≤ 16 ∧ IsTen a b h ∧ (t = qd a b (h - n) ∨ t = qd a b (h - n) + 1) ∧ Hit x t (h - n) ∧ (t ≠ fst a b (h - n) → ¬ Hit x (fst a b (h - n)) (h - n)) ∧
  ∀ i : Nat, i < n → ¬ Hit x (qd a b (h - i)) (h - i) ∧ ¬ Hit x (qd a b (h - i) + 1) (h - i)
theorem nata_two (w : World) (m : Nat) (hm : m < 18446744073709551616) : NatA (w.alloc (.cells #[.int .u32 ((m % 4294967296 : Nat) : Int), .int .u32 ((m / 4294967296 : Nat) : Int)] 53)) (.slice (some ⟨w.heap.size, 0, none⟩) 2 2) m := by
  refine ⟨some ⟨w.heap.size, 0, none⟩, [m % 4294967296, m / 4294967296], 2, rfl, ⟨?_, Nat.le_refl _, by simp⟩, ?_, ?_⟩
  · intro j x hx
    have hj := (List.getElem?_eq_some_iff.1 hx).1
    have hh := heap_alloc_new w (.cells #[.int .u32 ((m % 4294967296 : Nat) : Int), .int .u32 ((m / 4294967296 : Nat) : Int)] 53)
    rcases (show j = 0 ∨ j = 1 by simp at hj; omega) with rfl | rfl
    · refine ⟨_, rfl, ?_⟩
      simp at hx
      subst hx
      rw [Addr.add_lit, Lib.cell_of_heap hh]; rfl
    · refine ⟨_, rfl, ?_⟩
      simp at hx
      subst hx
      rw [Addr.add_lit, Lib.cell_of_heap hh]; rfl
  · exact ok_cons (by omega) (ok_one (by omega))
  · simp [nv]; omega
theorem and_not_sign {x : Nat} (hx : x < 18446744073709551616) : Go.bits BinOp.andNot IntKind.u64 (x : Int) 9223372036854775808 = ((x % 9223372036854775808 : Nat) : Int) := by
  have h := u64_andNot_nat x 9223372036854775808 hx (by decide)
  rw [show 18446744073709551615 - 9223372036854775808 = 2 ^ 63 - 1 from rfl, Nat.and_two_pow_sub_one_eq_mod] at h
  exact h
set_option maxHeartbeats 8000000 in
set_option maxRecDepth 100000 in
theorem shortest_bad (x : Nat) (w : World) (hx : x < 18446744073709551616) (h : fe x = 2047) :
    Calls Tryz.prog 7 #[.int .u64 (x : Int)] w fun e w' => e = .returned (.tuple #[.string ⟨#[]⟩, .int .i64 0, .int .i64 1]) ∧ Below w.heap.size w w' := by
  have k1 := exact_calls x w hx
  rw [if_pos h] at k1
  clear h
  go_enter Tryz.func7, Tryz.ntmps7
  go_wp2
  go_step3
  go_wp2_with (go_at_call 19; (with_reducible refine k1.mono ?_); clear k1; rintro e1 w1 ⟨rfl, hb1⟩)
  rw [Exit.noGoto_ret]
  go_ret3
  exact ⟨rfl, hb1⟩
set_option maxHeartbeats 8000000 in
set_option maxRecDepth 100000 in
theorem shortest_zero (x : Nat) (w : World) (hx : x < 18446744073709551616) (h : fe x ≠ 2047) (h0 : exM x = 0) :
    Calls Tryz.prog 7 #[.int .u64 (x : Int)] w fun e w' => e = .returned (.tuple #[.string ⟨#[48]⟩, .int .i64 0, .int .i64 0]) ∧ Below w.heap.size w w' := by
  have k1 := exact_calls x w hx
  rw [if_neg h, h0] at k1
  clear h h0
  go_enter Tryz.func7, Tryz.ntmps7
  go_wp2
  go_step3
  go_wp2_with (go_at_call 19; (with_reducible refine k1.mono ?_); clear k1; rintro e1 w1 ⟨rfl, hb1⟩)
  rw [Exit.noGoto_ret]
  go_ret3
  exact ⟨rfl, hb1⟩
theorem exM_lt (x : Nat) : exM x < 9007199254740992 := by
  unfold exM ff
  split <;> omega
theorem exX_ge (x : Nat) : -1074 ≤ exX x := by unfold exX; split <;> omega
theorem exX_le (x : Nat) : exX x ≤ 972 := by
  have : fe x < 2048 := Nat.mod_lt _ (by decide)
  unfold exX; split <;> omega
theorem up_limbs {X : Int} (h : X ≤ 1074) : (limbs (up X)).length ≤ 34 := limbs_pow (e := X.toNat) (Nat.le_refl _) (by omega)
theorem nata_1a (w1 : World) (o : Obj) : NatA ((w1.alloc o).alloc (.cells #[.int .u32 1] 53)) (.slice (some ⟨w1.heap.size + 1, 0, none⟩) 1 1) 1 := by
  have h := nata_one (w1.alloc o) 1 (by decide)
  rwa [World.size_alloc] at h
theorem limbs_1 : (limbs 1).length = 1 := by decide +kernel
theorem eight_ten (k : Nat) : 2 ^ (3 * k) ≤ 10 ^ k := by
  rw [Nat.pow_mul]
  exact Nat.pow_le_pow_left (by decide) k
theorem sh_low {A k : Nat} {X : Int} (hX : -1074 ≤ X) (hA : A ≠ 0) (h : A * 10 ^ k < up (-X)) : k ≤ 358 := by
  have h1 := eight_ten k
  have h2 : 10 ^ k ≤ A * 10 ^ k := Nat.le_mul_of_pos_left _ (Nat.pos_of_ne_zero hA)
  have h3 : 2 ^ (3 * k) < 2 ^ (-X).toNat := Nat.lt_of_le_of_lt (Nat.le_trans h1 h2) h
  have h4 := (Nat.pow_lt_pow_iff_right (by decide)).1 h3
  omega
theorem sh_high {m : Nat} {X : Int} (hX : X ≤ 972) (hm : m < 9007199254740992) : (dec (m * up X / up (-X))).length ≤ 342 := by
  obtain ⟨n, hn⟩ : ∃ n, n = 342 := ⟨_, rfl⟩
  have h1 : m * up X < 2 ^ (53 + X.toNat) := by
    rw [Nat.pow_add]
    exact Nat.mul_lt_mul_of_pos_right (by exact hm) (up_pos _)
  have h2 : m * up X / up (-X) < 2 ^ (3 * n) := Nat.lt_of_le_of_lt (Nat.div_le_self _ _) (Nat.lt_of_lt_of_le h1 (Nat.pow_le_pow_right (by decide) (by omega)))
  have h3 := dec_le (Nat.lt_of_lt_of_le h2 (eight_ten n)) (by omega)
  omega
theorem sh_limbs {m : Nat} {X : Int} (hX : X ≤ 972) (hm : (limbs m).length ≤ 2) : (limbs (m * up X)).length ≤ 36 := by
  have h1 := limbs_mul m (up X)
  have h2 := up_limbs (X := X) (by omega)
  omega
theorem ten_hi {A B : Nat} (hB : B ≠ 0) (h : A / B ≠ 0) : IsTen A B (((dec (A / B)).length : Int) - 1) := by
  have hd := dec_length h
  obtain ⟨k, hk⟩ : ∃ k, (dec (A / B)).length = k + 1 := ⟨(dec (A / B)).length - 1, by have := dec_ne (A / B); omega⟩
  rw [hk, show ((k + 1 : Nat) : Int) - 1 = (k : Int) from by omega]
  have h1 : 10 ^ k ≤ A / B := by
    rcases Nat.lt_or_ge (A / B) (10 ^ k) with q | q
    · have := lo_length q; omega
    · exact q
  have h2 : A / B < 10 ^ (k + 1) := by
    rcases Nat.lt_or_ge (A / B) (10 ^ (k + 1)) with q | q
    · exact q
    · have := lo_ge q; omega
  have hp := Nat.pos_of_ne_zero hB
  constructor
  · rw [tp_nat, tp_neg, Nat.mul_one, Nat.mul_comm]
    exact (Nat.le_div_iff_mul_le hp).1 h1
  · rw [show (k : Int) + 1 = ((k + 1 : Nat) : Int) from by omega, tp_nat, tp_neg, Nat.mul_one, Nat.mul_comm]
    exact (Nat.div_lt_iff_lt_mul hp).1 h2
theorem ten_lo {A B k : Nat} (h1 : A * 10 ^ k < B) (h2 : B ≤ A * 10 ^ (k + 1)) : IsTen A B (-1 - (k : Int)) := by
  constructor
  · rw [show (-1 - (k : Int)) = -((k + 1 : Nat) : Int) from by omega, tp_neg, Int.neg_neg, tp_nat, Nat.mul_one]; exact h2
  · rw [show (-1 - (k : Int) + 1) = -(k : Int) from by omega, tp_neg, Int.neg_neg, tp_nat, Nat.mul_one]; exact h1
theorem bits_fin {x : Nat} (h : fe x ≠ 2047) (h0 : exM x ≠ 0) : x % 9223372036854775808 < 9218868437227405312 ∧ x % 9223372036854775808 ≠ 0 := by
  unfold exM fe ff at *
  split at h0 <;> omega
theorem fst_two (a b : Nat) (e : Int) : fst a b e = qd a b e ∨ fst a b e = qd a b e + 1 := by
  unfold fst rhe qd
  split
  · exact .inr rfl
  · exact .inl rfl
theorem last_hit {x A B : Nat} {hi : Int} (h : fe x ≠ 2047) (h0 : exM x ≠ 0) (hB : B ≠ 0) (hT : IsTen A B hi) (h1 : -400 ≤ hi) (h2 : hi ≤ 400)
    (hf : ∀ e : Int, IsTen A B (e + (16 : Nat)) → near (fst A B e * tp e) (tp (-e)) = x % 9223372036854775808)
    (hno : ¬ Hit x (qd A B (hi - (16 : Nat))) (hi - (16 : Nat)) ∧ ¬ Hit x (qd A B (hi - (16 : Nat)) + 1) (hi - (16 : Nat))) : False := by
  obtain ⟨b1, b2⟩ := bits_fin h h0
  obtain ⟨e, he⟩ : ∃ e, hi - ((16 : Nat) : Int) = e := ⟨_, rfl⟩
  rw [he] at hno
  have hTe : IsTen A B (e + (16 : Nat)) := by rw [show e + ((16 : Nat) : Int) = hi from by omega]; exact hT
  have q1 := qd_ge hB hTe
  have q2 := qd_lt hB hTe
  have q3 : (10 : Nat) ^ (16 + 1) + 1 < 10 ^ 200 := by decide
  have q4 : (1 : Nat) ≤ 10 ^ 16 := by decide
  have hn := hf e hTe
  have h3 := fst_two A B e
  have hh := (hit_iff (x := x) (p := fst A B e) (e := e) b1 b2 (by omega) (by omega) (by omega) (by omega)).2 hn
  rcases h3 with h3 | h3
  · rw [h3] at hh; exact hno.1 hh
  · rw [h3] at hh; exact hno.2 hh
theorem idx_two1 (a b : Option Addr) (n1 d1 n2 d2 : Nat) (W : World) : (Instr.index 62 (.agg #[.slice a n1 d1, .slice b n2 d2]) (.int .i64 0)).run Tryz.prog W = .ok (.slice a n1 d1) W := by kernel_rfl
theorem idx_two2 (a b : Option Addr) (n1 d1 n2 d2 : Nat) (W : World) : (Instr.index 62 (.agg #[.slice a n1 d1, .slice b n2 d2]) (.int .i64 1)).run Tryz.prog W = .ok (.slice b n2 d2) W := by kernel_rfl
theorem limbs_head {v : Nat} (h : v ≠ 0) : (limbs v)[0]? = some (v % 4294967296) := by
  rw [limbs, dif_neg h]
  rfl
set_option maxHeartbeats 16000000 in
set_option maxRecDepth 100000 in
theorem shortest_calls (x : Nat) (w : World) (hx : x < 18446744073709551616) (h : fe x ≠ 2047) (h0 : exM x ≠ 0) :
    Calls Tryz.prog 7 #[.int .u64 (x : Int)] w fun en w' => ∃ (s : ByteArray) (p z n t : Nat) (hi : Int), en = .returned (.tuple #[.string s, .int .i64 (hi - n + z), .int .i64 0]) ∧ bts s = dec p ∧ t = p * 10 ^ z ∧ p % 10 ≠ 0 ∧ z ≤ 20 ∧ Found x (xM x * up (xX x)) (up (-(xX x))) hi n t ∧ -400 ≤ hi ∧ hi ≤ 400 ∧ Below w.heap.size w w' := by
  have k1 := exact_calls x w hx
  rw [if_neg h] at k1
  have hm := exM_lt x
  have hX1 := exX_ge x
  have hX2 := exX_le x
  have H0 : Hid _ := Lib.hid (And.intro h h0)
  have hns := and_not_sign hx
  obtain ⟨wt, hwt⟩ : ∃ wt, x % 9223372036854775808 = wt := ⟨_, rfl⟩
  rw [hwt] at hns
  have HW : Hid _ := Lib.hid hwt
  rw [← exM_x, ← exX_x]
  obtain ⟨m, hmm⟩ : ∃ m, exM x = m := ⟨_, rfl⟩
  obtain ⟨X, hXX⟩ : ∃ X, exX x = X := ⟨_, rfl⟩
  have HM : Hid _ := Lib.hid (And.intro hmm hXX)
  rw [hmm] at hm h0 k1
  rw [hXX] at hX1 hX2 k1
  rw [hmm, hXX]
  generalize fsg x = sg at *
  have hc1 : IntKind.u32.wrap (m : Int) = ((m % 4294967296 : Nat) : Int) := by rw [IntKind.wrap_u32]; omega
  have hc2 : IntKind.u32.wrap ((m : Int) / 4294967296) = ((m / 4294967296 : Nat) : Int) := by rw [IntKind.wrap_u32]; omega
  have h0I : ¬ (m : Int) = 0 := by omega
  have hml : (limbs m).length ≤ 2 := limbs_len_le (Nat.lt_trans hm (by decide))
  clear h hwt hmm hXX
  go_enter Tryz.func7, Tryz.ntmps7
  go_wp2
  go_step3
  go_upto_region 8 with (first
    | (go_at_call 19; (with_reducible refine k1.mono ?_); clear k1; rintro e1 w1 ⟨rfl, hb1⟩; have hT := nata_two w1 m (by omega); generalize hm1 : m % 4294967296 = m1 at hT hc1; generalize hm2 : m / 4294967296 = m2 at hT hc2; clear hm1 hm2)
    | (go_at_call 20; (with_reducible refine (times_calls _ _ m 1 X 0 _ (hT.below (below_alloc _ _)) (nata_1a _ _) (by omega) (by rw [limbs_1]; decide) (by omega) (by omega) (by decide) (by decide)).mono ?_); rintro e2 w2 ⟨Va, Vb, rfl, ⟨A3, l3, c3, rfl, hGa, hOa, hva⟩, ⟨A4, l4, c4, rfl, hGb, hOb, hvb⟩, hb2⟩))
  have hVa : NatA (w2.alloc (.cells #[.slice A3 l3.length c3, .slice A4 l4.length c4] 52)) (.slice A3 l3.length c3) (m * up X) := NatA.below ⟨_, _, _, rfl, hGa, hOa, hva.trans (Nat.mul_one _)⟩ (below_alloc _ _)
  have hVb : NatA (w2.alloc (.cells #[.slice A3 l3.length c3, .slice A4 l4.length c4] 52)) (.slice A4 l4.length c4) (up (-X)) := NatA.below ⟨_, _, _, rfl, hGb, hOb, by rw [hvb]; show 1 * up (-X) * 1 = _; omega⟩ (below_alloc _ _)
  have br0 := br_new w2 (.slice A3 l3.length c3) (.slice A4 l4.length c4)
  have hbW : Below w.heap.size w (w2.alloc (.cells #[.slice A3 l3.length c3, .slice A4 l4.length c4] 52)) := below_step hb1 (below_step (below_step (below_step (below_alloc _ _) (below_alloc _ _)) hb2) (below_alloc _ _))
  have hgW : w.heap.size ≤ w2.heap.size := by
    have h1 := hb1.size
    have h2 := hb2.size
    rw [World.size_alloc, World.size_alloc] at h2
    omega
  clear hGa hOa hva hGb hOb hvb hT hc1 hc2 hb1 hb2
  generalize w2.alloc (.cells #[.slice A3 l3.length c3, .slice A4 l4.length c4] 52) = W0 at hVa hVb br0 hbW ⊢
  generalize w2.heap.size = g at *
  generalize l3.length = n3 at *
  generalize l4.length = n4 at *
  have q0 := br0.c0
  have q1 := br0.c1
  have hup := up_pos (-X)
  have hupX := up_pos X
  have hlow : ∀ k, m * up X * 10 ^ k < up (-X) → k ≤ 358 := fun k hk => sh_low hX1 (Nat.mul_ne_zero h0 (by omega)) hk
  have hhigh := sh_high (m := m) hX2 hm
  have hla := sh_limbs hX2 hml
  have hlb := up_limbs (X := -X) (by omega)
  have hA0 : m * up X ≠ 0 := Nat.mul_ne_zero h0 (by omega)
  have hfn : ∀ e : Int, IsTen (m * up X) (up (-X)) (e + (16 : Nat)) → near (fst (m * up X) (up (-X)) e * tp e) (tp (-e)) = wt := by
    intro e he
    obtain ⟨h1, h2⟩ := HM.out
    rw [exM_x] at h1
    rw [exX_x] at h2
    have := fst_near (x := x) (e := e) (by rw [h1]; exact h0) (by rw [h1, h2]; exact he)
    rw [h1, h2, HW.out] at this
    exact this
  generalize hAe : m * up X = A at *
  have hB0 : up (-X) ≠ 0 := by omega
  generalize hBe : up (-X) = B at *
  have HAB : Hid _ := Lib.hid (And.intro hAe hBe)
  clear hAe hBe
  clear hup hupX hX1 hX2 h0 hml
  have kc := cut_calls _ _ A B W0 hVa hVb (by omega) (by omega) hB0
  have hql : (limbs (A / B)).length ≤ 4096 := Nat.le_trans (limbs_len_mono (Nat.div_le_self _ _)) (by omega)
  have HF : Hid _ := Lib.hid (And.intro hlow (And.intro hfn (And.intro hla hlb)))
  clear hlow hfn hla hlb
  go_upto_if 71 with (first
    | (go_at_call 21; (with_reducible refine kc.mono ?_); clear kc; rintro e3 w3 ⟨Vq, rfl, hVq, hb3⟩; have kd := digits_calls Vq _ w3 (hVq.a hql) hql; obtain ⟨Aq, cq, rfl, hcq, hRq⟩ := hVq)
    | (go_at_call 22; (with_reducible refine kd.mono ?_); clear kd; rintro e4 w4 ⟨sq, rfl, hsq, hb4⟩; have hb5 := below_step hb3 hb4; have br4 := br0.below hb5; have q0 := br4.c0; have q1 := br4.c1; have hsl := bts_length sq; have hsn := dec_ne (A / B); rw [hsq] at hsl; have hws : IntKind.i64.wrap ((sq.size : Int) - 1) = (sq.size : Int) - 1 := by rw [IntKind.wrap_i64]; omega))
  go_cut [15] (fun v15 wx => ∃ hi : Int, v15 = .int .i64 hi ∧ IsTen A B hi ∧ -400 ≤ hi ∧ hi ≤ 400 ∧ Below W0.heap.size W0 wx)
  case first =>
    by_cases hz : A / B = 0
    · have HZ : Hid _ := Lib.hid (limbs_len_zero.2 hz)
      clear hcq hRq hql
      generalize (limbs (A / B)).length = nq at *
      have kt := fun W hb => times_calls _ _ A B 0 1 W (hVa.below hb) (hVb.below hb) (by have := HF.out.2.2.1; omega) (by have := HF.out.2.2.2; omega) (by decide) (by decide) (by decide) (by decide)
      have htt : A * up 0 * tp 1 = A * 10 ^ (0 + 1) := by show A * 1 * 10 = A * 10; omega
      have htb : B * up (-0) * tp (-1) = B := by show B * 1 * 1 = B; omega
      simp only [htt, htb] at kt
      have hlt0 : A * 10 ^ 0 < B := by rw [Nat.pow_zero, Nat.mul_one]; rcases Nat.lt_or_ge A B with q | q
                                       · exact q
                                       · have := (Nat.le_div_iff_mul_le (Nat.pos_of_ne_zero hB0)).2 (show 1 * B ≤ A by omega); omega
      go_wp2_with (go_at_call 20; (with_reducible refine (kt _ hb5).mono ?_); clear kt; rintro e6 w6 ⟨Va, Vb, rfl, ⟨A5, l5, c5, rfl, hGa, hOa, hva⟩, ⟨A6, l6, c6, rfl, hGb, hOb, hvb⟩, hb6⟩)
      rotate_left
      · rename_i hh
        exfalso
        have := HZ.out
        rw [this] at hh
        exact absurd hh (by decide)
      have hs6 : W0.heap.size ≤ w6.heap.size := Nat.le_trans hb5.size hb6.size
      have hbY := below_step (below_step hb5 hb6) (below_alloc w6 (.cells #[.slice A5 l5.length c5, .slice A6 l6.length c6] 52))
      have brY := br_new w6 (.slice A5 l5.length c5) (.slice A6 l6.length c6)
      have hY1 : NatA (w6.alloc (.cells #[.slice A5 l5.length c5, .slice A6 l6.length c6] 52)) (.slice A5 l5.length c5) (A * 10 ^ (0 + 1)) := NatA.below ⟨_, _, _, rfl, hGa, hOa, hva⟩ (below_alloc _ _)
      have hY2 : NatA (w6.alloc (.cells #[.slice A5 l5.length c5, .slice A6 l6.length c6] 52)) (.slice A6 l6.length c6) B := NatA.below ⟨_, _, _, rfl, hGb, hOb, hvb⟩ (below_alloc _ _)
      clear hGa hOa hva hGb hOb hvb htt htb hb6 br4 q0 q1 hsl hsn hws hsq hVa hVb hb3 hb4 hb5 hbW br0
      go_loopg [15, 16] 400 (fun kq v15 v16 wr => ∃ (k gy : Nat) (Y1 Y2 : Option Addr) (n1 d1 n2 d2 : Nat), v15 = .int .i64 (-1 - (k : Int)) ∧ v16 = .pointer (some ⟨gy, 0, none⟩) ∧ k + kq = 400 ∧ W0.heap.size ≤ gy ∧ BR wr gy (.slice Y1 n1 d1) (.slice Y2 n2 d2) ∧ NatA wr (.slice Y1 n1 d1) (A * 10 ^ (k + 1)) ∧ NatA wr (.slice Y2 n2 d2) B ∧ A * 10 ^ k < B ∧ Below W0.heap.size W0 wr)
      case atStart => exact ⟨0, _, A5, A6, _, _, _, _, rfl, rfl, rfl, hs6, brY, hY1, hY2, hlt0, hbY⟩
      case round =>
        clear hs6 brY hY1 hY2 hlt0 hbY
        obtain ⟨k, gy, Y1, Y2, n1, d1, n2, d2, rfl, rfl, hk, hgy, brY, hY1, hY2, hlt, hb⟩ := hrel
        cases gk with
        | zero => exfalso; have := HF.out.1 k hlt; omega
        | succ d =>
          have q0 := brY.c0
          have q1 := brY.c1
          have kcm := cmp_a hY1 hY2
          by_cases hlt2 : A * 10 ^ (k + 1) < B
          · rw [cmp_lt hlt2] at kcm
            have hll : (limbs (A * 10 ^ (k + 1))).length ≤ 1000 := Nat.le_trans (limbs_len_mono (Nat.le_of_lt hlt2)) (by have := HF.out.2.2.2; omega)
            have kt := fun W hb => times_calls _ _ (A * 10 ^ (k + 1)) B 0 1 W (hY1.below hb) (hY2.below hb) hll (by have := HF.out.2.2.2; omega) (by decide) (by decide) (by decide) (by decide)
            have htt : A * 10 ^ (k + 1) * up 0 * tp 1 = A * 10 ^ (k + 1 + 1) := by show A * 10 ^ (k + 1) * 1 * 10 = A * 10 ^ (k + 1 + 1); rw [Nat.mul_one, Nat.pow_succ 10 (k + 1), Nat.mul_assoc]
            have htb : B * up (-0) * tp (-1) = B := by show B * 1 * 1 = B; omega
            simp only [htt, htb] at kt
            have hwk : IntKind.i64.wrap (-1 - (k : Int) - 1) = -1 - ((k + 1 : Nat) : Int) := by rw [IntKind.wrap_i64]; omega
            have HL : Hid _ := Lib.hid hlt2
            clear htt htb hlt hlt2 hll
            go_wp2_with (first
              | (go_at_call 23; (with_reducible refine kcm.mono ?_); clear kcm; rintro e7 w7 ⟨rfl, hb7⟩; have br7 := brY.below hb7; have q0 := br7.c0; have q1 := br7.c1)
              | (go_at_call 20; (with_reducible refine (kt _ (below_step hb7 (below_alloc _ _))).mono ?_); clear kt; rintro e8 w8 ⟨Va, Vb, rfl, ⟨A7, l7, c7, rfl, hGa, hOa, hva⟩, ⟨A8, l8, c8, rfl, hGb, hOb, hvb⟩, hb8⟩; have br8 := (br_new w7 (.slice Y1 n1 d1) (.slice Y2 n2 d2)).below hb8; have q2 := br8.c0; have q3 := br8.c1; have f2 := br8.f 0; have f3 := br8.f 1))
            have br9 := br8.set0 (.slice A7 l7.length c7)
            have hN7 : NatA _ (.slice A7 l7.length c7) _ := (NatA.set (NatA.set ⟨_, _, _, rfl, hGa, hOa, hva⟩ br8.c0 (.slice A7 l7.length c7)) br9.c1 (.slice A8 l8.length c8))
            have hN8 : NatA _ (.slice A8 l8.length c8) _ := (NatA.set (NatA.set ⟨_, _, _, rfl, hGb, hOb, hvb⟩ br8.c0 (.slice A7 l7.length c7)) br9.c1 (.slice A8 l8.length c8))
            have hg7 : W0.heap.size ≤ w7.heap.size := Nat.le_trans hb.size hb7.size
            go_roundg d
            case rel => exact ⟨k + 1, _, A7, A8, _, _, _, _, by go_num, rfl, by omega, hg7, br9.set1 _, hN7, hN8, HL.out, ((below_step (below_step hb hb7) (below_step (below_alloc _ _) hb8)).setCell (p := ⟨w7.heap.size, 0, none⟩) hg7 _).setCell (p := ⟨w7.heap.size, 1, none⟩) hg7 _⟩
            case measure => omega
          · have hnl : ¬ cmpI (A * 10 ^ (k + 1)) B < 0 := by unfold cmpI; rw [if_neg hlt2]; split <;> decide
            have HL : Hid _ := Lib.hid (And.intro hlt (Nat.le_of_not_lt hlt2))
            clear hlt hlt2
            go_wp2_with (go_at_call 23; (with_reducible refine kcm.mono ?_); clear kcm; rintro e7 w7 ⟨rfl, hb7⟩)
            go_meet
            case rel => exact ⟨_, rfl, ten_lo HL.out.1 HL.out.2, by have := HF.out.1 k HL.out.1; omega, by omega, below_step hb hb7⟩
    · have hzl : ¬ ((limbs (A / B)).length : Int) = 0 := by have : (limbs (A / B)).length ≠ 0 := fun q => hz (limbs_len_zero.1 q); omega
      go_wp2
      go_meet
      case rel => exact ⟨(sq.size : Int) - 1, rfl, by rw [← hsl]; exact ten_hi hB0 hz, by omega, by omega, hb5⟩
  case rest =>
    obtain ⟨hi, rfl, hT, hh1, hh2, hb⟩ := hcut
    clear hsl hsn hws hsq hb3 hb4 hb5 br4 q0 q1 hcq hRq hql
    go_wp2
    go_step3
    go_wp2
    go_loopg [19] 17 (fun kq v19 wr => ∃ n : Nat, v19 = .int .i64 ((n : Int) + 1) ∧ n + kq = 17 ∧ (∀ i : Nat, i < n → ¬ Hit x (qd A B (hi - i)) (hi - i) ∧ ¬ Hit x (qd A B (hi - i) + 1) (hi - i)) ∧ Below W0.heap.size W0 wr)
    case atStart => exact ⟨0, rfl, rfl, (fun i hi0 => absurd hi0 (Nat.not_lt_zero i)), hb⟩
    case round =>
      clear hb
      obtain ⟨n, rfl, hn, hno, hb⟩ := hrel
      cases gk with
      | zero =>
        exfalso
        obtain rfl : n = 17 := by omega
        have h2 := HF.out.2.1
        rw [← HW.out] at h2
        exact last_hit H0.out.1 H0.out.2 hB0 hT hh1 hh2 h2 (hno 16 (by decide))
      | succ d =>
        obtain ⟨e, he⟩ : ∃ e, hi - (n : Int) = e := ⟨_, rfl⟩
        have hw1 : IntKind.i64.wrap (hi - ((n : Int) + 1)) = hi - ((n : Int) + 1) := by rw [IntKind.wrap_i64]; omega
        have hw2 : IntKind.i64.wrap (hi - ((n : Int) + 1) + 1) = e := by rw [IntKind.wrap_i64]; omega
        have hw3 : IntKind.i64.wrap (-e) = -e := by rw [IntKind.wrap_i64]; omega
        have hw4 : IntKind.i64.wrap ((n : Int) + 1 + 1) = ((n + 1 : Nat) : Int) + 1 := by rw [IntKind.wrap_i64]; omega
        have brr := br0.below hb
        have q0 := brr.c0
        have q1 := brr.c1
        have hTn : IsTen A B (e + (n : Int)) := by rw [show e + (n : Int) = hi from by omega]; exact hT
        have hq1 := qd_ge hB0 hTn
        have hq2 := qd_lt hB0 hTn
        have hq3 : 10 ^ (n + 1) ≤ 10 ^ 17 := Nat.pow_le_pow_right (by decide) (by omega)
        have hq4 := Nat.pow_pos (n := n) (show 0 < 10 by decide)
        have kt := times_calls _ _ A B 0 (-e) wr (hVa.below hb) (hVb.below hb) (by have := HF.out.2.2.1; omega) (by have := HF.out.2.2.2; omega) (by decide) (by decide) (by omega) (by omega)
        have htt : A * up 0 * tp (-e) = A * tp (-e) := by show A * 1 * tp (-e) = _; rw [Nat.mul_one]
        have htb : B * up (-0) * tp (- -e) = B * tp e := by rw [Int.neg_neg]; show B * 1 * tp e = _; rw [Nat.mul_one]
        rw [htt, htb] at kt
        have hl1 : (limbs (A * tp (-e))).length ≤ 3500 := by have h1 := limbs_mul A (tp (-e)); have h2 := limbs_tp (e := -e) (by omega); have := HF.out.2.2.1; omega
        have hl2 : (limbs (B * tp e)).length ≤ 3500 := by have h1 := limbs_mul B (tp e); have h2 := limbs_tp (e := e) (by omega); have := HF.out.2.2.2; omega
        have hd0 : B * tp e ≠ 0 := Nat.mul_ne_zero hB0 (Nat.ne_of_gt (tp_pos e))
        have kcut : ∀ W Va Vb, NatA W Va (A * tp (-e)) → NatA W Vb (B * tp e) → _ := fun W Va Vb ha hb => cut_calls Va Vb (A * tp (-e)) (B * tp e) W ha hb hl1 hl2 hd0
        obtain ⟨Q, hQ⟩ : ∃ Q, qd A B e = Q := ⟨_, rfl⟩
        have hQ2 : A * tp (-e) / (B * tp e) = Q := hQ
        have hf0 : fst A B e = rhe (A * tp (-e)) (B * tp e) := rfl
        unfold rhe at hf0
        rw [hQ2] at kcut hf0
        rw [hQ] at hq1 hq2
        obtain ⟨R, hR⟩ : ∃ R, A * tp (-e) % (B * tp e) = R := ⟨_, rfl⟩
        rw [hR] at kcut hf0
        generalize A * tp (-e) = A' at *
        generalize B * tp e = D at *
        obtain ⟨Bu, hBu⟩ : ∃ Bu : Bool, decide (D < 2 * R ∨ (2 * R = D ∧ Q % 2 = 1)) = Bu := ⟨_, rfl⟩
        have hfst : fst A B e = if Bu then Q + 1 else Q := by
          rw [hf0, ← hBu]
          simp only [decide_eq_true_eq]
        have hQ0 : Q ≠ 0 := by omega
        have hql : (limbs Q).length ≤ 500 := Nat.le_trans (limbs_pow (e := 68) (L := 3) (Nat.le_trans (Nat.le_of_lt (Nat.lt_of_lt_of_le hq2 hq3)) (ten_bits 17)) (by decide)) (by decide)
        have hql2 : (limbs (Q + 1)).length ≤ 500 := Nat.le_trans (limbs_pow (e := 68) (L := 3) (Nat.le_trans (Nat.lt_of_lt_of_le hq2 hq3) (ten_bits 17)) (by decide)) (by decide)
        have hqlp : (0 : Int) < ((limbs Q).length : Int) := by have : (limbs Q).length ≠ 0 := fun z => hQ0 (limbs_len_zero.1 z); omega
        have hlh := limbs_head hQ0
        have HN : Hid _ := Lib.hid (And.intro hno (And.intro he (And.intro hq1 (And.intro (Nat.lt_of_lt_of_le hq2 hq3) (And.intro hfst (And.intro hQ hBu))))))
        clear hno he hq1 hq2 hq3 hq4 hfst htt htb hTn hQ hQ2 hf0 hR hBu
        go_upto_region 27 with (first
          | (go_at_call 20; (with_reducible refine kt.mono ?_); clear kt; rintro e3 w3 ⟨Va, Vb, rfl, ⟨A5, l5, c5, rfl, hGa, hOa, hva⟩, ⟨A6, l6, c6, rfl, hGb, hOb, hvb⟩, hb3⟩; have kc := kcut w3 _ _ ⟨A5, l5, c5, rfl, hGa, hOa, hva⟩ ⟨A6, l6, c6, rfl, hGb, hOb, hvb⟩)
          | (go_at_call 21; (with_reducible refine kc.mono ?_); clear kc; rintro e4 w4 ⟨Vq, rfl, hVq, hb4⟩; have kad := add_two (P := 1) hVq (show (limbs Q).length ≤ 513 by omega) (by decide) (show (limbs (Q + 1)).length ≤ 513 by omega); obtain ⟨Aq, cq, rfl, hcq, hRq⟩ := hVq; rw [show ((1 : Nat) : Int) = 1 from rfl] at kad)
          | (go_at_call 24; (with_reducible refine kad.mono ?_); clear kad; rintro e5 w5 ⟨Vu, rfl, hVu, hb5⟩; obtain ⟨Au, cu, rfl, hcu, hRu⟩ := hVu))
        have hbE := below_step (below_step (below_step hb hb3) hb4) hb5
        have hRq5 := hRq.below hb5
        obtain ⟨ad, rfl, hcell⟩ := hRq5 0 _ hlh
        clear hGa hOa hva hGb hOb hvb hRq kcut hb3 hb4 hb5 q0 q1
        go_cut [120] (fun v120 wx => v120 = .bool Bu ∧ wx = w5)
        case first =>
          have hand := (bits_nat .u32 32 (by decide) (fun n h0 h1 => by rw [IntKind.wrap_u32]; omega) (Q % 4294967296) 1 (by omega) (by decide)).1
          rw [Nat.and_one_is_mod, show Q % 4294967296 % 2 = Q % 2 from by omega] at hand
          have hand2 : Go.bits BinOp.and IntKind.u32 ((Q % 4294967296 : Nat) : Int) 1 = ((Q % 2 : Nat) : Int) := hand
          clear hand
          have hBd := HN.out.2.2.2.2.2.2
          generalize Q % 4294967296 = Q0 at *
          have hcell0 : w5.cell? ad = some (.int .u32 (Q0 : Int)) := by have h := hcell; rwa [show ad.add 0 = ad from by cases ad; rfl] at h
          rcases Nat.lt_trichotomy D (2 * R) with h | h | h
          · rw [decide_eq_true (p := D < 2 * R ∨ (2 * R = D ∧ Q % 2 = 1)) (.inl h)] at hBd
            have hc := cmp_gt h
            clear h hand2
            have HBd : Hid _ := Lib.hid hBd
            clear hBd
            go_wp2
            go_meet
            case rel => exact ⟨congrArg Value.bool HBd.out, rfl⟩
          · have hc := cmp_eq h.symm
            rcases Nat.mod_two_eq_zero_or_one Q with h2 | h2
            · rw [decide_eq_false (p := D < 2 * R ∨ (2 * R = D ∧ Q % 2 = 1)) (by omega)] at hBd
              rw [h2] at hand2
              clear h h2
              have HBd : Hid _ := Lib.hid hBd
              clear hBd
              go_wp2
              go_meet
              case rel => exact ⟨congrArg Value.bool HBd.out, rfl⟩
            · rw [decide_eq_true (p := D < 2 * R ∨ (2 * R = D ∧ Q % 2 = 1)) (.inr ⟨h.symm, h2⟩)] at hBd
              rw [h2] at hand2
              clear h h2
              have HBd : Hid _ := Lib.hid hBd
              clear hBd
              go_wp2
              go_meet
              case rel => exact ⟨congrArg Value.bool HBd.out, rfl⟩
          · rw [decide_eq_false (p := D < 2 * R ∨ (2 * R = D ∧ Q % 2 = 1)) (by omega)] at hBd
            have hc := cmp_lt h
            clear h hand2
            have HBd : Hid _ := Lib.hid hBd
            clear hBd
            go_wp2
            go_meet
            case rel => exact ⟨congrArg Value.bool HBd.out, rfl⟩
        case rest =>
          obtain ⟨rfl, rfl⟩ := hcut
          have hVQ : NatA wc (.slice (some ad) (limbs Q).length cq) Q := NatV.a ⟨some ad, cq, rfl, hcq, hRq5⟩ (by omega)
          have hVU : NatA wc (.slice Au (limbs (Q + 1)).length cu) (Q + 1) := NatV.a ⟨Au, cu, rfl, hcu, hRu⟩ (by omega)
          go_upto_if 120 with fail
          go_cut [24, 25] (fun v24 v25 wx => ∃ (A1 A2 : Option Addr) (n1 d1 n2 d2 x1 x2 : Nat), v24 = .slice A1 n1 d1 ∧ v25 = .slice A2 n2 d2 ∧ NatA wc (.slice A1 n1 d1) x1 ∧ NatA wc (.slice A2 n2 d2) x2 ∧ Hid (x1 = fst A B e ∧ ((x1 = Q ∧ x2 = Q + 1) ∨ (x1 = Q + 1 ∧ x2 = Q))) ∧ wx = wc)
          case first =>
            cases Bu with
            | true =>
              have hfst : Hid _ := Lib.hid HN.out.2.2.2.2.1
              go_wp2
              go_meet
              case rel => exact ⟨_, _, _, _, _, _, _, _, rfl, rfl, hVU, hVQ, Lib.hid ⟨by simpa using hfst.out.symm, .inr ⟨rfl, rfl⟩⟩, rfl⟩
            | false =>
              have hfst : Hid _ := Lib.hid HN.out.2.2.2.2.1
              go_wp2
              go_meet
              case rel => exact ⟨_, _, _, _, _, _, _, _, rfl, rfl, hVQ, hVU, Lib.hid ⟨by simpa using hfst.out.symm, .inl ⟨rfl, rfl⟩⟩, rfl⟩
          case rest =>
            obtain ⟨A1, A2, n1, d1, n2, d2, x1, x2, rfl, rfl, hV1, hV2, HX, rfl⟩ := hcut
            clear hVQ hVU hRu hRq5 hcell hcq hcu hlh hqlp
            have HNo : Hid _ := Lib.hid HN.out.1
            have HNe : Hid _ := Lib.hid HN.out.2.1
            have HQb : Hid _ := Lib.hid HN.out.2.2.2.1
            have HQe : Hid _ := Lib.hid HN.out.2.2.2.2.2.1
            have hx1l : Hid (x1 < 10 ^ 20 ∧ x2 < 10 ^ 20 ∧ x1 ≠ 0 ∧ x2 ≠ 0) := Lib.hid (by
              have h1 := HQb.out
              have h2 := HX.out.2
              have h3 : (10 : Nat) ^ 17 + 1 < 10 ^ 20 := by decide
              omega)
            clear HN
            go_wp2
            have ki1 := fun W => idx_two1 A1 A2 n1 d1 n2 d2 W
            have ki2 := fun W => idx_two2 A1 A2 n1 d1 n2 d2 W
            go_loopg [126] 2 (fun kq v126 wr => ∃ i : Nat, v126 = .int .i64 i ∧ i + kq = 2 ∧ Hid ((0 < i → ¬ Hit x x1 e) ∧ (1 < i → ¬ Hit x x2 e)) ∧ Below wc.heap.size wc wr)
            case atStart => exact ⟨0, rfl, rfl, Lib.hid ⟨fun h => absurd h (by decide), fun h => absurd h (by decide)⟩, Below.refl _ _⟩
            case round =>
              obtain ⟨i, rfl, hi2, HI, hb⟩ := hrel
              cases gk with
              | zero =>
                obtain rfl : i = 2 := by omega
                have hnew : ∀ i : Nat, i < n + 1 → ¬ Hit x (qd A B (hi - i)) (hi - i) ∧ ¬ Hit x (qd A B (hi - i) + 1) (hi - i) := fun j hj => by
                  rcases Nat.lt_or_ge j n with h | h
                  · exact HNo.out j h
                  · obtain rfl : j = n := by omega
                    rw [HNe.out, HQe.out]
                    have h1 := HI.out.1 (by decide)
                    have h2 := HI.out.2 (by decide)
                    rcases HX.out.2 with ⟨a, b⟩ | ⟨a, b⟩
                    · rw [a] at h1; rw [b] at h2; exact ⟨h1, h2⟩
                    · rw [a] at h1; rw [b] at h2; exact ⟨h2, h1⟩
                have HNEW : Hid _ := Lib.hid hnew
                clear hnew
                go_wp2
                go_roundg d
                case rel => exact ⟨n + 1, rfl, by omega, HNEW.out, below_step hbE hb⟩
                case measure => omega
              | succ k2 =>
                rcases (show i = 0 ∨ i = 1 by omega) with rfl | rfl
                · obtain rfl : k2 = 1 := by omega
                  have kd := digits_calls _ x1 wr (hV1.below hb) (Nat.le_trans (limbs_pow (e := 80) (L := 3) (Nat.le_trans (Nat.le_of_lt (hx1l.out.1)) (ten_bits 20)) (by decide)) (by decide))
                  have kr := fun (s : ByteArray) W (hs : bts s = dec x1) => (show Calls Tryz.prog 25 #[.bool false, .string s, .int .i64 e] W fun en w' => en = .returned (rndV (rnd false (dec x1) e)) ∧ Below W.heap.size W w' by have h := round_calls false s e W; rwa [hs] at h)
                  by_cases hh : Hit x x1 e
                  · have hh2 : rnd false (dec x1) e = (wt, 0) := by have h := hh; unfold Hit at h; rwa [HW.out] at h
                    rw [hh2, show rndV (wt, 0) = .tuple #[.int .u64 (wt : Int), .int .i64 0] from rfl] at kr
                    have kdec := fun W (hbx : Below wc.heap.size wc W) => decimal_calls _ x1 e W (hV1.below hbx) (hx1l.out.2.2.1) (hx1l.out.1) (by have := HNe.out; omega) (by have := HNe.out; omega)
                    have HH : Hid _ := Lib.hid hh
                    have HTT : Hid _ := Lib.hid hT
                    clear hh hh2
                    go_wp2_with (first
                      | (go_at_call 22; (with_reducible refine kd.mono ?_); clear kd; rintro e6 w6 ⟨s6, rfl, hs6, hb6⟩)
                      | (go_at_call 25; (with_reducible refine (kr _ _ hs6).mono ?_); clear kr; rintro e7 w7 ⟨rfl, hb7⟩; have hb77 := below_step (below_step hb hb6) hb7)
                      | (go_at_call 26; (with_reducible refine (kdec _ hb77).mono ?_); clear kdec; rintro e8 w8 ⟨s8, p8, z8, rfl, hs8, hv8, hp8, hz8, hb8⟩))
                    rw [Exit.noGoto_ret]
                    go_ret3
                    refine ⟨s8, p8, z8, n, x1, hi, by rw [HNe.out]; rfl, hs8, hv8, hp8, hz8, by rw [HAB.out.1, HAB.out.2]; exact ⟨by omega, HTT.out, by rw [HNe.out, HQe.out]; have h2 := HX.out.2; omega, by rw [HNe.out]; exact HH.out, by rw [HNe.out]; exact fun hne => absurd HX.out.1 hne, HNo.out⟩, by omega, by omega, hbW.trans ((below_step hbE (below_step hb77 hb8)).mono hbW.size)⟩
                  · obtain ⟨X', f', hr⟩ : ∃ X' f', rnd false (dec x1) e = (X', f') := ⟨_, _, rfl⟩
                    rw [hr] at kr
                    have hno2 : f' = 0 → X' ≠ wt := fun h1 h2 => hh (by unfold Hit; rw [hr, h1, h2, HW.out])
                    have hrv : rndV (X', f') = .tuple #[.int .u64 (X' : Int), .int .i64 (f' : Int)] := rfl
                    rw [hrv] at kr
                    have HH : Hid _ := Lib.hid hh
                    clear hh hr hrv
                    by_cases hf : f' = 0
                    · subst hf
                      have hne : ¬ (X' : Int) = (wt : Int) := by have := hno2 rfl; omega
                      clear hno2
                      go_wp2_with (first
                        | (go_at_call 22; (with_reducible refine kd.mono ?_); clear kd; rintro e6 w6 ⟨s6, rfl, hs6, hb6⟩)
                        | (go_at_call 25; (with_reducible refine (kr _ _ hs6).mono ?_); clear kr; rintro e7 w7 ⟨rfl, hb7⟩))
                      go_roundg 1
                      case rel => exact ⟨1, rfl, rfl, Lib.hid ⟨fun _ => HH.out, fun h => absurd h (by decide)⟩, below_step (below_step hb hb6) hb7⟩
                      case measure => omega
                    · have hne : ¬ (f' : Int) = 0 := by omega
                      clear hno2
                      go_wp2_with (first
                        | (go_at_call 22; (with_reducible refine kd.mono ?_); clear kd; rintro e6 w6 ⟨s6, rfl, hs6, hb6⟩)
                        | (go_at_call 25; (with_reducible refine (kr _ _ hs6).mono ?_); clear kr; rintro e7 w7 ⟨rfl, hb7⟩))
                      go_roundg 1
                      case rel => exact ⟨1, rfl, rfl, Lib.hid ⟨fun _ => HH.out, fun h => absurd h (by decide)⟩, below_step (below_step hb hb6) hb7⟩
                      case measure => omega
                · obtain rfl : k2 = 0 := by omega
                  have kd := digits_calls _ x2 wr (hV2.below hb) (Nat.le_trans (limbs_pow (e := 80) (L := 3) (Nat.le_trans (Nat.le_of_lt (hx1l.out.2.1)) (ten_bits 20)) (by decide)) (by decide))
                  have kr := fun (s : ByteArray) W (hs : bts s = dec x2) => (show Calls Tryz.prog 25 #[.bool false, .string s, .int .i64 e] W fun en w' => en = .returned (rndV (rnd false (dec x2) e)) ∧ Below W.heap.size W w' by have h := round_calls false s e W; rwa [hs] at h)
                  by_cases hh : Hit x x2 e
                  · have hh2 : rnd false (dec x2) e = (wt, 0) := by have h := hh; unfold Hit at h; rwa [HW.out] at h
                    rw [hh2, show rndV (wt, 0) = .tuple #[.int .u64 (wt : Int), .int .i64 0] from rfl] at kr
                    have kdec := fun W (hbx : Below wc.heap.size wc W) => decimal_calls _ x2 e W (hV2.below hbx) (hx1l.out.2.2.2) (hx1l.out.2.1) (by have := HNe.out; omega) (by have := HNe.out; omega)
                    have HH : Hid _ := Lib.hid hh
                    have HTT : Hid _ := Lib.hid hT
                    clear hh hh2
                    go_wp2_with (first
                      | (go_at_call 22; (with_reducible refine kd.mono ?_); clear kd; rintro e6 w6 ⟨s6, rfl, hs6, hb6⟩)
                      | (go_at_call 25; (with_reducible refine (kr _ _ hs6).mono ?_); clear kr; rintro e7 w7 ⟨rfl, hb7⟩; have hb77 := below_step (below_step hb hb6) hb7)
                      | (go_at_call 26; (with_reducible refine (kdec _ hb77).mono ?_); clear kdec; rintro e8 w8 ⟨s8, p8, z8, rfl, hs8, hv8, hp8, hz8, hb8⟩))
                    rw [Exit.noGoto_ret]
                    go_ret3
                    refine ⟨s8, p8, z8, n, x2, hi, by rw [HNe.out]; rfl, hs8, hv8, hp8, hz8, by rw [HAB.out.1, HAB.out.2]; exact ⟨by omega, HTT.out, by rw [HNe.out, HQe.out]; have h2 := HX.out.2; omega, by rw [HNe.out]; exact HH.out, by rw [HNe.out]; exact fun _ => by rw [← HX.out.1]; exact HI.out.1 (by decide), HNo.out⟩, by omega, by omega, hbW.trans ((below_step hbE (below_step hb77 hb8)).mono hbW.size)⟩
                  · obtain ⟨X', f', hr⟩ : ∃ X' f', rnd false (dec x2) e = (X', f') := ⟨_, _, rfl⟩
                    rw [hr] at kr
                    have hno2 : f' = 0 → X' ≠ wt := fun h1 h2 => hh (by unfold Hit; rw [hr, h1, h2, HW.out])
                    have hrv : rndV (X', f') = .tuple #[.int .u64 (X' : Int), .int .i64 (f' : Int)] := rfl
                    rw [hrv] at kr
                    have HH : Hid _ := Lib.hid hh
                    clear hh hr hrv
                    by_cases hf : f' = 0
                    · subst hf
                      have hne : ¬ (X' : Int) = (wt : Int) := by have := hno2 rfl; omega
                      clear hno2
                      go_wp2_with (first
                        | (go_at_call 22; (with_reducible refine kd.mono ?_); clear kd; rintro e6 w6 ⟨s6, rfl, hs6, hb6⟩)
                        | (go_at_call 25; (with_reducible refine (kr _ _ hs6).mono ?_); clear kr; rintro e7 w7 ⟨rfl, hb7⟩))
                      go_roundg 0
                      case rel => exact ⟨2, rfl, rfl, Lib.hid ⟨fun _ => HI.out.1 (by decide), fun _ => HH.out⟩, below_step (below_step hb hb6) hb7⟩
                      case measure => omega
                    · have hne : ¬ (f' : Int) = 0 := by omega
                      clear hno2
                      go_wp2_with (first
                        | (go_at_call 22; (with_reducible refine kd.mono ?_); clear kd; rintro e6 w6 ⟨s6, rfl, hs6, hb6⟩)
                        | (go_at_call 25; (with_reducible refine (kr _ _ hs6).mono ?_); clear kr; rintro e7 w7 ⟨rfl, hb7⟩))
                      go_roundg 0
                      case rel => exact ⟨2, rfl, rfl, Lib.hid ⟨fun _ => HI.out.1 (by decide), fun _ => HH.out⟩, below_step (below_step hb hb6) hb7⟩
                      case measure => omega
end Go.Proofs.YtffncomekbfihaaGreatDoor.Nat
