/- glossatorlaw06.FdecFewest. -/
import Derived.Test.YtffncomekbfihaaShortest
import Derived.Test.YtffncomekbfihaaMoreW
import Derived.Test.YtffncomekbfihaaAwake
namespace Go.Proofs.Ytffncomekbfihaa.Nat
open Go.RowKit Go.Shelf
set_option linter.unusedVariables false
/-- the sign of bits taken away -/
theorem rnd_sign {x : Nat} {neg : Bool} {L : List Nat} {e : Int} (hx : x < 18446744073709551616) (hn : neg = decide (x / 9223372036854775808 = 1)) (h : rnd neg L e = (x, 0)) : rnd false L e = (x % 9223372036854775808, 0) := by
  unfold rnd at *
  split at h
  · cases h
  rename_i h1
  rw [if_neg h1]
  split at h
  · cases h
  rename_i h2
  rw [if_neg h2]
  split at h
  · cases h
  rename_i h3
  rw [if_neg h3]
  split at h
  · cases h
  rename_i h4
  rw [if_neg h4]
  split at h
  · rename_i h5
    rw [if_pos h5]
    have := (Prod.mk.inj h).1
    unfold sgn at *
    cases neg <;> simp at * <;> omega
  rename_i h5
  rw [if_neg h5]
  split at h
  · rename_i h6
    rw [if_pos h6]
    have := (Prod.mk.inj h).1
    unfold sgn at *
    cases neg <;> simp at * <;> omega
  · cases h
theorem rnd_congr {neg : Bool} {L M : List Nat} {e : Int} (hL : Dgs L) (hM : Dgs M) (l1 : L.length ≤ 800) (l2 : M.length ≤ 800) (l3 : L.length ≠ 0) (l4 : M.length ≠ 0) (hv : dval L = dval M) : rnd neg L e = rnd neg M e := by
  unfold rnd
  rw [if_neg (by omega), if_neg (show ¬ 800 < M.length by omega), if_neg l3, if_neg l4, if_neg (by rw [(dgB_iff L).2 hL]; decide), if_neg (show ¬ dgB M = false by rw [(dgB_iff M).2 hM]; decide), hv]
/-- the shortest digits of bits -/
theorem found_short {x p z n t : Nat} {hi : Int} (h : fe x ≠ 2047) (h0 : exM x ≠ 0) (hf : Found x (xM x * up (xX x)) (up (-(xX x))) hi n t) (h1 : -400 ≤ hi) (h2 : hi ≤ 400) (ht : t = p * 10 ^ z) (hp : p % 10 ≠ 0) (hz : z ≤ 20) : Short x p (hi - n + z) := by
  obtain ⟨b1, b2⟩ := bits_fin h h0
  obtain ⟨f1, f2, f3, f4, _, f5⟩ := hf
  have hB : up (-(xX x)) ≠ 0 := Nat.ne_of_gt (up_pos _)
  refine short_of (t := t) (n := n) b1 b2 hB (by rw [show hi - (n : Int) + (n : Int) = hi from by omega]; exact f2) f1 (by omega) (by omega) f3 f4 (fun hn => ?_) ht hp hz
  have h3 := f5 (n - 1) (by omega)
  rw [show hi - ((n - 1 : Nat) : Int) = hi - (n : Int) + 1 from by omega] at h3
  exact h3
set_option maxHeartbeats 8000000 in
set_option maxRecDepth 100000 in
theorem fewest_calls (x : Nat) (w : World) (hx : x < 18446744073709551616) :
    Calls Try.prog 4 #[.int .u64 (x : Int)] w fun e w' => e = .returned (.bool true) ∧ Below w.heap.size w w' := by
  have ka := fun W => awake_calls W
  by_cases h : fe x = 2047
  · have k1 := shortest_bad x w hx h
    clear h
    go_enter Try.func4, Try.ntmps4
    go_wp2_with (first | (go_at_call 8; (with_reducible refine k1.mono ?_); clear k1; rintro e1 w1 ⟨rfl, hb1⟩) | (go_at_call 5; (with_reducible refine (ka _).mono ?_); clear ka; rintro e2 w2 ⟨rfl, hb2⟩))
    go_ret
    exact ⟨rfl, below_step hb1 hb2⟩
  by_cases h0 : exM x = 0
  · have k1 := shortest_zero x w hx h h0
    clear h h0
    go_enter Try.func4, Try.ntmps4
    go_wp2_with (first | (go_at_call 8; (with_reducible refine k1.mono ?_); clear k1; rintro e1 w1 ⟨rfl, hb1⟩) | (go_at_call 5; (with_reducible refine (ka _).mono ?_); clear ka; rintro e2 w2 ⟨rfl, hb2⟩))
    go_ret
    exact ⟨rfl, below_step hb1 hb2⟩
  have k1 := shortest_calls x w hx h h0
  have kr := fun neg (s : ByteArray) e W => round_calls neg s e W
  have km := fun (s : ByteArray) W hs hne hD => more_calls s W hs hne hD
  have H0 : Hid _ := Lib.hid (And.intro h h0)
  clear h h0
  go_enter Try.func4, Try.ntmps4
  go_upto_region 2 with (go_at_call 8; (with_reducible refine k1.mono ?_); clear k1; rintro e1 w1 ⟨s, p, z, n, t, hi, rfl, hs, ht, hp, hz, hf, h1, h2, hb1⟩)
  have hS := found_short H0.out.1 H0.out.2 hf h1 h2 ht hp hz
  clear hf ht
  obtain ⟨e, he⟩ : ∃ e, hi - (n : Int) + (z : Int) = e := ⟨_, rfl⟩
  rw [he] at hS ⊢
  have HS : Hid _ := Lib.hid hS
  clear he h1 h2 hS
  have hsl := bts_length s
  have hsn := dec_ne p
  rw [hs] at hsl
  have hdl : (dec p).length ≤ 17 := dec_le HS.out.2.2.1 (by decide)
  have hemp := full_of (t := s) (by omega)
  by_cases h2 : s.size < 2
  · have h2I : (s.size : Int) < 2 := by omega
    clear hsl hsn hdl
    go_wp2_with ((go_at_call 5; (with_reducible refine (ka _).mono ?_); clear ka; rintro e2 w2 ⟨rfl, hb2⟩))
    go_ret
    exact ⟨rfl, below_step hb1 hb2⟩
  · have h2I : ¬ (s.size : Int) < 2 := by omega
    obtain ⟨hlow, hp10⟩ := dec_cut hs (by omega)
    have hlowz : (s.extract 0 (s.size - 1)).size = (dec (p / 10)).length := by rw [← hlow]; exact (bts_length _).symm
    have hln := dec_ne (p / 10)
    have hll : (dec (p / 10)).length ≤ 17 := dec_le (Nat.lt_of_le_of_lt (Nat.div_le_self _ _) HS.out.2.2.1) (by decide)
    obtain ⟨ng, hng⟩ : ∃ ng, decide (x / 9223372036854775808 = 1) = ng := ⟨_, rfl⟩
    have hngb : ((x : Int) / 9223372036854775808 == 1) = ng := by
      rw [← hng, Bool.eq_iff_iff, beq_iff_eq, decide_eq_true_iff]
      omega
    obtain ⟨hn1, hn2⟩ := HS.out.2.2.2.2.2.2 hp10
    obtain ⟨X1, g1, hr1⟩ : ∃ X1 g1, rnd ng (dec (p / 10)) (e + 1) = (X1, g1) := ⟨_, _, rfl⟩
    obtain ⟨X2, g2, hr2⟩ : ∃ X2 g2, rnd ng (dec (p / 10 + 1)) (e + 1) = (X2, g2) := ⟨_, _, rfl⟩
    have c1 : g1 = 0 → X1 ≠ x := fun q1 q2 => hn1 (rnd_sign hx hng.symm (by rw [hr1, q1, q2]))
    have c2 : g2 = 0 → X2 ≠ x := fun q1 q2 => hn2 (rnd_sign hx hng.symm (by rw [hr2, q1, q2]))
    have k1 : ∀ W, Calls Try.prog 6 #[.bool ng, .string (s.extract 0 (s.size - 1)), .int .i64 (e + 1)] W fun en w' => en = .returned (.tuple #[.int .u64 (X1 : Int), .int .i64 (g1 : Int)]) ∧ Below W.heap.size W w' := fun W => by
      have h := kr ng (s.extract 0 (s.size - 1)) (e + 1) W
      rw [hlow, hr1] at h
      exact h
    have k2 : ∀ (t2 : ByteArray) W, Dgs (bts t2) → dval (bts t2) = p / 10 + 1 → t2.size ≤ 20 → t2.size ≠ 0 → Calls Try.prog 6 #[.bool ng, .string t2, .int .i64 (e + 1)] W fun en w' => en = .returned (.tuple #[.int .u64 (X2 : Int), .int .i64 (g2 : Int)]) ∧ Below W.heap.size W w' := fun t2 W d1 d2 d3 d4 => by
      have h := kr ng t2 (e + 1) W
      have hb := bts_length t2
      have hdl2 : (dec (p / 10 + 1)).length ≤ 18 := dec_le (Nat.lt_of_le_of_lt (Nat.succ_le_succ (Nat.div_le_self _ _)) (Nat.lt_trans (Nat.succ_lt_succ HS.out.2.2.1) (by decide))) (by decide)
      rw [rnd_congr (M := dec (p / 10 + 1)) d1 (dgs_dec _) (by omega) (by omega) (by omega) (dec_ne _) (by rw [d2, dval_dec]), hr2] at h
      exact h
    have km1 := fun W => km (s.extract 0 (s.size - 1)) W (by omega) (by omega) (by rw [hlow]; exact dgs_dec _)
    rw [hlow, dval_dec, hlowz] at km1
    have hsz0 : 0 < s.size := by omega
    have hsz1 : s.size - 1 < s.size := by omega
    have hc0 : ¬ ((s[0].toNat : Int) = 48) := by
      obtain ⟨c, L, e1, e2⟩ := dec_head HS.out.1
      have h := bts_at s 0 hsz0
      rw [hs, e1] at h
      have : c = s[0].toNat := Option.some.inj h
      omega
    have hc1 : ¬ ((s[s.size - 1].toNat : Int) = 48) := by
      have h := dec_at hs hsz1
      have := HS.out.2.1
      omega
    have hw1 : IntKind.i64.wrap ((s.size : Int) - 1) = ((s.size - 1 : Nat) : Int) := by rw [IntKind.wrap_i64]; omega
    have hw2 : IntKind.i64.wrap (e + 1) = e + 1 := by have h1 := HS.out.2.2.2.1; have h2 := HS.out.2.2.2.2.1; rw [IntKind.wrap_i64]; omega
    have HLL : Hid _ := Lib.hid (And.intro hll hln)
    clear hng hr1 hr2 hn1 hn2 hp10 hlow hlowz hll hln hdl hs hsl hsn kr km hp hz h2
    by_cases y1 : g1 = 0
    · have d1 : ¬ (X1 : Int) = (x : Int) := by have := c1 y1; omega
      subst y1
      by_cases y2 : g2 = 0
      · have d2 : ¬ (X2 : Int) = (x : Int) := by have := c2 y2; omega
        subst y2
        clear c1 c2
        go_wp2_with (first
          | (go_at_call 6; (with_reducible refine (k1 _).mono ?_); clear k1; rintro e3 w3 ⟨rfl, hb3⟩)
          | (go_at_call 7; (with_reducible refine (km1 _).mono ?_); clear km1; rintro e4 w4 ⟨t2, rfl, dt1, dt2, dt3, dt4, hb4⟩)
          | (go_at_call 6; (with_reducible refine (k2 _ _ dt1 dt2 (by have := HLL.out.1; omega) dt4).mono ?_); clear k2; rintro e5 w5 ⟨rfl, hb5⟩)
          | (go_at_call 5; (with_reducible refine (ka _).mono ?_); clear ka; rintro e6 w6 ⟨rfl, hb6⟩))
        go_ret
        refine ⟨congrArg (fun b => Ending.returned (Value.bool b)) (a₂ := true) ?_, below_step (below_step (below_step (below_step hb1 hb3) hb4) hb5) hb6⟩
        simp [d1, d2, hc0, hc1]
      · have d2 : ¬ (g2 : Int) = 0 := by omega
        clear c1 c2
        go_wp2_with (first
          | (go_at_call 6; (with_reducible refine (k1 _).mono ?_); clear k1; rintro e3 w3 ⟨rfl, hb3⟩)
          | (go_at_call 7; (with_reducible refine (km1 _).mono ?_); clear km1; rintro e4 w4 ⟨t2, rfl, dt1, dt2, dt3, dt4, hb4⟩)
          | (go_at_call 6; (with_reducible refine (k2 _ _ dt1 dt2 (by have := HLL.out.1; omega) dt4).mono ?_); clear k2; rintro e5 w5 ⟨rfl, hb5⟩)
          | (go_at_call 5; (with_reducible refine (ka _).mono ?_); clear ka; rintro e6 w6 ⟨rfl, hb6⟩))
        go_ret
        refine ⟨congrArg (fun b => Ending.returned (Value.bool b)) (a₂ := true) ?_, below_step (below_step (below_step (below_step hb1 hb3) hb4) hb5) hb6⟩
        simp [d1, d2, hc0, hc1]
    · have d1 : ¬ (g1 : Int) = 0 := by omega
      by_cases y2 : g2 = 0
      · have d2 : ¬ (X2 : Int) = (x : Int) := by have := c2 y2; omega
        subst y2
        clear c1 c2
        go_wp2_with (first
          | (go_at_call 6; (with_reducible refine (k1 _).mono ?_); clear k1; rintro e3 w3 ⟨rfl, hb3⟩)
          | (go_at_call 7; (with_reducible refine (km1 _).mono ?_); clear km1; rintro e4 w4 ⟨t2, rfl, dt1, dt2, dt3, dt4, hb4⟩)
          | (go_at_call 6; (with_reducible refine (k2 _ _ dt1 dt2 (by have := HLL.out.1; omega) dt4).mono ?_); clear k2; rintro e5 w5 ⟨rfl, hb5⟩)
          | (go_at_call 5; (with_reducible refine (ka _).mono ?_); clear ka; rintro e6 w6 ⟨rfl, hb6⟩))
        go_ret
        refine ⟨congrArg (fun b => Ending.returned (Value.bool b)) (a₂ := true) ?_, below_step (below_step (below_step (below_step hb1 hb3) hb4) hb5) hb6⟩
        simp [d1, d2, hc0, hc1]
      · have d2 : ¬ (g2 : Int) = 0 := by omega
        clear c1 c2
        go_wp2_with (first
          | (go_at_call 6; (with_reducible refine (k1 _).mono ?_); clear k1; rintro e3 w3 ⟨rfl, hb3⟩)
          | (go_at_call 7; (with_reducible refine (km1 _).mono ?_); clear km1; rintro e4 w4 ⟨t2, rfl, dt1, dt2, dt3, dt4, hb4⟩)
          | (go_at_call 6; (with_reducible refine (k2 _ _ dt1 dt2 (by have := HLL.out.1; omega) dt4).mono ?_); clear k2; rintro e5 w5 ⟨rfl, hb5⟩)
          | (go_at_call 5; (with_reducible refine (ka _).mono ?_); clear ka; rintro e6 w6 ⟨rfl, hb6⟩))
        go_ret
        refine ⟨congrArg (fun b => Ending.returned (Value.bool b)) (a₂ := true) ?_, below_step (below_step (below_step (below_step hb1 hb3) hb4) hb5) hb6⟩
        simp [d1, d2, hc0, hc1]
theorem fewest_calls_i (a : Int) (w : World) (ha : (Lit.int .u64 a).wf = true) :
    Calls Try.prog 4 #[.int .u64 a] w fun e w' => e = .returned (.bool true) ∧ Below w.heap.size w w' := by
  have h1 : IntKind.u64.min = 0 := by decide
  have h2 : IntKind.u64.max = 18446744073709551615 := by decide
  simp [Lit.wf] at ha
  obtain ⟨n, rfl⟩ : ∃ n : Nat, a = n := ⟨a.toNat, by omega⟩
  exact fewest_calls n w (by omega)
end Go.Proofs.Ytffncomekbfihaa.Nat
