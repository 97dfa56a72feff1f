/- A float's text says the float. -/
import Derived.Test.YtffncomekbfihaaDoorTextPure
namespace Go.Proofs.YtffncomekbfihaaDoor.Nat
open Go.RowKit Go.Shelf
set_option linter.unusedVariables false
/-- no digit stands at the head -/
def Nd (r : List Nat) : Prop := ∀ c t, r = c :: t → dg c = false
theorem nd_nil : Nd [] := fun c t h => by cases h
theorem nd_cons {c : Nat} {t : List Nat} (h : dg c = false) : Nd (c :: t) := fun c' t' e => by cases e; exact h
theorem take_app {D r : List Nat} (hD : Dgs D) (hr : Nd r) : (D ++ r).takeWhile dg = D ∧ (D ++ r).dropWhile dg = r := by
  induction D with
  | nil =>
    cases r with
    | nil => exact ⟨rfl, rfl⟩
    | cons c t => have := hr c t rfl; simp [this]
  | cons c D ih =>
    obtain ⟨h1, h2⟩ := ih (fun c' hc' => hD c' (List.mem_cons_of_mem _ hc'))
    have hc : dg c = true := by have := hD c (by simp); simpa [dg] using this
    simp [hc, h1, h2]
theorem sgc_skip {S D r : List Nat} (hD : Dgs D) (hne : D.length ≠ 0) (hS : ∀ c ∈ S, dg c = false) : sgc S (D ++ r) = (0, D ++ r) := by
  cases D with
  | nil => exact absurd rfl hne
  | cons c D =>
    have hc := hD c (by simp)
    exact sgc_neg (fun q => by have h := hS c q; have h2 : dg c = true := by simpa [dg] using hc
                               rw [h2] at h; cases h)
def sgn45 (neg : Bool) : List Nat := if neg then [45] else []
theorem sgc_head {D r : List Nat} (neg : Bool) (hD : Dgs D) (hne : D.length ≠ 0) : (decide ((sgc [45] (sgn45 neg ++ (D ++ r))).1 ≠ 0) = neg) ∧ (sgc [45] (sgn45 neg ++ (D ++ r))).2 = D ++ r := by
  cases neg with
  | true => exact ⟨rfl, rfl⟩
  | false =>
    have h : sgc [45] (D ++ r) = (0, D ++ r) := sgc_skip hD hne (by decide)
    show decide ((sgc [45] (D ++ r)).1 ≠ 0) = false ∧ (sgc [45] (D ++ r)).2 = D ++ r
    rw [h]
    exact ⟨rfl, rfl⟩
theorem scT_round {neg : Bool} {D exp : List Nat} {pl : Nat} {low : Bool} {e : Int} (h1 : D.length ≤ 800) (h2 : exp.length ≤ 4) (he : (if low then -(dval exp : Int) else dval exp) - pl = e) (e1 : -2000 ≤ e) (e2 : e ≤ 2000) : scT neg D pl exp low true = rnd neg D e := by
  unfold scT
  rw [if_neg (by decide), if_neg (by omega), he, if_neg (by omega), if_neg (by omega)]
theorem sc_of {neg : Bool} {D0 r P r2 exp : List Nat} {low : Bool} {e : Int} (hD : Dgs D0) (hne : D0.length ≠ 0) (hr : Nd r) (hB : scB r = (true, P, r2)) (hC : scC r2 = (true, exp, low, []))
    (h1 : (D0 ++ P).length ≤ 800) (h2 : exp.length ≤ 4) (he : (if low then -(dval exp : Int) else dval exp) - P.length = e) (e1 : -2000 ≤ e) (e2 : e ≤ 2000) : sc (sgn45 neg ++ (D0 ++ r)) = rnd neg (D0 ++ P) e := by
  obtain ⟨a1, a2⟩ := sgc_head (r := r) neg hD hne
  obtain ⟨b1, b2⟩ := take_app hD hr
  unfold sc
  rw [a1, a2, b1, b2, hB]
  dsimp only
  rw [hC]
  dsimp only
  rw [decide_eq_true hne]
  exact scT_round h1 h2 he e1 e2
theorem scB_dot {P r2 : List Nat} (hP : Dgs P) (hne : P.length ≠ 0) (hr : Nd r2) : scB (46 :: (P ++ r2)) = (true, P, r2) := by
  have h : sgc [46] (46 :: (P ++ r2)) = (46, P ++ r2) := rfl
  obtain ⟨b1, b2⟩ := take_app hP hr
  rw [scB_pos (by rw [h]; exact Nat.succ_ne_zero 45), h]
  dsimp only
  rw [b1, b2, decide_eq_true hne]
theorem scB_no {r : List Nat} (h : ∀ c t, r = c :: t → c ≠ 46) : scB r = (true, [], r) := by
  have h2 : sgc [46] r = (0, r) := by
    cases r with
    | nil => rfl
    | cons c t => exact sgc_neg (by have := h c t rfl; simpa using this)
  rw [scB_neg (by rw [h2]), h2]
theorem scC_none : scC [] = (true, [], false, []) := rfl
theorem scC_exp (k : Int) : scC (101 :: itoN k) = (true, dec k.natAbs, decide (k < 0), []) := by
  have h : sgc [101, 69] (101 :: itoN k) = (101, itoN k) := rfl
  rw [scC_pos (by rw [h]; exact Nat.succ_ne_zero 100), h]
  dsimp only
  have hd := dgs_dec k.natAbs
  have hn := dec_ne k.natAbs
  obtain ⟨b1, b2⟩ := take_app hd nd_nil
  rw [List.append_nil] at b1 b2
  by_cases hk : k < 0
  · have h2 : sgc [43, 45] (itoN k) = (45, dec k.natAbs) := by
      unfold itoN
      rw [if_pos hk]
      rfl
    rw [h2]
    dsimp only
    rw [b1, b2, decide_eq_true hn, decide_eq_true hk]
    rfl
  · have h2 : sgc [43, 45] (itoN k) = (0, dec k.natAbs) := by
      unfold itoN
      rw [if_neg hk, show k.toNat = k.natAbs from by omega]
      have := sgc_skip (S := [43, 45]) (r := []) hd hn (by decide)
      rwa [List.append_nil] at this
    rw [h2]
    dsimp only
    rw [b1, b2, decide_eq_true hn, decide_eq_false hk]
    rfl
theorem exp_val {k : Int} (h1 : -1999 ≤ k) (h2 : k ≤ 1999) : (dec k.natAbs).length ≤ 4 ∧ (if decide (k < 0) = true then -(dval (dec k.natAbs) : Int) else dval (dec k.natAbs)) = k := by
  refine ⟨dec_le (n := 4) (by omega) (by decide), ?_⟩
  rw [dval_dec]
  by_cases hk : k < 0
  · rw [if_pos (decide_eq_true hk)]; omega
  · rw [if_neg (by simpa using hk)]; omega
theorem dval_zeros2 (m : Nat) : Dgs (List.replicate m 48) := fun c hc => by have := List.eq_of_mem_replicate hc; omega
/-- bits with their sign again -/
theorem rnd_unsign {x : Nat} {L : List Nat} {e : Int} (hx : x < 18446744073709551616) (h : rnd false L e = (x % 9223372036854775808, 0)) : rnd (decide (x / 9223372036854775808 = 1)) L e = (x, 0) := by
  have hs : ∀ y, y = x % 9223372036854775808 → sgn (decide (x / 9223372036854775808 = 1)) y = x := fun y hy => by
    unfold sgn
    by_cases q : x / 9223372036854775808 = 1
    · rw [if_pos (decide_eq_true q)]; omega
    · rw [if_neg (by simpa using q)]; omega
  unfold rnd at *
  split at h
  · exact absurd (Prod.mk.inj h).2 (by decide)
  rename_i h1
  rw [if_neg h1]
  split at h
  · exact absurd (Prod.mk.inj h).2 (by decide)
  rename_i h2
  rw [if_neg h2]
  split at h
  · exact absurd (Prod.mk.inj h).2 (by decide)
  rename_i h3
  rw [if_neg h3]
  split at h
  · exact absurd (Prod.mk.inj h).2 (by decide)
  rename_i h4
  rw [if_neg h4]
  split at h
  · rename_i h5
    rw [if_pos h5, hs 0 (Prod.mk.inj h).1]
  rename_i h5
  rw [if_neg h5]
  split at h
  · rename_i h6
    rw [if_pos h6, hs (near (dval L * tp e) (tp (-e))) (Prod.mk.inj h).1]
  · exact absurd (Prod.mk.inj h).2 (by decide)
/-- what a float's layout says is the float -/
theorem lay_back {x p : Nat} {e : Int} {neg : Bool} (hx : x < 18446744073709551616) (hneg : neg = decide (x / 9223372036854775808 = 1)) (b1 : x % 9223372036854775808 < 9218868437227405312) (b2 : x % 9223372036854775808 ≠ 0) (hS : Short x p e) :
    sc (sgn45 neg ++ lay (dec p) e) = (x, 0) := by
  obtain ⟨hp0, hp1, hp2, he1, he2, hh, _⟩ := hS
  have hd := dgs_dec p
  have hn := dec_ne p
  have hl : (dec p).length ≤ 17 := dec_le hp2 (by decide)
  have hr : rnd neg (dec p) e = (x, 0) := by rw [hneg]; exact rnd_unsign hx hh
  unfold lay
  by_cases c1 : (dec p).length + e < -5 ∨ 21 < (dec p).length + e
  · rw [if_pos c1]
    obtain ⟨x1, x2⟩ := exp_val (k := (dec p).length + e - 1) (by omega) (by omega)
    by_cases c2 : 1 < (dec p).length
    · rw [if_pos c2]
      have t1 : Dgs ((dec p).take 1) := hd.take 1
      have t2 : ((dec p).take 1).length ≠ 0 := by rw [List.length_take]; omega
      have t3 : Dgs ((dec p).drop 1) := hd.drop 1
      have t4 : ((dec p).drop 1).length = (dec p).length - 1 := List.length_drop
      have e1 : sgn45 neg ++ ((dec p).take 1 ++ ([46] ++ (dec p).drop 1) ++ [101] ++ itoN ((dec p).length + e - 1)) = sgn45 neg ++ ((dec p).take 1 ++ (46 :: ((dec p).drop 1 ++ (101 :: itoN ((dec p).length + e - 1))))) := by simp
      rw [e1, sc_of (e := e) t1 t2 (nd_cons (by decide)) (scB_dot t3 (by omega) (nd_cons (by decide))) (scC_exp _) (by rw [List.take_append_drop]; omega) x1 (by rw [x2, t4]; omega) (by omega) (by omega), List.take_append_drop]
      exact hr
    · rw [if_neg c2]
      have t1 : (dec p).take 1 = dec p := List.take_of_length_le (by omega)
      have e1 : sgn45 neg ++ ((dec p).take 1 ++ [] ++ [101] ++ itoN ((dec p).length + e - 1)) = sgn45 neg ++ (dec p ++ (101 :: itoN ((dec p).length + e - 1))) := by rw [t1]; simp
      rw [e1, sc_of (e := e) hd hn (nd_cons (by decide)) (scB_no (fun c t q => by cases q; decide)) (scC_exp _) (by rw [List.append_nil]; omega) x1 (by rw [x2]; simp; omega) (by omega) (by omega), List.append_nil]
      exact hr
  rw [if_neg c1]
  by_cases c3 : (dec p).length + e ≤ 0
  · rw [if_pos c3]
    obtain ⟨z, hz⟩ : ∃ z : Nat, (-((dec p).length + e)).toNat = z := ⟨_, rfl⟩
    rw [hz]
    have t3 : Dgs (List.replicate z 48 ++ dec p) := Dgs.append (dval_zeros2 z) hd
    have t4 : (List.replicate z 48 ++ dec p).length = z + (dec p).length := by rw [List.length_append, List.length_replicate]
    have e1 : sgn45 neg ++ ([48, 46] ++ List.replicate z 48 ++ dec p) = sgn45 neg ++ ([48] ++ (46 :: ((List.replicate z 48 ++ dec p) ++ []))) := by simp
    rw [e1, sc_of (e := e) (D0 := [48]) (by intro c hc; simp at hc; omega) (by decide) (nd_cons (by decide)) (scB_dot t3 (by omega) nd_nil) scC_none (by rw [List.length_append, t4]; simp; omega) (by decide) (by rw [t4]; show (0 : Int) - _ = _; omega) (by omega) (by omega)]
    rw [rnd_congr (M := dec p) (Dgs.append (by intro c hc; simp at hc; omega) t3) hd (by rw [List.length_append, t4]; simp; omega) (by omega) (by simp) hn (by rw [dval_append, dval_append, dval_zeros]; simp [dval])]
    exact hr
  rw [if_neg c3]
  by_cases c4 : (dec p).length + e < (dec p).length
  · rw [if_pos c4]
    obtain ⟨z, hz⟩ : ∃ z : Nat, ((dec p).length + e).toNat = z := ⟨_, rfl⟩
    rw [hz]
    have t4 : ((dec p).drop z).length = (dec p).length - z := List.length_drop
    have t5 : ((dec p).take z).length ≠ 0 := by rw [List.length_take]; omega
    have e1 : sgn45 neg ++ ((dec p).take z ++ [46] ++ (dec p).drop z) = sgn45 neg ++ ((dec p).take z ++ (46 :: ((dec p).drop z ++ []))) := by simp
    rw [e1, sc_of (e := e) (hd.take z) t5 (nd_cons (by decide)) (scB_dot (hd.drop z) (by omega) nd_nil) scC_none (by rw [List.take_append_drop]; omega) (by decide) (by rw [t4]; show (0 : Int) - _ = _; omega) (by omega) (by omega), List.take_append_drop]
    exact hr
  · rw [if_neg c4]
    obtain ⟨z, hz⟩ : ∃ z : Nat, ((dec p).length + e - (dec p).length).toNat = z := ⟨_, rfl⟩
    rw [hz]
    have hez : e = z := by omega
    have t1 : Dgs (dec p ++ List.replicate z 48) := Dgs.append hd (dval_zeros2 z)
    have t2 : (dec p ++ List.replicate z 48).length = (dec p).length + z := by rw [List.length_append, List.length_replicate]
    have t48 : Dgs [48] := by intro c hc; simp at hc; omega
    have e1 : sgn45 neg ++ (dec p ++ List.replicate z 48 ++ [46, 48]) = sgn45 neg ++ ((dec p ++ List.replicate z 48) ++ (46 :: ([48] ++ []))) := by simp
    have hz3 : p * 10 ^ (z + 1) < 10 ^ 200 := by
      have q1 : 10 ^ (z + 1) ≤ 10 ^ 100 := Nat.pow_le_pow_right (by decide) (by omega)
      have q2 : p * 10 ^ (z + 1) ≤ 10 ^ 17 * 10 ^ 100 := Nat.mul_le_mul (Nat.le_of_lt hp2) q1
      have q3 : (10 : Nat) ^ 17 * 10 ^ 100 < 10 ^ 200 := by decide
      omega
    have hq := (hit_tens b1 b2 hp0 (z + 1) (-1) hz3 (by omega) (by omega)).2 (by rw [show (-1 : Int) + ((z + 1 : Nat) : Int) = e from by omega]; exact hh)
    rw [e1, sc_of (e := -1) t1 (by omega) (nd_cons (by decide)) (scB_dot t48 (by decide) nd_nil) scC_none (by rw [List.length_append, t2]; simp; omega) (by decide) rfl (by omega) (by omega)]
    have hr2 : rnd neg (dec (p * 10 ^ (z + 1))) (-1) = (x, 0) := by rw [hneg]; exact rnd_unsign hx hq
    have hl2 : (dec (p * 10 ^ (z + 1))).length ≤ 200 := dec_le hz3 (by decide)
    rw [rnd_congr (M := dec (p * 10 ^ (z + 1))) (Dgs.append t1 t48) (dgs_dec _) (by rw [List.length_append, t2]; simp; omega) (by omega) (by simp) (dec_ne _) (by
      rw [dval_append, dval_append, dval_zeros, dval_dec, dval_dec, List.length_replicate]
      show (p * 10 ^ z + 0) * 10 ^ 1 + 0 = _
      rw [Nat.add_zero, Nat.add_zero, Nat.pow_one, Nat.mul_assoc, ← Nat.pow_succ])]
    exact hr2
/-- zero -/
theorem lay_zero {x : Nat} {neg : Bool} (hx : x < 18446744073709551616) (hneg : neg = decide (x / 9223372036854775808 = 1)) (h0 : x % 9223372036854775808 = 0) : sc (sgn45 neg ++ lay [48] 0) = (x, 0) := by
  have e1 : lay [48] 0 = [48] ++ (46 :: ([48] ++ [])) := by decide
  rw [e1, sc_of (e := -1) (by intro c hc; simp at hc; omega) (by decide) (nd_cons (by decide)) (scB_dot (by intro c hc; simp at hc; omega) (by decide) nd_nil) scC_none (by decide) (by decide) rfl (by omega) (by omega), hneg]
  apply rnd_unsign hx
  rw [h0]
  decide +kernel
end Go.Proofs.YtffncomekbfihaaDoor.Nat
