/- The shortest digits, as plain arithmetic. -/
import Derived.Test.YtffncomekbfihaaGreatDoorRound
import Derived.Test.YtffncomekbfihaaGreatDoorDecPure
import Derived.Test.YtffncomekbfihaaGreatDoorNearScale
namespace Go.Proofs.YtffncomekbfihaaGreatDoor.Nat
set_option linter.unusedVariables false
set_option linter.unusedSimpArgs false
theorem tp_step (e : Int) (k : Nat) : tp (e + k) * tp (-e) = tp e * tp (-(e + k)) * 10 ^ k := by
  unfold tp
  rw [← Nat.pow_add, ← Nat.pow_add, ← Nat.pow_add]
  congr 1
  omega
/-- the whole part of a ratio over a power of ten -/
def qd (a b : Nat) (e : Int) : Nat := a * tp (-e) / (b * tp e)
/-- the highest digit's place -/
def IsTen (a b : Nat) (h : Int) : Prop := b * tp h ≤ a * tp (-h) ∧ a * tp (-(h + 1)) < b * tp (h + 1)
theorem ten_ge {a b k : Nat} {e : Int} : b * tp (e + k) ≤ a * tp (-(e + k)) ↔ 10 ^ k * (b * tp e) ≤ a * tp (-e) := by
  have s := tp_step e k
  have p1 := tp_pos (-e)
  have p2 := tp_pos (-(e + k))
  constructor
  · intro h
    have h1 := Nat.mul_le_mul_right (tp (-e)) h
    rw [Nat.mul_assoc, s] at h1
    refine Nat.le_of_mul_le_mul_right ?_ p2
    calc 10 ^ k * (b * tp e) * tp (-(e + k)) = b * (tp e * tp (-(e + k)) * 10 ^ k) := by simp only [Nat.mul_assoc, Nat.mul_comm, Nat.mul_left_comm]
      _ ≤ a * tp (-(e + k)) * tp (-e) := h1
      _ = a * tp (-e) * tp (-(e + k)) := by simp only [Nat.mul_assoc, Nat.mul_comm, Nat.mul_left_comm]
  · intro h
    have h1 := Nat.mul_le_mul_right (tp (-(e + k))) h
    refine Nat.le_of_mul_le_mul_right ?_ p1
    calc b * tp (e + k) * tp (-e) = b * (tp e * tp (-(e + k)) * 10 ^ k) := by rw [Nat.mul_assoc, s]
      _ = 10 ^ k * (b * tp e) * tp (-(e + k)) := by simp only [Nat.mul_assoc, Nat.mul_comm, Nat.mul_left_comm]
      _ ≤ a * tp (-e) * tp (-(e + k)) := h1
      _ = a * tp (-(e + k)) * tp (-e) := by simp only [Nat.mul_assoc, Nat.mul_comm, Nat.mul_left_comm]
theorem qd_ge {a b k : Nat} {e : Int} (hb : b ≠ 0) (h : IsTen a b (e + k)) : 10 ^ k ≤ qd a b e :=
  (Nat.le_div_iff_mul_le (Nat.mul_pos (Nat.pos_of_ne_zero hb) (tp_pos _))).2 (ten_ge.1 h.1)
theorem qd_lt {a b k : Nat} {e : Int} (hb : b ≠ 0) (h : IsTen a b (e + k)) : qd a b e < 10 ^ (k + 1) := by
  unfold qd
  rw [Nat.div_lt_iff_lt_mul (Nat.mul_pos (Nat.pos_of_ne_zero hb) (tp_pos _))]
  have h2 := h.2
  rw [show e + (k : Int) + 1 = e + ((k + 1 : Nat) : Int) from by omega] at h2
  exact Nat.lt_of_not_le (fun c => Nat.not_le.2 h2 (ten_ge.2 c))
theorem qd_step {a b : Nat} {e : Int} (hb : b ≠ 0) : qd a b (e + 1) = qd a b e / 10 := by
  unfold qd
  rw [Nat.div_div_eq_div_mul]
  have s := tp_step e 1
  rw [show e + ((1 : Nat) : Int) = e + 1 from rfl, Nat.pow_one] at s
  have p1 := tp_pos (-e)
  have p2 := tp_pos (-(e + 1))
  have e1 : a * tp (-(e + 1)) / (b * tp (e + 1)) = a * tp (-(e + 1)) * tp (-e) / (b * tp (e + 1) * tp (-e)) := (Nat.mul_div_mul_right _ _ p1).symm
  have e2 : a * tp (-e) / (b * tp e * 10) = a * tp (-e) * tp (-(e + 1)) / (b * tp e * 10 * tp (-(e + 1))) := (Nat.mul_div_mul_right _ _ p2).symm
  rw [e1, e2]
  congr 1
  · rw [Nat.mul_assoc, Nat.mul_assoc, Nat.mul_comm (tp _)]
  · rw [Nat.mul_assoc, s]
    simp only [Nat.mul_assoc, Nat.mul_comm, Nat.mul_left_comm]
/-- the nearer one of two whole parts -/
def fst (a b : Nat) (e : Int) : Nat := rhe (a * tp (-e)) (b * tp e)
theorem rhe_half (a b : Nat) (hb : 0 < b) : 2 * (rhe a b * b) ≤ 2 * a + b ∧ 2 * a ≤ 2 * (rhe a b * b) + b := by
  have h1 := Nat.div_add_mod a b
  have h2 := Nat.mod_lt a hb
  rw [Nat.mul_comm] at h1
  unfold rhe
  split
  · rw [Nat.add_mul, Nat.one_mul]; omega
  · omega
/-- seventeen digits are enough -/
theorem fst_near {x : Nat} {e : Int} (h0 : xM x ≠ 0) (h : IsTen (xM x * up (xX x)) (up (-(xX x))) (e + (16 : Nat))) :
    near (fst (xM x * up (xX x)) (up (-(xX x))) e * tp e) (tp (-e)) = x % 9223372036854775808 := by
  have p1 := up_pos (xX x)
  have p2 := up_pos (-(xX x))
  have p3 := tp_pos e
  have p4 := tp_pos (-e)
  have g := ten_ge.1 h.1
  have hh := rhe_half (xM x * up (xX x) * tp (-e)) (up (-(xX x)) * tp e) (Nat.mul_pos p2 p3)
  have hq : 1 ≤ fst (xM x * up (xX x)) (up (-(xX x))) e := by
    unfold fst
    refine le_rhe 1 (Nat.mul_pos p2 p3) ?_
    omega
  rw [show fst (xM x * up (xX x)) (up (-(xX x))) e = rhe (xM x * up (xX x) * tp (-e)) (up (-(xX x)) * tp e) from rfl] at *
  generalize rhe (xM x * up (xX x) * tp (-e)) (up (-(xX x)) * tp e) = p at *
  have c1 : p * tp e * (18014398509481984 * up (-(xX x))) = 18014398509481984 * (p * (up (-(xX x)) * tp e)) := by simp only [Nat.mul_assoc, Nat.mul_comm, Nat.mul_left_comm]
  have c2 : xM x * 18014398509481985 * up (xX x) * tp (-e) = 18014398509481985 * (xM x * up (xX x) * tp (-e)) := by simp only [Nat.mul_assoc, Nat.mul_comm, Nat.mul_left_comm]
  have c3 : xM x * 18014398509481983 * up (xX x) * tp (-e) = 18014398509481983 * (xM x * up (xX x) * tp (-e)) := by simp only [Nat.mul_assoc, Nat.mul_comm, Nat.mul_left_comm]
  refine near_about h0 (Nat.mul_ne_zero (by omega) (by omega)) (by omega) ?_ ?_
  · rw [c1, c2]
    generalize p * (up (-(xX x)) * tp e) = P at *
    generalize xM x * up (xX x) * tp (-e) = A at *
    generalize up (-(xX x)) * tp e = B at *
    omega
  · rw [c1, c3]
    generalize p * (up (-(xX x)) * tp e) = P at *
    generalize xM x * up (xX x) * tp (-e) = A at *
    generalize up (-(xX x)) * tp e = B at *
    omega
/-- digits that are rounded to given bits -/
def Hit (x p : Nat) (e : Int) : Prop := rnd false (dec p) e = (x % 9223372036854775808, 0)
theorem dec_le {v n : Nat} (h : v < 10 ^ n) (hn : n ≠ 0) : (dec v).length ≤ n := by
  by_cases h0 : v = 0
  · subst h0
    have : (dec 0).length = 1 := by decide
    omega
  · rw [dec_length h0]; exact lo_length h
theorem rnd_dec {p : Nat} {e : Int} (hp : p ≠ 0) (hl : p < 10 ^ 200) (h1 : -2000 ≤ e) (h2 : e ≤ 2000) :
    rnd false (dec p) e = if near (p * tp e) (tp (-e)) < 9218868437227405312 then (near (p * tp e) (tp (-e)), 0) else (0, 8) := by
  have l1 := dec_le hl (by decide)
  have l2 := dec_ne p
  have hd : dgB (dec p) = true := (dgB_iff _).2 (dgs_dec p)
  unfold rnd
  rw [if_neg (by omega), if_neg l2, if_neg (by rw [hd]; decide), if_neg (by omega), dval_dec, if_neg hp]
  rfl
theorem hit_iff {x p : Nat} {e : Int} (hx : x % 9223372036854775808 < 9218868437227405312) (h0 : x % 9223372036854775808 ≠ 0) (hp : p ≠ 0) (hl : p < 10 ^ 200) (h1 : -2000 ≤ e) (h2 : e ≤ 2000) :
    Hit x p e ↔ near (p * tp e) (tp (-e)) = x % 9223372036854775808 := by
  unfold Hit
  rw [rnd_dec hp hl h1 h2]
  constructor
  · intro h
    split at h
    · exact (Prod.mk.inj h).1
    · have := (Prod.mk.inj h).2
      omega
  · intro h
    rw [if_pos (by omega), h]
theorem hit_ten {x p : Nat} {e : Int} (hx : x % 9223372036854775808 < 9218868437227405312) (h0 : x % 9223372036854775808 ≠ 0) (hp : p ≠ 0) (hl : p * 10 < 10 ^ 200) (h1 : -1999 ≤ e) (h2 : e ≤ 1999) :
    Hit x (p * 10) e ↔ Hit x p (e + 1) := by
  rw [hit_iff hx h0 (by omega) hl (by omega) (by omega), hit_iff hx h0 hp (by omega) (by omega) (by omega)]
  have s := tp_step e 1
  rw [show e + ((1 : Nat) : Int) = e + 1 from rfl, Nat.pow_one] at s
  have p1 := tp_pos e
  have p2 := tp_pos (-e)
  have p3 := tp_pos (e + 1)
  have p4 := tp_pos (-(e + 1))
  have : near (p * 10 * tp e) (tp (-e)) = near (p * tp (e + 1)) (tp (-(e + 1))) := by
    refine near_same (Nat.mul_ne_zero (by omega) (by omega)) (by omega) (Nat.mul_ne_zero hp (by omega)) (by omega) ?_
    rw [Nat.mul_assoc p (tp (e + 1)), s]
    simp only [Nat.mul_assoc, Nat.mul_comm, Nat.mul_left_comm]
  rw [this]
theorem hit_tens {x p : Nat} (hx : x % 9223372036854775808 < 9218868437227405312) (h0 : x % 9223372036854775808 ≠ 0) (hp : p ≠ 0) : ∀ (z : Nat) (e : Int), p * 10 ^ z < 10 ^ 200 → -1000 ≤ e → e + z ≤ 1999 → (Hit x (p * 10 ^ z) e ↔ Hit x p (e + z)) := by
  intro z
  induction z with
  | zero =>
    intro e _ _ _
    rw [Nat.pow_zero, Nat.mul_one, show e + ((0 : Nat) : Int) = e from by omega]
  | succ z ih =>
    intro e hl h1 h2
    have hz := Nat.pow_pos (n := z) (show 0 < 10 by decide)
    have hz2 := Nat.mul_pos (Nat.pos_of_ne_zero hp) hz
    rw [Nat.pow_succ, ← Nat.mul_assoc] at *
    rw [hit_ten hx h0 (by omega) hl (by omega) (by omega), ih (e + 1) (by omega) (by omega) (by omega)]
    rw [show e + 1 + (z : Int) = e + ((z + 1 : Nat) : Int) from by omega]
/-- what fdec.Shortest says of some bits, that aren't 0: digits that hit, of which none can be left out -/
def Short (x p : Nat) (e : Int) : Prop := p ≠ 0 ∧ p % 10 ≠ 0 ∧ p < 10 ^ 17 ∧ -1000 ≤ e ∧ e ≤ 1000 ∧ Hit x p e ∧ (10 ≤ p → ¬ Hit x (p / 10) (e + 1) ∧ ¬ Hit x (p / 10 + 1) (e + 1))
/-- what the search ends with -/
theorem short_of {x a b p t n z : Nat} {e : Int} (hx : x % 9223372036854775808 < 9218868437227405312) (h0 : x % 9223372036854775808 ≠ 0) (hb : b ≠ 0) (ht : IsTen a b (e + n))
    (hn : n ≤ 16) (h1 : -900 ≤ e) (h2 : e ≤ 900) (hp : t = qd a b e ∨ t = qd a b e + 1) (hhit : Hit x t e)
    (hlast : n ≠ 0 → ¬ Hit x (qd a b (e + 1)) (e + 1) ∧ ¬ Hit x (qd a b (e + 1) + 1) (e + 1))
    (ht2 : t = p * 10 ^ z) (hpd : p % 10 ≠ 0) (hz : z ≤ 20) : Short x p (e + z) := by
  have g1 := qd_ge hb ht
  have g2 := qd_lt hb ht
  have g3 : 10 ^ (n + 1) ≤ 10 ^ 17 := Nat.pow_le_pow_right (by decide) (by omega)
  have g4 := Nat.pow_pos (n := n) (show 0 < 10 by decide)
  have g5 := Nat.pow_pos (n := z) (show 0 < 10 by decide)
  have hp0 : p ≠ 0 := fun c => by subst c; simp at hpd
  have gt : t ≤ 10 ^ 17 := by omega
  have gl : (10 : Nat) ^ 17 < 10 ^ 200 := Nat.pow_lt_pow_right (by decide) (by decide)
  have hpt : p ≤ t := by rw [ht2]; exact Nat.le_mul_of_pos_right _ g5
  have hhp : Hit x p (e + z) := (hit_tens hx h0 hp0 z e (by rw [← ht2]; omega) (by omega) (by omega)).1 (ht2 ▸ hhit)
  have hp17 : p < 10 ^ 17 := by
    rcases Nat.lt_or_ge p (10 ^ 17) with q | q
    · exact q
    · exfalso
      have : p = 10 ^ 17 := by omega
      rw [this] at hpd
      exact hpd (by decide)
  refine ⟨hp0, hpd, hp17, by omega, by omega, hhp, fun h10 => ?_⟩
  by_cases hn0 : n = 0
  · exfalso
    subst hn0
    rw [Nat.pow_zero, Nat.pow_one] at *
    have : p = 10 := by omega
    rw [this] at hpd
    exact hpd rfl
  obtain ⟨l1, l2⟩ := hlast hn0
  have hs := qd_step (a := a) (e := e) hb
  have gn : 10 ≤ qd a b e := Nat.le_trans (by rw [show n = n - 1 + 1 from by omega, Nat.pow_succ]; have := Nat.pow_pos (n := n - 1) (show 0 < 10 by decide); omega) g1
  have hz0 : z = 0 := by
    rcases Nat.eq_zero_or_pos z with q | q
    · exact q
    · exfalso
      have e1 : t = t / 10 * 10 := by
        have : t % 10 = 0 := by rw [ht2, show z = z - 1 + 1 from by omega, Nat.pow_succ, ← Nat.mul_assoc, Nat.mul_mod_left]
        omega
      have h3 : Hit x (t / 10) (e + 1) := (hit_ten hx h0 (by omega) (by omega) (by omega) (by omega)).1 (e1 ▸ hhit)
      rcases hp with q | q
      · rw [q, ← hs] at h3; exact l1 h3
      · rw [show t / 10 = qd a b e / 10 + 1 from by omega, ← hs] at h3; exact l2 h3
  subst hz0
  rw [Nat.pow_zero, Nat.mul_one] at ht2
  subst ht2
  rw [show e + ((0 : Nat) : Int) + 1 = e + 1 from by omega]
  have : t / 10 = qd a b (e + 1) := by rw [hs]; omega
  rw [this]
  exact ⟨l1, l2⟩
end Go.Proofs.YtffncomekbfihaaGreatDoor.Nat
