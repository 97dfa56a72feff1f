/- The float nearest to a ratio of two numbers, as plain arithmetic: what it is, and that more is no less. -/
import Derived.Test.YtffncomekbfihaaGreatDoorProg
namespace Go.Proofs.YtffncomekbfihaaGreatDoor.Nat
set_option linter.unusedVariables false
/-- the whole number nearest to a / b, halves to the even one -/
def rhe (a b : Nat) : Nat := if b < 2 * (a % b) ∨ (2 * (a % b) = b ∧ a / b % 2 = 1) then a / b + 1 else a / b
theorem rhe_mono {a b a' b' : Nat} (hb : 0 < b) (hb' : 0 < b') (h : a * b' ≤ a' * b) : rhe a b ≤ rhe a' b' := by
  have e1 := Nat.div_add_mod a b
  have e2 := Nat.div_add_mod a' b'
  have l1 : a % b < b := Nat.mod_lt _ hb
  have l2 : a' % b' < b' := Nat.mod_lt _ hb'
  have hq : a / b ≤ a' / b' := by
    rw [Nat.le_div_iff_mul_le hb']
    have h1 : a / b * b' * b ≤ a' * b := by
      refine Nat.le_trans ?_ h
      have h2 : a / b * b ≤ a := Nat.div_mul_le_self a b
      calc a / b * b' * b = a / b * b * b' := by rw [Nat.mul_right_comm]
        _ ≤ a * b' := Nat.mul_le_mul_right _ h2
    exact Nat.le_of_mul_le_mul_right h1 hb
  unfold rhe
  rcases Nat.lt_or_ge (a / b) (a' / b') with hlt | hge
  · split <;> split <;> omega
  · have he : a / b = a' / b' := Nat.le_antisymm hq hge
    -- the rests stand to each other as the ratios do
    have hr : a % b * b' ≤ a' % b' * b := by
      have h1 : (b * (a / b) + a % b) * b' ≤ (b' * (a' / b') + a' % b') * b := by rw [e1, e2]; exact h
      rw [Nat.add_mul, Nat.add_mul, he] at h1
      have h2 : b * (a' / b') * b' = b' * (a' / b') * b := by
        rw [Nat.mul_comm b, Nat.mul_comm b', Nat.mul_assoc, Nat.mul_assoc, Nat.mul_comm b b']
      omega
    rw [he]
    generalize a % b = r at *
    generalize a' % b' = r' at *
    generalize a' / b' = q at *
    by_cases c : b' < 2 * r' ∨ (2 * r' = b' ∧ q % 2 = 1)
    · rw [if_pos c]; split <;> omega
    · rw [if_neg c]
      have n1 : ¬ b' < 2 * r' := fun z => c (.inl z)
      have h3 : r * b' * 2 ≤ b * b' := by
        have h4 : r' * b * 2 ≤ b' * b := by
          calc r' * b * 2 = 2 * r' * b := by rw [Nat.mul_comm, ← Nat.mul_assoc]
            _ ≤ b' * b := Nat.mul_le_mul_right _ (by omega)
        rw [Nat.mul_comm b b']
        omega
      have h5 : 2 * r ≤ b := by
        have h6 : 2 * r * b' ≤ b * b' := by
          calc 2 * r * b' = r * b' * 2 := by rw [Nat.mul_assoc, Nat.mul_comm]
            _ ≤ b * b' := h3
        exact Nat.le_of_mul_le_mul_right h6 hb'
      rw [if_neg]
      · exact Nat.le_refl _
      · rintro (z | ⟨z, zo⟩)
        · omega
        · -- a half here: a half there
          have h7 : 2 * r * b' = b * b' := by rw [z]
          have h8 : 2 * r' * b ≤ b' * b := Nat.mul_le_mul_right _ (by omega)
          have h9 : 2 * r * b' = 2 * (r * b') := Nat.mul_assoc _ _ _
          have h10 : 2 * r' * b = 2 * (r' * b) := Nat.mul_assoc _ _ _
          have h11 : b' * b = b * b' := Nat.mul_comm _ _
          have h12 : 2 * r' * b = b' * b := by omega
          have h13 := Nat.eq_of_mul_eq_mul_right hb h12
          exact c (.inr ⟨h13, zo⟩)
theorem rhe_le {a b : Nat} (n : Nat) (hb : 0 < b) (h : a < n * b) : rhe a b ≤ n := by
  have h1 : a / b < n := (Nat.div_lt_iff_lt_mul hb).2 h
  unfold rhe; split <;> omega
theorem le_rhe {a b : Nat} (n : Nat) (hb : 0 < b) (h : n * b ≤ a) : n ≤ rhe a b := by
  have h1 : n ≤ a / b := (Nat.le_div_iff_mul_le hb).2 h
  unfold rhe; split <;> omega
/-- two to a power, above or below 0 -/
def up (e : Int) : Nat := 2 ^ e.toNat
theorem up_pos (e : Int) : 0 < up e := Nat.two_pow_pos _
/-- 2 ^ e ≤ a / b -/
def geP (a b : Nat) (e : Int) : Prop := b * up e ≤ a * up (-e)
theorem up_step (e : Int) (k : Nat) : up (e + k) * up (-e) = up e * up (-(e + k)) * 2 ^ k := by
  unfold up
  rw [← Nat.pow_add, ← Nat.pow_add, ← Nat.pow_add]
  congr 1
  omega
theorem geP_down {a b : Nat} {e : Int} (k : Nat) (h : geP a b (e + k)) : geP a b e := by
  unfold geP at *
  have h1 := up_step e k
  have h2 : b * up (e + k) * up (-e) ≤ a * up (-(e + k)) * up (-e) := Nat.mul_le_mul_right _ h
  rw [Nat.mul_assoc, h1] at h2
  have h3 : b * up e * (up (-(e + k)) * 2 ^ k) ≤ a * up (-e) * (up (-(e + k)) * 1) := by
    calc b * up e * (up (-(e + k)) * 2 ^ k) = b * (up e * up (-(e + k)) * 2 ^ k) := by rw [Nat.mul_assoc b, Nat.mul_assoc (up e)]
      _ ≤ a * up (-(e + k)) * up (-e) := h2
      _ = a * up (-e) * (up (-(e + k)) * 1) := by rw [Nat.mul_one, Nat.mul_right_comm]
  have h4 : up (-(e + k)) * 1 ≤ up (-(e + k)) * 2 ^ k := Nat.mul_le_mul_left _ (Nat.two_pow_pos k)
  have h5 : b * up e * (up (-(e + k)) * 1) ≤ a * up (-e) * (up (-(e + k)) * 1) := Nat.le_trans (Nat.mul_le_mul_left _ h4) h3
  exact Nat.le_of_mul_le_mul_right h5 (by rw [Nat.mul_one]; exact up_pos _)
theorem geP_mono {a b a' b' : Nat} {e : Int} (hb : 0 < b) (h : a * b' ≤ a' * b) (g : geP a b e) : geP a' b' e := by
  unfold geP at *
  have h1 : b' * up e * b ≤ a' * up (-e) * b := by
    calc b' * up e * b = b' * (b * up e) := by rw [Nat.mul_assoc, Nat.mul_comm (up e)]
      _ ≤ b' * (a * up (-e)) := Nat.mul_le_mul_left _ g
      _ = a * b' * up (-e) := by rw [← Nat.mul_assoc, Nat.mul_comm b']
      _ ≤ a' * b * up (-e) := Nat.mul_le_mul_right _ h
      _ = a' * up (-e) * b := by rw [Nat.mul_right_comm]
  exact Nat.le_of_mul_le_mul_right h1 hb
/-- e is the logarithm of a / b, down -/
def IsLog (a b : Nat) (e : Int) : Prop := geP a b e ∧ ¬ geP a b (e + 1)
theorem log_le {a b a' b' : Nat} {e e' : Int} (hb : 0 < b) (h : a * b' ≤ a' * b) (k : IsLog a b e) (k' : IsLog a' b' e') : e ≤ e' := by
  rcases Int.lt_or_le e' e with h1 | h1
  · exfalso
    have h2 := geP_mono hb h k.1
    obtain ⟨n, hn⟩ : ∃ n : Nat, e = (e' + 1) + n := ⟨(e - (e' + 1)).toNat, by omega⟩
    rw [hn] at h2
    exact k'.2 (geP_down n h2)
  · exact h1
/-- how far the last bit of the fraction lies -/
def uOf (e : Int) : Int := max (e - 52) (-1074)
/-- the bits, before it is looked whether they are too many -/
def bitsQ (a b : Nat) (e : Int) : Nat := (uOf e + 1074).toNat * 4503599627370496 + rhe (a * up (-uOf e)) (b * up (uOf e))
theorem n_le {a b : Nat} {e : Int} (hb : 0 < b) (k : IsLog a b e) : rhe (a * up (-uOf e)) (b * up (uOf e)) ≤ 9007199254740992 := by
  refine rhe_le _ (Nat.mul_pos hb (up_pos _)) ?_
  -- 2 ^ (u + 53) is above a / b
  have h1 : ¬ geP a b (uOf e + 53) := by
    intro g
    obtain ⟨n, hn⟩ : ∃ n : Nat, uOf e + 53 = (e + 1) + n := ⟨(uOf e + 53 - (e + 1)).toNat, by unfold uOf; omega⟩
    rw [hn] at g
    exact k.2 (geP_down n g)
  have h2 := up_step (uOf e) 53
  unfold geP at h1
  have h3 : a * up (-(uOf e + 53)) < b * up (uOf e + 53) := Nat.lt_of_not_le h1
  rcases Nat.lt_or_ge (a * up (-uOf e)) (9007199254740992 * (b * up (uOf e))) with z | z
  · exact z
  · exfalso
    have h4 : 9007199254740992 * (b * up (uOf e)) * up (-(uOf e + 53)) ≤ a * up (-uOf e) * up (-(uOf e + 53)) := Nat.mul_le_mul_right _ z
    have h5 : 9007199254740992 * (b * up (uOf e)) * up (-(uOf e + 53)) = b * (up (uOf e + 53) * up (-uOf e)) := by
      have e53 : (2 : Nat) ^ 53 = 9007199254740992 := by decide
      have h2' : up (uOf e + 53) * up (-uOf e) = up (uOf e) * up (-(uOf e + 53)) * 2 ^ 53 := h2
      rw [h2', e53, Nat.mul_comm 9007199254740992, Nat.mul_right_comm, Nat.mul_assoc b, Nat.mul_assoc b]
    have h6 : a * up (-(uOf e + 53)) * up (-uOf e) < b * up (uOf e + 53) * up (-uOf e) := Nat.mul_lt_mul_of_pos_right h3 (up_pos _)
    rw [h5, ← Nat.mul_assoc, Nat.mul_right_comm a] at h4
    omega
theorem le_n {a b : Nat} {e : Int} (hb : 0 < b) (k : IsLog a b e) (hu : -1074 < uOf e) : 4503599627370496 ≤ rhe (a * up (-uOf e)) (b * up (uOf e)) := by
  refine le_rhe _ (Nat.mul_pos hb (up_pos _)) ?_
  have he : e = uOf e + 52 := by unfold uOf at *; omega
  have h1 := k.1
  rw [he] at h1
  generalize uOf e = u at *
  unfold geP at h1
  have h2 : up (u + 52) * up (-u) = up u * up (-(u + 52)) * 2 ^ 52 := up_step u 52
  have h3 : b * up (u + 52) * up (-u) ≤ a * up (-(u + 52)) * up (-u) := Nat.mul_le_mul_right _ h1
  rw [Nat.mul_assoc, h2] at h3
  have h4 : 4503599627370496 * (b * up u) * up (-(u + 52)) ≤ a * up (-u) * up (-(u + 52)) := by
    have e52 : (2 : Nat) ^ 52 = 4503599627370496 := by decide
    calc 4503599627370496 * (b * up u) * up (-(u + 52)) = b * (up u * up (-(u + 52)) * 2 ^ 52) := by rw [e52, Nat.mul_comm 4503599627370496, Nat.mul_right_comm, Nat.mul_assoc b, Nat.mul_assoc b]
      _ ≤ a * up (-(u + 52)) * up (-u) := h3
      _ = a * up (-u) * up (-(u + 52)) := Nat.mul_right_comm _ _ _
  exact Nat.le_of_mul_le_mul_right h4 (up_pos _)
/-- more is no less -/
theorem bits_mono {a b a' b' : Nat} {e e' : Int} (hb : 0 < b) (hb' : 0 < b') (h : a * b' ≤ a' * b) (k : IsLog a b e) (k' : IsLog a' b' e') : bitsQ a b e ≤ bitsQ a' b' e' := by
  have hle := log_le hb h k k'
  have hu : uOf e ≤ uOf e' := by unfold uOf; omega
  unfold bitsQ
  rcases Int.lt_or_le (uOf e) (uOf e') with z | z
  · have h1 := n_le hb k
    have h2 := le_n hb' k' (by unfold uOf at z ⊢; omega)
    generalize rhe _ _ = n1 at h1 ⊢
    generalize rhe _ _ = n2 at h2 ⊢
    have h3 : (uOf e + 1074).toNat + 1 ≤ (uOf e' + 1074).toNat := by unfold uOf at *; omega
    have h4 := Nat.mul_le_mul_right 4503599627370496 h3
    omega
  · have hq : uOf e = uOf e' := Int.le_antisymm hu z
    rw [hq]
    refine Nat.add_le_add_left (rhe_mono (Nat.mul_pos hb (up_pos _)) (Nat.mul_pos hb' (up_pos _)) ?_) _
    calc a * up (-uOf e') * (b' * up (uOf e')) = a * b' * (up (-uOf e') * up (uOf e')) := by rw [Nat.mul_mul_mul_comm]
      _ ≤ a' * b * (up (-uOf e') * up (uOf e')) := Nat.mul_le_mul_right _ h
      _ = a' * up (-uOf e') * (b * up (uOf e')) := by rw [Nat.mul_mul_mul_comm]
/-- the same ratio, the same bits -/
theorem bits_same {a b a' b' : Nat} {e e' : Int} (hb : 0 < b) (hb' : 0 < b') (h : a * b' = a' * b) (k : IsLog a b e) (k' : IsLog a' b' e') : bitsQ a b e = bitsQ a' b' e' :=
  Nat.le_antisymm (bits_mono hb hb' (Nat.le_of_eq h) k k') (bits_mono hb' hb (Nat.le_of_eq h.symm) k' k)
end Go.Proofs.YtffncomekbfihaaGreatDoor.Nat
