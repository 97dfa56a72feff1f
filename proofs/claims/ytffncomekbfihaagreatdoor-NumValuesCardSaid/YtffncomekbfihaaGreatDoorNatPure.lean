/- Numbers by their limbs (plain arithmetic, no program in sight). -/
import Derived.Test.YtffncomekbfihaaGreatDoorProg
namespace Go.Proofs.YtffncomekbfihaaGreatDoor.Nat
set_option linter.unusedVariables false
/-- the number of limbs, the lowest first -/
def nv : List Nat → Nat
  | [] => 0
  | x :: l => x + 4294967296 * nv l
def Ok (l : List Nat) : Prop := ∀ x ∈ l, x < 4294967296
/-- how many limbs are left without limbs 0 at the end -/
def tn : List Nat → Nat
  | [] => 0
  | x :: l => if tn l = 0 then (if x = 0 then 0 else 1) else tn l + 1
def tl (l : List Nat) : List Nat := l.take (tn l)
/-- a number's own limbs -/
def limbs (v : Nat) : List Nat := if h : v = 0 then [] else (v % 4294967296) :: limbs (v / 4294967296)
termination_by v
decreasing_by omega

theorem ok_nil : Ok [] := fun x h => by cases h
theorem Ok.cons {x : Nat} {l : List Nat} (h : Ok (x :: l)) : x < 4294967296 ∧ Ok l := ⟨h x (by simp), fun y hy => h y (by simp [hy])⟩
theorem ok_cons {x : Nat} {l : List Nat} (h : x < 4294967296) (k : Ok l) : Ok (x :: l) := fun y hy => by
  rcases List.mem_cons.1 hy with rfl | hy
  · exact h
  · exact k y hy
theorem Ok.take {l : List Nat} (h : Ok l) (n : Nat) : Ok (l.take n) := fun x hx => h x (List.mem_of_mem_take hx)
theorem Ok.drop {l : List Nat} (h : Ok l) (n : Nat) : Ok (l.drop n) := fun x hx => h x (List.mem_of_mem_drop hx)
theorem Ok.get {l : List Nat} (h : Ok l) {i x : Nat} (hx : l[i]? = some x) : x < 4294967296 := h x (List.mem_of_getElem? hx)
theorem Ok.set {l : List Nat} (h : Ok l) (i v : Nat) (hv : v < 4294967296) : Ok (l.set i v) := fun x hx => by
  rcases List.mem_or_eq_of_mem_set hx with hx | rfl
  · exact h x hx
  · exact hv
theorem Ok.append {a b : List Nat} (h : Ok a) (k : Ok b) : Ok (a ++ b) := fun x hx => by
  rcases List.mem_append.1 hx with hx | hx
  · exact h x hx
  · exact k x hx
theorem ok_replicate (n : Nat) : Ok (List.replicate n 0) := fun x hx => by
  have := List.eq_of_mem_replicate hx; omega

theorem nv_append (a b : List Nat) : nv (a ++ b) = nv a + 4294967296 ^ a.length * nv b := by
  induction a with
  | nil => simp [nv]
  | cons x a ih =>
    rw [List.cons_append, nv, ih, nv, List.length_cons, Nat.pow_succ, Nat.mul_add, ← Nat.add_assoc, Nat.mul_comm (4294967296 ^ a.length) 4294967296, Nat.mul_assoc]
theorem nv_split (l : List Nat) (i : Nat) (h : i ≤ l.length) : nv l = nv (l.take i) + 4294967296 ^ i * nv (l.drop i) := by
  have h1 := nv_append (l.take i) (l.drop i)
  rw [List.take_append_drop, List.length_take, Nat.min_eq_left h] at h1
  exact h1
theorem nv_replicate (n : Nat) : nv (List.replicate n 0) = 0 := by
  induction n with
  | zero => rfl
  | succ n ih => rw [List.replicate_succ, nv, ih]
theorem nv_lt {l : List Nat} (h : Ok l) : nv l < 4294967296 ^ l.length := by
  induction l with
  | nil => simp [nv]
  | cons x l ih =>
    have h1 := h.cons
    have h2 := ih h1.2
    rw [nv, List.length_cons, Nat.pow_succ]
    omega
theorem nv_take_succ {l : List Nat} {i x : Nat} (h : l[i]? = some x) : nv (l.take (i + 1)) = nv (l.take i) + 4294967296 ^ i * x := by
  have hi := (List.getElem?_eq_some_iff.1 h).1
  rw [List.take_add_one, h, nv_append, List.length_take, Nat.min_eq_left (Nat.le_of_lt hi)]
  simp [nv]
theorem nv_drop {l : List Nat} {i x : Nat} (h : l[i]? = some x) : nv (l.drop i) = x + 4294967296 * nv (l.drop (i + 1)) := by
  obtain ⟨hi, rfl⟩ := List.getElem?_eq_some_iff.1 h
  rw [List.drop_eq_getElem_cons hi, nv]
theorem nv_set {l : List Nat} {i x : Nat} (v : Nat) (h : l[i]? = some x) : nv (l.set i v) + 4294967296 ^ i * x = nv l + 4294967296 ^ i * v := by
  induction l generalizing i with
  | nil => simp at h
  | cons y l ih =>
    cases i with
    | zero =>
      simp at h; subst h
      simp [nv]; omega
    | succ i =>
      have h1 := ih (i := i) (by simpa using h)
      rw [List.set_cons_succ, nv, nv, Nat.pow_succ, Nat.mul_comm (4294967296 ^ i) 4294967296, Nat.mul_assoc, Nat.mul_assoc]
      omega

theorem tn_le (l : List Nat) : tn l ≤ l.length := by
  induction l with
  | nil => simp [tn]
  | cons x l ih => rw [tn, List.length_cons]; split; split; all_goals omega
theorem tn_zero {l : List Nat} (h : tn l = 0) : nv l = 0 := by
  induction l with
  | nil => rfl
  | cons x l ih =>
    rw [tn] at h
    split at h
    · rename_i h0
      split at h
      · rename_i hx; rw [nv, ih h0, hx]
      · cases h
    · omega
theorem nv_zero_tn {l : List Nat} (h : nv l = 0) : tn l = 0 := by
  induction l with
  | nil => rfl
  | cons x l ih =>
    rw [nv] at h
    rw [tn, ih (by omega), if_pos rfl, if_pos (by omega)]
theorem tl_cons (x : Nat) (l : List Nat) : tl (x :: l) = if tn l = 0 ∧ x = 0 then [] else x :: tl l := by
  unfold tl
  rw [tn]
  by_cases h : tn l = 0
  · rw [if_pos h]
    by_cases hx : x = 0
    · rw [if_pos hx, if_pos ⟨h, hx⟩]; rfl
    · rw [if_neg hx, if_neg (fun q => hx q.2), h]; rfl
  · rw [if_neg h, if_neg (fun q => h q.1)]; rfl
theorem tl_eq {l : List Nat} (h : Ok l) : tl l = limbs (nv l) := by
  induction l with
  | nil => rw [nv, limbs, dif_pos rfl]; rfl
  | cons x l ih =>
    have h1 := h.cons
    rw [tl_cons, ih h1.2, nv]
    by_cases hl : tn l = 0
    · have h0 := tn_zero hl
      rw [h0]
      by_cases hx : x = 0
      · rw [if_pos ⟨hl, hx⟩, hx, limbs, dif_pos rfl]
      · rw [if_neg (fun q => hx q.2), limbs.eq_1 (x + _), dif_neg (by omega), show (x + 4294967296 * 0) % 4294967296 = x by omega, show (x + 4294967296 * 0) / 4294967296 = 0 by omega]
    · have h0 : nv l ≠ 0 := fun q => hl (nv_zero_tn q)
      rw [if_neg (fun q => hl q.1), limbs.eq_1 (x + _), dif_neg (by omega), show (x + 4294967296 * nv l) % 4294967296 = x by omega, show (x + 4294967296 * nv l) / 4294967296 = nv l by omega]
theorem nv_limbs (v : Nat) : nv (limbs v) = v := by
  induction v using Nat.strongRecOn with
  | _ v ih =>
    rw [limbs]
    by_cases h : v = 0
    · rw [dif_pos h, h]; rfl
    · rw [dif_neg h, nv, ih _ (by omega)]; omega
theorem ok_limbs (v : Nat) : Ok (limbs v) := by
  induction v using Nat.strongRecOn with
  | _ v ih =>
    rw [limbs]
    by_cases h : v = 0
    · rw [dif_pos h]; exact ok_nil
    · rw [dif_neg h]; exact ok_cons (Nat.mod_lt _ (by decide)) (ih _ (by omega))
theorem tl_limbs (v : Nat) : tl (limbs v) = limbs v := by rw [tl_eq (ok_limbs v), nv_limbs]
theorem tn_limbs (v : Nat) : tn (limbs v) = (limbs v).length := by
  have h := congrArg List.length (tl_limbs v)
  unfold tl at h
  rw [List.length_take] at h
  have := tn_le (limbs v)
  omega
theorem tl_length (l : List Nat) : (tl l).length = tn l := by unfold tl; rw [List.length_take]; have := tn_le l; omega
theorem tn_eq {l : List Nat} (h : Ok l) : tn l = (limbs (nv l)).length := by rw [← tl_eq h, tl_length]
theorem limbs_zero : limbs 0 = [] := by rw [limbs, dif_pos rfl]
theorem limbs_len_zero {v : Nat} : (limbs v).length = 0 ↔ v = 0 := by
  constructor
  · intro h
    have := nv_limbs v
    rw [List.length_eq_zero_iff.1 h] at this; exact this.symm
  · rintro rfl; rw [limbs_zero]; rfl
theorem limbs_len_le {v : Nat} : ∀ {n : Nat}, v < 4294967296 ^ n → (limbs v).length ≤ n := by
  induction v using Nat.strongRecOn with
  | _ v ih =>
    intro n h
    rw [limbs]
    by_cases h0 : v = 0
    · rw [dif_pos h0]; simp
    · rw [dif_neg h0, List.length_cons]
      cases n with
      | zero => simp at h; omega
      | succ n =>
        have := ih (v / 4294967296) (by omega) (n := n) (by rw [Nat.div_lt_iff_lt_mul (by decide), ← Nat.pow_succ]; exact h)
        omega
theorem lt_limbs (v : Nat) : v < 4294967296 ^ (limbs v).length := by
  have h := nv_lt (ok_limbs v)
  rwa [nv_limbs] at h
theorem limbs_le {v : Nat} (h : v ≠ 0) : 4294967296 ^ ((limbs v).length - 1) ≤ v := by
  induction v using Nat.strongRecOn with
  | _ v ih =>
    rw [limbs, dif_neg h, List.length_cons, Nat.add_sub_cancel]
    by_cases h0 : v / 4294967296 = 0
    · rw [h0, limbs_zero]; simp; omega
    · have h1 := ih (v / 4294967296) (by omega) h0
      have h2 : (limbs (v / 4294967296)).length ≠ 0 := fun q => h0 (limbs_len_zero.1 q)
      generalize (limbs (v / 4294967296)).length = n at *
      obtain ⟨m, rfl⟩ : ∃ m, n = m + 1 := ⟨n - 1, by omega⟩
      rw [Nat.add_sub_cancel] at h1
      rw [Nat.pow_succ]
      generalize 4294967296 ^ m = p at *
      have : p * 4294967296 ≤ v / 4294967296 * 4294967296 := Nat.mul_le_mul_right _ h1
      omega
theorem limbs_len_mono {a b : Nat} (h : a ≤ b) : (limbs a).length ≤ (limbs b).length := limbs_len_le (Nat.lt_of_le_of_lt h (lt_limbs b))
/-- what a loop from the end finds -/
theorem tn_of {l : List Nat} : ∀ {n : Nat}, n ≤ l.length → (∀ j x, n ≤ j → l[j]? = some x → x = 0) → (n = 0 ∨ ∃ x, l[n - 1]? = some x ∧ x ≠ 0) → tn l = n := by
  induction l with
  | nil => intro n h1 h2 h3; simp at h1; subst h1; rfl
  | cons y l ih =>
    intro n h1 h2 h3
    rw [tn]
    cases n with
    | zero =>
      have h4 := ih (n := 0) (Nat.zero_le _) (fun j x hj hx => h2 (j + 1) x (Nat.zero_le _) (by simpa using hx)) (.inl rfl)
      rw [h4, if_pos rfl, if_pos (h2 0 y (Nat.le_refl _) rfl)]
    | succ n =>
      have h4 : ∀ j x, n ≤ j → l[j]? = some x → x = 0 := fun j x hj hx => h2 (j + 1) x (by omega) (by simpa using hx)
      cases n with
      | zero =>
        have h5 := ih (n := 0) (Nat.zero_le _) h4 (.inl rfl)
        rw [h5, if_pos rfl]
        rcases h3 with h3 | ⟨x, hx, hx0⟩
        · cases h3
        · simp at hx; subst hx; rw [if_neg hx0]
      | succ n =>
        have h5 := ih (n := n + 1) (by simpa using h1) h4 (.inr (by rcases h3 with h3 | ⟨x, hx, hx0⟩; cases h3; exact ⟨x, by simpa using hx, hx0⟩))
        rw [h5, if_neg (by omega)]
/-- of two of one length the first place from the top that differs decides -/
theorem cmp_at {a b : List Nat} (ha : Ok a) (hb : Ok b) (hl : a.length = b.length) {i x y : Nat} (hx : a[i]? = some x) (hy : b[i]? = some y) (hd : a.drop (i + 1) = b.drop (i + 1)) (h : x < y) : nv a < nv b := by
  have hi := (List.getElem?_eq_some_iff.1 hx).1
  have h1 := nv_split a (i + 1) hi
  have h2 := nv_split b (i + 1) (by omega)
  rw [nv_take_succ hx] at h1
  rw [nv_take_succ hy, ← hd] at h2
  have h3 := nv_lt (ha.take i)
  rw [List.length_take, Nat.min_eq_left (Nat.le_of_lt hi)] at h3
  have h4 : 4294967296 ^ i * (x + 1) ≤ 4294967296 ^ i * y := Nat.mul_le_mul_left _ h
  rw [Nat.mul_add, Nat.mul_one] at h4
  omega
/-- fewer limbs, less -/
theorem cmp_len {a b : Nat} (h : (limbs a).length < (limbs b).length) : a < b := by
  rcases Nat.lt_or_ge a b with h1 | h1
  · exact h1
  · have := limbs_len_mono h1; omega
end Go.Proofs.YtffncomekbfihaaGreatDoor.Nat
