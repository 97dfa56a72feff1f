/- fdec.Round. -/
import Derived.Test.YtffncomekbfihaaGreatDoorDigits
import Derived.Test.YtffncomekbfihaaGreatDoorFdec5
namespace Go.Proofs.YtffncomekbfihaaGreatDoor.Nat
open Go.RowKit Go.Shelf
set_option linter.unusedVariables false
def dgB (L : List Nat) : Bool := L.all (fun c => decide (48 ≤ c ∧ c ≤ 57))
theorem dgB_iff (L : List Nat) : dgB L = true ↔ Dgs L := by
  unfold dgB Dgs
  simp [List.all_eq_true]
/-- the float of digits and an exponent: its bits, and what is wrong -/
def rnd (neg : Bool) (L : List Nat) (e : Int) : Nat × Nat :=
  if 800 < L.length then (0, 2)
  else if L.length = 0 then (0, 4)
  else if dgB L = false then (0, 4)
  else if e < -2000 ∨ 2000 < e then (0, 1)
  else if dval L = 0 then (sgn neg 0, 0)
  else if near (dval L * tp e) (tp (-e)) < 9218868437227405312 then (sgn neg (near (dval L * tp e) (tp (-e))), 0)
  else (0, 8)
def rndV (p : Nat × Nat) : Value := .tuple #[.int .u64 (p.1 : Nat), .int .i64 (p.2 : Nat)]
set_option maxHeartbeats 4000000 in
theorem from_empty (s : ByteArray) (w : World) (h0 : s.size = 0) :
    Calls Tryz.prog 39 #[.string s] w fun e w' => e = .returned (.tuple #[.slice none 0 0, .int .i64 4]) ∧ Below w.heap.size w w' := by
  have hemp := empty_of h0
  have hs1 : (s.size : Int) ≤ 4096 := by omega
  have hb0 := Below.refl w.heap.size w
  go_enter Tryz.func39, Tryz.ntmps39
  go_wp2
  go_ret2
  exact ⟨rfl, hb0⟩
theorem dval_limbs8 {L : List Nat} (h : Dgs L) (hl : L.length ≤ 800) : (limbs (dval L)).length ≤ 101 := limbs_pow (Nat.le_trans (Nat.le_of_lt (dval_lt h)) (ten_bits _)) (by omega)
theorem limbs_tp {e : Int} (h : e ≤ 2000) : (limbs (tp e)).length ≤ 251 := limbs_ten (by omega)
set_option maxHeartbeats 8000000 in
set_option maxRecDepth 100000 in
theorem round_calls (neg : Bool) (s : ByteArray) (e : Int) (w : World) :
    Calls Tryz.prog 25 #[.bool neg, .string s, .int .i64 e] w fun en w' => en = .returned (rndV (rnd neg (bts s) e)) ∧ Below w.heap.size w w' := by
  have hlen := bts_length s
  have hb0 := Below.refl w.heap.size w
  unfold rnd
  by_cases h1 : 800 < s.size
  · rw [if_pos (by omega)]
    have h1I : (800 : Int) < (s.size : Int) := by omega
    go_enter Tryz.func25, Tryz.ntmps25
    go_wp2
    go_ret2
    exact ⟨rfl, hb0⟩
  rw [if_neg (by omega)]
  have h1I : ¬ (800 : Int) < (s.size : Int) := by omega
  by_cases h2 : s.size = 0
  · rw [if_pos (by omega)]
    have k1 := from_empty s w h2
    clear hlen h2 h1
    go_enter Tryz.func25, Tryz.ntmps25
    go_wp2_with (go_at_call 39; (with_reducible refine k1.mono ?_); clear k1; rintro e1 w1 ⟨rfl, hb1⟩)
    go_ret2
    exact ⟨rfl, hb1⟩
  rw [if_neg (by omega)]
  have k1 := from_calls s w (by omega) h2
  by_cases h3 : Dgs (bts s)
  case neg =>
    rw [if_pos (by rw [← Bool.not_eq_true, dgB_iff]; exact h3)]
    have k2 : Calls Tryz.prog 39 #[.string s] w fun e w' => e = .returned (.tuple #[.slice none 0 0, .int .i64 4]) ∧ Below w.heap.size w w' := k1.mono (fun e w' h => by
      obtain ⟨h | h, hb⟩ := h
      · exact absurd h.1 h3
      · exact ⟨h.2, hb⟩)
    clear hlen h2 h1 k1 h3
    go_enter Tryz.func25, Tryz.ntmps25
    go_wp2_with (go_at_call 39; (with_reducible refine k2.mono ?_); clear k2; rintro e1 w1 ⟨rfl, hb1⟩)
    go_ret2
    exact ⟨rfl, hb1⟩
  rw [if_neg (by rw [Bool.not_eq_false, dgB_iff]; exact h3)]
  have hl8 := dval_limbs8 h3 (by omega)
  have k2 : Calls Tryz.prog 39 #[.string s] w fun e w' => ∃ A c, e = .returned (.tuple #[.slice A (limbs (dval (bts s))).length c, .int .i64 0]) ∧ NatV w' (.slice A (limbs (dval (bts s))).length c) (dval (bts s)) ∧ Below w.heap.size w w' := k1.mono (fun e w' h => by
    obtain ⟨h | h, hb⟩ := h
    · obtain ⟨_, V, rfl, hV⟩ := h
      obtain ⟨A, c, rfl, hV2⟩ := hV
      exact ⟨A, c, rfl, ⟨A, c, rfl, hV2⟩, hb⟩
    · exact absurd h3 h.1)
  clear hlen h2 h1 k1 h3
  generalize dval (bts s) = D at *
  by_cases h4 : e < -2000
  · rw [if_pos (.inl h4)]
    go_enter Tryz.func25, Tryz.ntmps25
    go_wp2_with (go_at_call 39; (with_reducible refine k2.mono ?_); clear k2; rintro e1 w1 ⟨A, c, rfl, hV, hb1⟩)
    go_ret2
    exact ⟨rfl, hb1⟩
  by_cases h5 : 2000 < e
  · rw [if_pos (.inr h5)]
    go_enter Tryz.func25, Tryz.ntmps25
    go_wp2_with (go_at_call 39; (with_reducible refine k2.mono ?_); clear k2; rintro e1 w1 ⟨A, c, rfl, hV, hb1⟩)
    go_ret2
    exact ⟨rfl, hb1⟩
  rw [if_neg (by omega)]
  by_cases h6 : D = 0
  · subst h6
    rw [if_pos rfl]
    have hz : (limbs 0).length = 0 := by rw [limbs_zero]; rfl
    rw [hz] at k2
    have k3 : ∀ w1, Calls Tryz.prog 63 #[.bool neg, .int .u64 0] w1 _ := fun w1 => signed_calls neg 0 w1 (by decide)
    clear hl8 hz
    go_enter Tryz.func25, Tryz.ntmps25
    go_wp2_with (first
      | (go_at_call 39; (with_reducible refine k2.mono ?_); clear k2; rintro e1 w1 ⟨A, c, rfl, hV, hb1⟩)
      | (go_at_call 63; (with_reducible refine (k3 _).mono ?_); clear k3; rintro e2 w2 ⟨rfl, hb2⟩))
    go_ret2
    exact ⟨rfl, below_step hb1 hb2⟩
  · rw [if_neg h6]
    have hpos : (limbs D).length ≠ 0 := fun q => h6 (limbs_len_zero.1 q)
    have hposI : ¬ ((limbs D).length : Int) = 0 := by omega
    have he1 : -2000 ≤ e := by omega
    have he2 : e ≤ 2000 := by omega
    have hla : (limbs (D * tp e)).length ≤ 900 := by have h1 := limbs_mul D (tp e); have h2 := limbs_tp he2; omega
    have hlb : (limbs (tp (-e))).length ≤ 900 := by have h2 := limbs_tp (e := -e) (by omega); omega
    have ha0 : D * tp e ≠ 0 := Nat.ne_of_gt (Nat.mul_pos (Nat.pos_of_ne_zero h6) (tp_pos e))
    have hb00 : tp (-e) ≠ 0 := Nat.ne_of_gt (tp_pos _)
    have k3 : ∀ (V : Value) (w1 : World), NatV w1 V D → Calls Tryz.prog 20 #[.agg #[V, .slice (some ⟨w1.heap.size, 0, none⟩) 1 1], .int .i64 0, .int .i64 e] (w1.alloc (.cells #[.int .u32 1] 53)) fun en w' => ∃ Va Vb, en = .returned (.agg #[Va, Vb]) ∧ NatA w' Va (D * tp e) ∧ NatA w' Vb (tp (-e)) ∧ Below (w1.alloc (.cells #[.int .u32 1] 53)).heap.size (w1.alloc (.cells #[.int .u32 1] 53)) w' := fun V w1 hV => by
      have h := times_calls V (.slice (some ⟨w1.heap.size, 0, none⟩) 1 1) D 1 0 e (w1.alloc (.cells #[.int .u32 1] 53)) ((hV.a (by omega)).below (below_alloc w1 _)) (nata_one w1 1 (by decide)) (by omega) (by have := limbs_small (x := 1) (by decide); omega) (by decide) (by decide) he1 he2
      refine h.mono ?_
      rintro en w' ⟨Va, Vb, rfl, h1, h2, hb⟩
      rw [show up 0 = 1 from rfl, Nat.mul_one] at h1
      rw [show up (-0) = 1 from rfl, Nat.mul_one, Nat.one_mul] at h2
      exact ⟨Va, Vb, rfl, h1, h2, hb⟩
    have k4 : ∀ (Va Vb : Value) (w1 : World), NatA w1 Va (D * tp e) → NatA w1 Vb (tp (-e)) → Calls Tryz.prog 64 #[.agg #[Va, Vb]] w1 _ := fun Va Vb w1 hA hB => nearest_calls Va Vb _ _ w1 hA hB hla hlb ha0 hb00
    unfold nearV at k4
    clear hla hlb ha0 hb00 hl8
    by_cases h7 : near (D * tp e) (tp (-e)) < 9218868437227405312
    · rw [if_pos h7]
      rw [if_pos h7] at k4
      have k5 := fun w1 => signed_calls neg _ w1 (Nat.lt_trans h7 (by decide))
      generalize near (D * tp e) (tp (-e)) = N at *
      clear h7
      go_enter Tryz.func25, Tryz.ntmps25
      go_wp2_with (first
        | (go_at_call 39; (with_reducible refine k2.mono ?_); clear k2; rintro e1 w1 ⟨A, c, rfl, hV, hb1⟩)
        | (go_at_call 20; (with_reducible refine (k3 _ _ hV).mono ?_); clear k3; rintro e2 w2 ⟨Va, Vb, rfl, hVa, hVb, hb2⟩)
        | (go_at_call 64; (with_reducible refine (k4 _ _ _ hVa hVb).mono ?_); clear k4; rintro e3 w3 ⟨rfl, hb3⟩)
        | (go_at_call 63; (with_reducible refine (k5 _).mono ?_); clear k5; rintro e4 w4 ⟨rfl, hb4⟩))
      go_ret2
      exact ⟨rfl, below_step (below_step (below_step (below_step hb1 (below_alloc w1 _)) hb2) hb3) hb4⟩
    · rw [if_neg h7]
      rw [if_neg h7] at k4
      clear h7
      go_enter Tryz.func25, Tryz.ntmps25
      go_wp2_with (first
        | (go_at_call 39; (with_reducible refine k2.mono ?_); clear k2; rintro e1 w1 ⟨A, c, rfl, hV, hb1⟩)
        | (go_at_call 20; (with_reducible refine (k3 _ _ hV).mono ?_); clear k3; rintro e2 w2 ⟨Va, Vb, rfl, hVa, hVb, hb2⟩)
        | (go_at_call 64; (with_reducible refine (k4 _ _ _ hVa hVb).mono ?_); clear k4; rintro e3 w3 ⟨rfl, hb3⟩))
      go_ret2
      exact ⟨rfl, below_step (below_step (below_step hb1 (below_alloc w1 _)) hb2) hb3⟩
end Go.Proofs.YtffncomekbfihaaGreatDoor.Nat
