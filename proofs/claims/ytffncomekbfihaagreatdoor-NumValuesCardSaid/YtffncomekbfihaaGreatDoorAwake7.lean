/- num.step. num.ends, num.Scan. glossatorlaw07.awake. -/
import Derived.Test.YtffncomekbfihaaGreatDoorDigPure
import Derived.WalkKit
import Derived.KernelRfl
import Derived.Outline
import Derived.Test.YtffncomekbfihaaGreatDoorDecimal
namespace Go.Proofs.YtffncomekbfihaaGreatDoor.Nat
open Go.RowKit Go.Shelf
set_option linter.unusedVariables false
set_option linter.unusedSimpArgs false
def stepN (s c : Int) : Int :=
  if s = 0 ∨ s = 1 then (if c = 45 ∧ s = 0 then 1 else if c = 48 then 2 else if 48 ≤ c ∧ c ≤ 57 then 3 else 9)
  else if s = 2 ∨ s = 3 ∨ s = 5 then (if c = 46 ∧ s ≠ 5 then 4 else if c = 101 ∨ c = 69 then 6 else if 48 ≤ c ∧ c ≤ 57 ∧ s ≠ 2 then s else 9)
  else if s = 4 then (if 48 ≤ c ∧ c ≤ 57 then 5 else 9)
  else if s = 6 ∨ s = 7 ∨ s = 8 then (if (c = 43 ∨ c = 45) ∧ s = 6 then 7 else if 48 ≤ c ∧ c ≤ 57 then 8 else 9)
  else 9

def num_step.f (a0 : Int) (a1 : Int) : Option Int := some (stepN a0 a1)

theorem ret_int {k : IntKind} {a b : Int} (h : a = b) : Ending.returned (.int k a) = .returned (.int k b) := by rw [h]

set_option maxHeartbeats 8000000 in
set_option maxRecDepth 100000 in
theorem step0 (a1 : Int) (w : World) :
    Calls Tryz.prog 47 #[.int .i64 0, .int .u8 a1] w fun e w' => e = .returned (.int .i64 (stepN 0 a1)) ∧ Below w.heap.size w w' := by
  have hmf : ∀ (fn : Fn) (first cap : Array Value) (w : World), (Instr.makeFunc fn first cap).run Tryz.prog w = .ok (.func fn first cap) w := fun _ _ _ _ => rfl
  go_enter Tryz.func47, Tryz.ntmps47
  go_wp2
  all_goals
    go_ret
    refine ⟨ret_int ?_, by repeat (first | exact Below.refl _ _ | apply Below.drew | refine Below.alloc ?_ (Nat.le_refl _) _)⟩
    try simp only [beq_iff_eq, beq_eq_false_iff_ne, ne_eq] at *
    unfold stepN
    first | rfl | (simp [*]; done) | (simp [*]; omega)

set_option maxHeartbeats 8000000 in
set_option maxRecDepth 100000 in
theorem step1 (a1 : Int) (w : World) :
    Calls Tryz.prog 47 #[.int .i64 1, .int .u8 a1] w fun e w' => e = .returned (.int .i64 (stepN 1 a1)) ∧ Below w.heap.size w w' := by
  have hmf : ∀ (fn : Fn) (first cap : Array Value) (w : World), (Instr.makeFunc fn first cap).run Tryz.prog w = .ok (.func fn first cap) w := fun _ _ _ _ => rfl
  go_enter Tryz.func47, Tryz.ntmps47
  go_wp2
  all_goals
    go_ret
    refine ⟨ret_int ?_, by repeat (first | exact Below.refl _ _ | apply Below.drew | refine Below.alloc ?_ (Nat.le_refl _) _)⟩
    try simp only [beq_iff_eq, beq_eq_false_iff_ne, ne_eq] at *
    unfold stepN
    first | rfl | (simp [*]; done) | (simp [*]; omega)

set_option maxHeartbeats 8000000 in
set_option maxRecDepth 100000 in
theorem step2 (a1 : Int) (w : World) :
    Calls Tryz.prog 47 #[.int .i64 2, .int .u8 a1] w fun e w' => e = .returned (.int .i64 (stepN 2 a1)) ∧ Below w.heap.size w w' := by
  have hmf : ∀ (fn : Fn) (first cap : Array Value) (w : World), (Instr.makeFunc fn first cap).run Tryz.prog w = .ok (.func fn first cap) w := fun _ _ _ _ => rfl
  go_enter Tryz.func47, Tryz.ntmps47
  go_wp2
  all_goals
    go_ret
    refine ⟨ret_int ?_, by repeat (first | exact Below.refl _ _ | apply Below.drew | refine Below.alloc ?_ (Nat.le_refl _) _)⟩
    try simp only [beq_iff_eq, beq_eq_false_iff_ne, ne_eq] at *
    unfold stepN
    first | rfl | (simp [*]; done) | (simp [*]; omega)

set_option maxHeartbeats 8000000 in
set_option maxRecDepth 100000 in
theorem step3 (a1 : Int) (w : World) :
    Calls Tryz.prog 47 #[.int .i64 3, .int .u8 a1] w fun e w' => e = .returned (.int .i64 (stepN 3 a1)) ∧ Below w.heap.size w w' := by
  have hmf : ∀ (fn : Fn) (first cap : Array Value) (w : World), (Instr.makeFunc fn first cap).run Tryz.prog w = .ok (.func fn first cap) w := fun _ _ _ _ => rfl
  go_enter Tryz.func47, Tryz.ntmps47
  go_wp2
  all_goals
    go_ret
    refine ⟨ret_int ?_, by repeat (first | exact Below.refl _ _ | apply Below.drew | refine Below.alloc ?_ (Nat.le_refl _) _)⟩
    try simp only [beq_iff_eq, beq_eq_false_iff_ne, ne_eq] at *
    unfold stepN
    first | rfl | (simp [*]; done) | (simp [*]; omega)

set_option maxHeartbeats 8000000 in
set_option maxRecDepth 100000 in
theorem step4 (a1 : Int) (w : World) :
    Calls Tryz.prog 47 #[.int .i64 4, .int .u8 a1] w fun e w' => e = .returned (.int .i64 (stepN 4 a1)) ∧ Below w.heap.size w w' := by
  have hmf : ∀ (fn : Fn) (first cap : Array Value) (w : World), (Instr.makeFunc fn first cap).run Tryz.prog w = .ok (.func fn first cap) w := fun _ _ _ _ => rfl
  go_enter Tryz.func47, Tryz.ntmps47
  go_wp2
  all_goals
    go_ret
    refine ⟨ret_int ?_, by repeat (first | exact Below.refl _ _ | apply Below.drew | refine Below.alloc ?_ (Nat.le_refl _) _)⟩
    try simp only [beq_iff_eq, beq_eq_false_iff_ne, ne_eq] at *
    unfold stepN
    first | rfl | (simp [*]; done) | (simp [*]; omega)

set_option maxHeartbeats 8000000 in
set_option maxRecDepth 100000 in
theorem step5 (a1 : Int) (w : World) :
    Calls Tryz.prog 47 #[.int .i64 5, .int .u8 a1] w fun e w' => e = .returned (.int .i64 (stepN 5 a1)) ∧ Below w.heap.size w w' := by
  have hmf : ∀ (fn : Fn) (first cap : Array Value) (w : World), (Instr.makeFunc fn first cap).run Tryz.prog w = .ok (.func fn first cap) w := fun _ _ _ _ => rfl
  go_enter Tryz.func47, Tryz.ntmps47
  go_wp2
  all_goals
    go_ret
    refine ⟨ret_int ?_, by repeat (first | exact Below.refl _ _ | apply Below.drew | refine Below.alloc ?_ (Nat.le_refl _) _)⟩
    try simp only [beq_iff_eq, beq_eq_false_iff_ne, ne_eq] at *
    unfold stepN
    first | rfl | (simp [*]; done) | (simp [*]; omega)

set_option maxHeartbeats 8000000 in
set_option maxRecDepth 100000 in
theorem step6 (a1 : Int) (w : World) :
    Calls Tryz.prog 47 #[.int .i64 6, .int .u8 a1] w fun e w' => e = .returned (.int .i64 (stepN 6 a1)) ∧ Below w.heap.size w w' := by
  have hmf : ∀ (fn : Fn) (first cap : Array Value) (w : World), (Instr.makeFunc fn first cap).run Tryz.prog w = .ok (.func fn first cap) w := fun _ _ _ _ => rfl
  go_enter Tryz.func47, Tryz.ntmps47
  go_wp2
  all_goals
    go_ret
    refine ⟨ret_int ?_, by repeat (first | exact Below.refl _ _ | apply Below.drew | refine Below.alloc ?_ (Nat.le_refl _) _)⟩
    try simp only [beq_iff_eq, beq_eq_false_iff_ne, ne_eq] at *
    unfold stepN
    first | rfl | (simp [*]; done) | (simp [*]; omega)

set_option maxHeartbeats 8000000 in
set_option maxRecDepth 100000 in
theorem step7 (a1 : Int) (w : World) :
    Calls Tryz.prog 47 #[.int .i64 7, .int .u8 a1] w fun e w' => e = .returned (.int .i64 (stepN 7 a1)) ∧ Below w.heap.size w w' := by
  have hmf : ∀ (fn : Fn) (first cap : Array Value) (w : World), (Instr.makeFunc fn first cap).run Tryz.prog w = .ok (.func fn first cap) w := fun _ _ _ _ => rfl
  go_enter Tryz.func47, Tryz.ntmps47
  go_wp2
  all_goals
    go_ret
    refine ⟨ret_int ?_, by repeat (first | exact Below.refl _ _ | apply Below.drew | refine Below.alloc ?_ (Nat.le_refl _) _)⟩
    try simp only [beq_iff_eq, beq_eq_false_iff_ne, ne_eq] at *
    unfold stepN
    first | rfl | (simp [*]; done) | (simp [*]; omega)

set_option maxHeartbeats 8000000 in
set_option maxRecDepth 100000 in
theorem step8 (a1 : Int) (w : World) :
    Calls Tryz.prog 47 #[.int .i64 8, .int .u8 a1] w fun e w' => e = .returned (.int .i64 (stepN 8 a1)) ∧ Below w.heap.size w w' := by
  have hmf : ∀ (fn : Fn) (first cap : Array Value) (w : World), (Instr.makeFunc fn first cap).run Tryz.prog w = .ok (.func fn first cap) w := fun _ _ _ _ => rfl
  go_enter Tryz.func47, Tryz.ntmps47
  go_wp2
  all_goals
    go_ret
    refine ⟨ret_int ?_, by repeat (first | exact Below.refl _ _ | apply Below.drew | refine Below.alloc ?_ (Nat.le_refl _) _)⟩
    try simp only [beq_iff_eq, beq_eq_false_iff_ne, ne_eq] at *
    unfold stepN
    first | rfl | (simp [*]; done) | (simp [*]; omega)

set_option maxHeartbeats 8000000 in
set_option maxRecDepth 100000 in
theorem step9 (a0 a1 : Int) (w : World) (h0 : (a0 == 0) = false) (h1 : (a0 == 1) = false) (h2 : (a0 == 2) = false) (h3 : (a0 == 3) = false) (h4 : (a0 == 4) = false) (h5 : (a0 == 5) = false) (h6 : (a0 == 6) = false) (h7 : (a0 == 7) = false) (h8 : (a0 == 8) = false) :
    Calls Tryz.prog 47 #[.int .i64 a0, .int .u8 a1] w fun e w' => e = .returned (.int .i64 (stepN a0 a1)) ∧ Below w.heap.size w w' := by
  have hmf : ∀ (fn : Fn) (first cap : Array Value) (w : World), (Instr.makeFunc fn first cap).run Tryz.prog w = .ok (.func fn first cap) w := fun _ _ _ _ => rfl
  go_enter Tryz.func47, Tryz.ntmps47
  go_wp2
  go_ret
  refine ⟨ret_int ?_, by repeat (first | exact Below.refl _ _ | apply Below.drew | refine Below.alloc ?_ (Nat.le_refl _) _)⟩
  simp only [beq_eq_false_iff_ne, ne_eq] at *
  unfold stepN
  simp [*]

theorem num_step.calls (a0 : Int) (a1 : Int) (r : Int) (w : World) (h : num_step.f a0 a1 = some r) :
    Calls Tryz.prog 47 #[.int .i64 a0, .int .u8 a1] w fun e w' => e = .returned (.int .i64 r) ∧ Below w.heap.size w w' := by
  obtain rfl := Option.some.inj h
  by_cases h0 : a0 = 0
  · subst h0; exact step0 a1 w
  by_cases h1 : a0 = 1
  · subst h1; exact step1 a1 w
  by_cases h2 : a0 = 2
  · subst h2; exact step2 a1 w
  by_cases h3 : a0 = 3
  · subst h3; exact step3 a1 w
  by_cases h4 : a0 = 4
  · subst h4; exact step4 a1 w
  by_cases h5 : a0 = 5
  · subst h5; exact step5 a1 w
  by_cases h6 : a0 = 6
  · subst h6; exact step6 a1 w
  by_cases h7 : a0 = 7
  · subst h7; exact step7 a1 w
  by_cases h8 : a0 = 8
  · subst h8; exact step8 a1 w
  exact step9 a0 a1 w (beq_eq_false_iff_ne.2 h0) (beq_eq_false_iff_ne.2 h1) (beq_eq_false_iff_ne.2 h2) (beq_eq_false_iff_ne.2 h3) (beq_eq_false_iff_ne.2 h4) (beq_eq_false_iff_ne.2 h5) (beq_eq_false_iff_ne.2 h6) (beq_eq_false_iff_ne.2 h7) (beq_eq_false_iff_ne.2 h8)
end Go.Proofs.YtffncomekbfihaaGreatDoor.Nat
namespace Go.Proofs.YtffncomekbfihaaGreatDoor.Nat
open Go.RowKit Go.Shelf
set_option linter.unusedVariables false
def endsN (s : Int) : Bool := s == 2 || s == 3 || s == 5 || s == 8
/-- what num.Scan says, from a state on -/
def nsc : Int → List Nat → Nat → Nat × Nat
  | st, [], i => if endsN st then (i, 0) else (i, 3)
  | st, c :: r, i => if stepN st c = 9 then (if endsN st then (i, 0) else (i, 4)) else nsc (stepN st c) r (i + 1)
theorem nsc_nil (st : Int) (i : Nat) : nsc st [] i = if endsN st then (i, 0) else (i, 3) := rfl
theorem nsc_cons (st : Int) (c : Nat) (r : List Nat) (i : Nat) : nsc st (c :: r) i = if stepN st c = 9 then (if endsN st then (i, 0) else (i, 4)) else nsc (stepN st c) r (i + 1) := rfl
set_option maxHeartbeats 4000000 in
theorem ends_calls (s : Int) (w : World) : Calls Tryz.prog 48 #[.int .i64 s] w fun e w' => e = .returned (.bool (endsN s)) ∧ w' = w := by
  unfold endsN
  by_cases h2 : s = 2
  · subst h2
    go_enter Tryz.func48, Tryz.ntmps48
    go_wp2
    go_ret
    exact ⟨rfl, rfl⟩
  by_cases h3 : s = 3
  · subst h3
    go_enter Tryz.func48, Tryz.ntmps48
    go_wp2
    go_ret
    exact ⟨rfl, rfl⟩
  by_cases h5 : s = 5
  · subst h5
    go_enter Tryz.func48, Tryz.ntmps48
    go_wp2
    go_ret
    exact ⟨rfl, rfl⟩
  go_enter Tryz.func48, Tryz.ntmps48
  go_wp2
  go_ret
  exact ⟨rfl, rfl⟩
set_option maxHeartbeats 8000000 in
set_option maxRecDepth 100000 in
theorem numScan_calls (s : ByteArray) (w : World) (hs : s.size ≤ 9223372036854775807) :
    Calls Tryz.prog 18 #[.string s] w fun e w' => e = .returned (.tuple #[.int .i64 ((nsc 0 (bts s) 0).1 : Nat), .int .i64 ((nsc 0 (bts s) 0).2 : Nat)]) ∧ Below w.heap.size w w' := by
  have hl := bts_length s
  have hb0 := Below.refl w.heap.size w
  have ke := fun st W => ends_calls st W
  have kst := fun st (c : Nat) W => num_step.calls st (c : Int) _ W rfl
  obtain ⟨R, hR⟩ : ∃ R, nsc 0 (bts s) 0 = R := ⟨_, rfl⟩
  rw [hR]
  go_enter Tryz.func18, Tryz.ntmps18
  go_wp2
  go_loopg [4, 9] s.size (fun kq v4 v9 wr => ∃ (i : Nat) (st : Int), v9 = .int .i64 i ∧ v4 = .int .i64 st ∧ i + kq = s.size ∧ Hid (nsc st ((bts s).drop i) i = R) ∧ Below w.heap.size w wr)
  case atStart => exact ⟨0, 0, rfl, rfl, by omega, Lib.hid (by rw [List.drop_zero]; exact hR), hb0⟩
  case round =>
    clear hR hb0
    obtain ⟨i, st, rfl, rfl, hi, HR, hb⟩ := hrel
    cases gk with
    | zero =>
      obtain rfl : i = s.size := by omega
      have hR := HR.out
      rw [List.drop_of_length_le (by omega), nsc_nil] at hR
      have k1 := fun W => ke st W
      cases he : endsN st with
      | true =>
        rw [he] at hR k1
        rw [if_pos rfl] at hR
        have HE : Hid _ := Lib.hid hR
        clear hR he
        go_wp2_with (go_at_call 48; (with_reducible refine (k1 _).mono ?_); clear k1; rintro e1 w1 ⟨rfl, rfl⟩)
        go_ret2
        exact ⟨by rw [← HE.out]; rfl, hb⟩
      | false =>
        rw [he] at hR k1
        rw [if_neg (by decide)] at hR
        have HE : Hid _ := Lib.hid hR
        clear hR he
        go_wp2_with (go_at_call 48; (with_reducible refine (k1 _).mono ?_); clear k1; rintro e1 w1 ⟨rfl, rfl⟩)
        go_ret2
        exact ⟨by rw [← HE.out]; rfl, hb⟩
    | succ d =>
      have hlt : i < s.size := by omega
      have hltI : (i : Int) < (s.size : Int) := by omega
      have hat := bts_at s i hlt
      obtain ⟨c, hc⟩ : ∃ c, s[i].toNat = c := ⟨_, rfl⟩
      rw [hc] at hat
      have hR := HR.out
      have hdr : (bts s).drop i = c :: (bts s).drop (i + 1) := by
        obtain ⟨h1, h2⟩ := List.getElem?_eq_some_iff.1 hat
        rw [List.drop_eq_getElem_cons h1, h2]
      rw [hdr, nsc_cons] at hR
      have k2 := fun W => kst st c W
      have k1 := fun W => ke st W
      generalize stepN st c = st2 at *
      by_cases h9 : st2 = 9
      · rw [if_pos h9] at hR
        subst h9
        cases he : endsN st with
        | true =>
          rw [he] at hR k1
          rw [if_pos rfl] at hR
          have HE : Hid _ := Lib.hid hR
          clear hR he hat hdr HR
          go_wp2_with (first | (go_at_call 47; (with_reducible refine (k2 _).mono ?_); clear k2; rintro e2 w2 ⟨rfl, hb2⟩) | (go_at_call 48; (with_reducible refine (k1 _).mono ?_); clear k1; rintro e1 w1 ⟨rfl, rfl⟩))
          go_ret2
          exact ⟨by rw [← HE.out]; rfl, below_step hb hb2⟩
        | false =>
          rw [he] at hR k1
          rw [if_neg (by decide)] at hR
          have HE : Hid _ := Lib.hid hR
          clear hR he hat hdr HR
          go_wp2_with (first | (go_at_call 47; (with_reducible refine (k2 _).mono ?_); clear k2; rintro e2 w2 ⟨rfl, hb2⟩) | (go_at_call 48; (with_reducible refine (k1 _).mono ?_); clear k1; rintro e1 w1 ⟨rfl, rfl⟩))
          go_ret2
          exact ⟨by rw [← HE.out]; rfl, below_step hb hb2⟩
      · rw [if_neg h9] at hR
        have HE : Hid _ := Lib.hid hR
        have h9b : ¬ st2 = 9 := h9
        clear hR hat hdr HR k1
        go_wp2_with (first | (go_at_call 47; (with_reducible refine (k2 _).mono ?_); clear k2; rintro e2 w2 ⟨rfl, hb2⟩))
        go_roundg d
        case rel => exact ⟨i + 1, st2, by go_num, rfl, by omega, HE, below_step hb hb2⟩
        case measure => omega
/-- digits are a number -/
theorem nsc_digits {D : List Nat} (h : Dgs D) : ∀ i, nsc 3 D i = (i + D.length, 0) := by
  induction D with
  | nil => intro i; rfl
  | cons c D ih =>
    intro i
    have hc := h c (by simp)
    have h3 : stepN 3 (c : Int) = 3 := by
      unfold stepN
      rw [if_neg (by decide), if_pos (by decide), if_neg (by omega), if_neg (by omega), if_pos (by omega)]
    rw [nsc_cons, h3, if_neg (by decide), ih (fun c' hc' => h c' (List.mem_cons_of_mem _ hc')), List.length_cons]
    congr 1
    omega
theorem nsc_dec (v : Nat) (st : Int) (hst : st = 0 ∨ st = 1) (i : Nat) : nsc st (dec v) i = (i + (dec v).length, 0) := by
  by_cases hv : v = 0
  · subst hv
    rcases hst with rfl | rfl <;> rfl
  · obtain ⟨c, L, e, hc⟩ := dec_head hv
    have hd := dgs_dec v
    rw [e] at hd ⊢
    have hc2 := hd c (by simp)
    have h3 : stepN st (c : Int) = 3 := by
      unfold stepN
      rw [if_pos hst, if_neg (by omega), if_neg (by omega), if_pos (by omega)]
    rw [nsc_cons, h3, if_neg (by decide), nsc_digits (fun c' hc' => hd c' (List.mem_cons_of_mem _ hc')), List.length_cons]
    congr 1
    omega
theorem nsc_neg (v : Nat) : nsc 0 (45 :: dec v) 0 = ((45 :: dec v).length, 0) := by
  have h1 : stepN 0 ((45 : Nat) : Int) = 1 := by decide
  rw [nsc_cons, h1, if_neg (by decide), nsc_dec v 1 (.inr rfl), List.length_cons]
  congr 1
  omega
end Go.Proofs.YtffncomekbfihaaGreatDoor.Nat
namespace Go.Proofs.YtffncomekbfihaaGreatDoor.Nat
open Go.RowKit Go.Shelf
set_option linter.unusedVariables false
theorem awake7_calls (w : World) : Calls Tryz.prog 14 #[] w fun e w' => e = .returned (.bool true) ∧ Below w.heap.size w w' := by
  have k1 : Calls Tryz.prog 18 #[.string ⟨#[53]⟩] w fun e w' => e = .returned (.tuple #[.int .i64 1, .int .i64 0]) ∧ Below w.heap.size w w' := numScan_calls ⟨#[53]⟩ w (by decide)
  go_enter Tryz.func14, Tryz.ntmps14
  go_wp2_with (go_at_call 18; (with_reducible refine k1.mono ?_); clear k1; rintro e1 w1 ⟨rfl, hb1⟩)
  go_ret
  exact ⟨rfl, hb1⟩
end Go.Proofs.YtffncomekbfihaaGreatDoor.Nat
