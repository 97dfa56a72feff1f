/- num.step. -/
import Derived.Test.YtffncomekbfihaaDoorDigPure
import Derived.WalkKit
import Derived.KernelRfl
import Derived.Outline
namespace Go.Proofs.YtffncomekbfihaaDoor.Nat
open Go.RowKit Go.Shelf
set_option linter.unusedVariables false
set_option linter.unusedSimpArgs false
def stepN (s c : Int) : Int :=
  if s = 0 ∨ s = 1 then (if c = 45 ∧ s = 0 then 1 else if c = 48 then 2 else if 48 ≤ c ∧ c ≤ 57 then 3 else 9)
  else if s = 2 ∨ s = 3 ∨ s = 5 then (if c = 46 ∧ s ≠ 5 then 4 else if c = 101 ∨ c = 69 then 6 else if 48 ≤ c ∧ c ≤ 57 ∧ s ≠ 2 then s else 9)
  else if s = 4 then (if 48 ≤ c ∧ c ≤ 57 then 5 else 9)
  else if s = 6 ∨ s = 7 ∨ s = 8 then (if (c = 43 ∨ c = 45) ∧ s = 6 then 7 else if 48 ≤ c ∧ c ≤ 57 then 8 else 9)
  else 9

def num_step.f (a0 : Int) (a1 : Int) : Option Int := some (stepN a0 a1)

theorem ret_int {k : IntKind} {a b : Int} (h : a = b) : Ending.returned (.int k a) = .returned (.int k b) := by rw [h]

set_option maxHeartbeats 8000000 in
set_option maxRecDepth 100000 in
theorem step0 (a1 : Int) (w : World) :
    Calls Tryd.prog 56 #[.int .i64 0, .int .u8 a1] w fun e w' => e = .returned (.int .i64 (stepN 0 a1)) ∧ Below w.heap.size w w' := by
  have hmf : ∀ (fn : Fn) (first cap : Array Value) (w : World), (Instr.makeFunc fn first cap).run Tryd.prog w = .ok (.func fn first cap) w := fun _ _ _ _ => rfl
  go_enter Tryd.func56, Tryd.ntmps56
  go_wp2
  all_goals
    go_ret
    refine ⟨ret_int ?_, by repeat (first | exact Below.refl _ _ | apply Below.drew | refine Below.alloc ?_ (Nat.le_refl _) _)⟩
    try simp only [beq_iff_eq, beq_eq_false_iff_ne, ne_eq] at *
    unfold stepN
    first | rfl | (simp [*]; done) | (simp [*]; omega)

set_option maxHeartbeats 8000000 in
set_option maxRecDepth 100000 in
theorem step1 (a1 : Int) (w : World) :
    Calls Tryd.prog 56 #[.int .i64 1, .int .u8 a1] w fun e w' => e = .returned (.int .i64 (stepN 1 a1)) ∧ Below w.heap.size w w' := by
  have hmf : ∀ (fn : Fn) (first cap : Array Value) (w : World), (Instr.makeFunc fn first cap).run Tryd.prog w = .ok (.func fn first cap) w := fun _ _ _ _ => rfl
  go_enter Tryd.func56, Tryd.ntmps56
  go_wp2
  all_goals
    go_ret
    refine ⟨ret_int ?_, by repeat (first | exact Below.refl _ _ | apply Below.drew | refine Below.alloc ?_ (Nat.le_refl _) _)⟩
    try simp only [beq_iff_eq, beq_eq_false_iff_ne, ne_eq] at *
    unfold stepN
    first | rfl | (simp [*]; done) | (simp [*]; omega)

set_option maxHeartbeats 8000000 in
set_option maxRecDepth 100000 in
theorem step2 (a1 : Int) (w : World) :
    Calls Tryd.prog 56 #[.int .i64 2, .int .u8 a1] w fun e w' => e = .returned (.int .i64 (stepN 2 a1)) ∧ Below w.heap.size w w' := by
  have hmf : ∀ (fn : Fn) (first cap : Array Value) (w : World), (Instr.makeFunc fn first cap).run Tryd.prog w = .ok (.func fn first cap) w := fun _ _ _ _ => rfl
  go_enter Tryd.func56, Tryd.ntmps56
  go_wp2
  all_goals
    go_ret
    refine ⟨ret_int ?_, by repeat (first | exact Below.refl _ _ | apply Below.drew | refine Below.alloc ?_ (Nat.le_refl _) _)⟩
    try simp only [beq_iff_eq, beq_eq_false_iff_ne, ne_eq] at *
    unfold stepN
    first | rfl | (simp [*]; done) | (simp [*]; omega)

set_option maxHeartbeats 8000000 in
set_option maxRecDepth 100000 in
theorem step3 (a1 : Int) (w : World) :
    Calls Tryd.prog 56 #[.int .i64 3, .int .u8 a1] w fun e w' => e = .returned (.int .i64 (stepN 3 a1)) ∧ Below w.heap.size w w' := by
  have hmf : ∀ (fn : Fn) (first cap : Array Value) (w : World), (Instr.makeFunc fn first cap).run Tryd.prog w = .ok (.func fn first cap) w := fun _ _ _ _ => rfl
  go_enter Tryd.func56, Tryd.ntmps56
  go_wp2
  all_goals
    go_ret
    refine ⟨ret_int ?_, by repeat (first | exact Below.refl _ _ | apply Below.drew | refine Below.alloc ?_ (Nat.le_refl _) _)⟩
    try simp only [beq_iff_eq, beq_eq_false_iff_ne, ne_eq] at *
    unfold stepN
    first | rfl | (simp [*]; done) | (simp [*]; omega)

set_option maxHeartbeats 8000000 in
set_option maxRecDepth 100000 in
theorem step4 (a1 : Int) (w : World) :
    Calls Tryd.prog 56 #[.int .i64 4, .int .u8 a1] w fun e w' => e = .returned (.int .i64 (stepN 4 a1)) ∧ Below w.heap.size w w' := by
  have hmf : ∀ (fn : Fn) (first cap : Array Value) (w : World), (Instr.makeFunc fn first cap).run Tryd.prog w = .ok (.func fn first cap) w := fun _ _ _ _ => rfl
  go_enter Tryd.func56, Tryd.ntmps56
  go_wp2
  all_goals
    go_ret
    refine ⟨ret_int ?_, by repeat (first | exact Below.refl _ _ | apply Below.drew | refine Below.alloc ?_ (Nat.le_refl _) _)⟩
    try simp only [beq_iff_eq, beq_eq_false_iff_ne, ne_eq] at *
    unfold stepN
    first | rfl | (simp [*]; done) | (simp [*]; omega)

set_option maxHeartbeats 8000000 in
set_option maxRecDepth 100000 in
theorem step5 (a1 : Int) (w : World) :
    Calls Tryd.prog 56 #[.int .i64 5, .int .u8 a1] w fun e w' => e = .returned (.int .i64 (stepN 5 a1)) ∧ Below w.heap.size w w' := by
  have hmf : ∀ (fn : Fn) (first cap : Array Value) (w : World), (Instr.makeFunc fn first cap).run Tryd.prog w = .ok (.func fn first cap) w := fun _ _ _ _ => rfl
  go_enter Tryd.func56, Tryd.ntmps56
  go_wp2
  all_goals
    go_ret
    refine ⟨ret_int ?_, by repeat (first | exact Below.refl _ _ | apply Below.drew | refine Below.alloc ?_ (Nat.le_refl _) _)⟩
    try simp only [beq_iff_eq, beq_eq_false_iff_ne, ne_eq] at *
    unfold stepN
    first | rfl | (simp [*]; done) | (simp [*]; omega)

set_option maxHeartbeats 8000000 in
set_option maxRecDepth 100000 in
theorem step6 (a1 : Int) (w : World) :
    Calls Tryd.prog 56 #[.int .i64 6, .int .u8 a1] w fun e w' => e = .returned (.int .i64 (stepN 6 a1)) ∧ Below w.heap.size w w' := by
  have hmf : ∀ (fn : Fn) (first cap : Array Value) (w : World), (Instr.makeFunc fn first cap).run Tryd.prog w = .ok (.func fn first cap) w := fun _ _ _ _ => rfl
  go_enter Tryd.func56, Tryd.ntmps56
  go_wp2
  all_goals
    go_ret
    refine ⟨ret_int ?_, by repeat (first | exact Below.refl _ _ | apply Below.drew | refine Below.alloc ?_ (Nat.le_refl _) _)⟩
    try simp only [beq_iff_eq, beq_eq_false_iff_ne, ne_eq] at *
    unfold stepN
    first | rfl | (simp [*]; done) | (simp [*]; omega)

set_option maxHeartbeats 8000000 in
set_option maxRecDepth 100000 in
theorem step7 (a1 : Int) (w : World) :
    Calls Tryd.prog 56 #[.int .i64 7, .int .u8 a1] w fun e w' => e = .returned (.int .i64 (stepN 7 a1)) ∧ Below w.heap.size w w' := by
  have hmf : ∀ (fn : Fn) (first cap : Array Value) (w : World), (Instr.makeFunc fn first cap).run Tryd.prog w = .ok (.func fn first cap) w := fun _ _ _ _ => rfl
  go_enter Tryd.func56, Tryd.ntmps56
  go_wp2
  all_goals
    go_ret
    refine ⟨ret_int ?_, by repeat (first | exact Below.refl _ _ | apply Below.drew | refine Below.alloc ?_ (Nat.le_refl _) _)⟩
    try simp only [beq_iff_eq, beq_eq_false_iff_ne, ne_eq] at *
    unfold stepN
    first | rfl | (simp [*]; done) | (simp [*]; omega)

set_option maxHeartbeats 8000000 in
set_option maxRecDepth 100000 in
theorem step8 (a1 : Int) (w : World) :
    Calls Tryd.prog 56 #[.int .i64 8, .int .u8 a1] w fun e w' => e = .returned (.int .i64 (stepN 8 a1)) ∧ Below w.heap.size w w' := by
  have hmf : ∀ (fn : Fn) (first cap : Array Value) (w : World), (Instr.makeFunc fn first cap).run Tryd.prog w = .ok (.func fn first cap) w := fun _ _ _ _ => rfl
  go_enter Tryd.func56, Tryd.ntmps56
  go_wp2
  all_goals
    go_ret
    refine ⟨ret_int ?_, by repeat (first | exact Below.refl _ _ | apply Below.drew | refine Below.alloc ?_ (Nat.le_refl _) _)⟩
    try simp only [beq_iff_eq, beq_eq_false_iff_ne, ne_eq] at *
    unfold stepN
    first | rfl | (simp [*]; done) | (simp [*]; omega)

set_option maxHeartbeats 8000000 in
set_option maxRecDepth 100000 in
theorem step9 (a0 a1 : Int) (w : World) (h0 : (a0 == 0) = false) (h1 : (a0 == 1) = false) (h2 : (a0 == 2) = false) (h3 : (a0 == 3) = false) (h4 : (a0 == 4) = false) (h5 : (a0 == 5) = false) (h6 : (a0 == 6) = false) (h7 : (a0 == 7) = false) (h8 : (a0 == 8) = false) :
    Calls Tryd.prog 56 #[.int .i64 a0, .int .u8 a1] w fun e w' => e = .returned (.int .i64 (stepN a0 a1)) ∧ Below w.heap.size w w' := by
  have hmf : ∀ (fn : Fn) (first cap : Array Value) (w : World), (Instr.makeFunc fn first cap).run Tryd.prog w = .ok (.func fn first cap) w := fun _ _ _ _ => rfl
  go_enter Tryd.func56, Tryd.ntmps56
  go_wp2
  go_ret
  refine ⟨ret_int ?_, by repeat (first | exact Below.refl _ _ | apply Below.drew | refine Below.alloc ?_ (Nat.le_refl _) _)⟩
  simp only [beq_eq_false_iff_ne, ne_eq] at *
  unfold stepN
  simp [*]

theorem num_step.calls (a0 : Int) (a1 : Int) (r : Int) (w : World) (h : num_step.f a0 a1 = some r) :
    Calls Tryd.prog 56 #[.int .i64 a0, .int .u8 a1] w fun e w' => e = .returned (.int .i64 r) ∧ Below w.heap.size w w' := by
  obtain rfl := Option.some.inj h
  by_cases h0 : a0 = 0
  · subst h0; exact step0 a1 w
  by_cases h1 : a0 = 1
  · subst h1; exact step1 a1 w
  by_cases h2 : a0 = 2
  · subst h2; exact step2 a1 w
  by_cases h3 : a0 = 3
  · subst h3; exact step3 a1 w
  by_cases h4 : a0 = 4
  · subst h4; exact step4 a1 w
  by_cases h5 : a0 = 5
  · subst h5; exact step5 a1 w
  by_cases h6 : a0 = 6
  · subst h6; exact step6 a1 w
  by_cases h7 : a0 = 7
  · subst h7; exact step7 a1 w
  by_cases h8 : a0 = 8
  · subst h8; exact step8 a1 w
  exact step9 a0 a1 w (beq_eq_false_iff_ne.2 h0) (beq_eq_false_iff_ne.2 h1) (beq_eq_false_iff_ne.2 h2) (beq_eq_false_iff_ne.2 h3) (beq_eq_false_iff_ne.2 h4) (beq_eq_false_iff_ne.2 h5) (beq_eq_false_iff_ne.2 h6) (beq_eq_false_iff_ne.2 h7) (beq_eq_false_iff_ne.2 h8)
end Go.Proofs.YtffncomekbfihaaDoor.Nat
