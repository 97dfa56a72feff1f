import Derived.Test.YtfcfnnkepjoncaaDoorBase3
import Derived.BigQuiet
namespace Go.Proofs.YtfcfnnkepjoncaaDoor.Base
open Go.RowKit Go.Proofs.YtfcfnnkepjoncaaDoorW.PrintWords Go.Proofs.YtfcfnnkepjoncaaDoorW.PrintLast
set_option linter.unusedVariables false
set_option linter.unusedSimpArgs false

theorem ret_i {k : IntKind} {a b : Int} (h : a = b) : Ending.returned (.int k a) = .returned (.int k b) := by rw [h]
/-- how many letters so many bytes have -/
def lenK (k n : Int) : Int := if (ofK k).2.2.2 = false ∨ n < 0 ∨ n > 1048576 then 0 else ((8 * n + (ofK k).2.1 - 1) / (ofK k).2.1 + (ofK k).2.2.1 - 1) / (ofK k).2.2.1 * (ofK k).2.2.1
def base_Len.f (a0 a1 : Int) : Option Int := some (lenK a0 a1)

theorem of_cases (k : Int) : (0 ≤ k ∧ k ≤ 3 ∧ (ofK k).2.2.2 = true ∧ 4 ≤ (ofK k).2.1 ∧ (ofK k).2.1 ≤ 6 ∧ 1 ≤ (ofK k).2.2.1 ∧ (ofK k).2.2.1 ≤ 8) ∨ (ofK k = (⟨#[]⟩, 0, 0, false) ∧ ¬ (0 ≤ k ∧ k ≤ 3)) := by
  unfold ofK
  by_cases k0 : k = 0
  · subst k0; left; decide
  by_cases k1 : k = 1
  · subst k1; left; decide
  by_cases k2 : k = 2
  · subst k2; left; decide
  by_cases k3 : k = 3
  · subst k3; left; decide
  right; simp [k0, k1, k2, k3]; omega

set_option maxRecDepth 100000 in
set_option maxHeartbeats 3200000 in
theorem len_in0 (n : Int) (w : World) (h0 : 0 ≤ n) (h1 : n ≤ 1048576) :
    Calls Tryd.prog 17 #[.int .i64 0, .int .i64 n] w fun e w' => e = .returned (.int .i64 (((8 * n + 4 - 1) / 4 + 1 - 1) / 1 * 1)) ∧ Below w.heap.size w w' := by
  have n0 : ¬ n < 0 := by omega
  have n1 : ¬ 1048576 < n := by omega
  go_enter Tryd.func17, Tryd.ntmps17
  go_wp2_with fail
  refine (base_of.calls _ aHex 4 1 true _ rfl).mono ?_
  rintro e w' ⟨rfl, B⟩
  go_wp2_with fail
  go_quiet (fail)
  go_wp2
  go_ret
  refine ⟨ret_i (by omega), by repeat (first | exact B | apply Below.drew | apply pw_below_drewN | refine Below.alloc ?_ B.size _)⟩

set_option maxRecDepth 100000 in
set_option maxHeartbeats 3200000 in
theorem len_in1 (n : Int) (w : World) (h0 : 0 ≤ n) (h1 : n ≤ 1048576) :
    Calls Tryd.prog 17 #[.int .i64 1, .int .i64 n] w fun e w' => e = .returned (.int .i64 (((8 * n + 6 - 1) / 6 + 4 - 1) / 4 * 4)) ∧ Below w.heap.size w w' := by
  have n0 : ¬ n < 0 := by omega
  have n1 : ¬ 1048576 < n := by omega
  go_enter Tryd.func17, Tryd.ntmps17
  go_wp2_with fail
  refine (base_of.calls _ aB64 6 4 true _ rfl).mono ?_
  rintro e w' ⟨rfl, B⟩
  go_wp2_with fail
  go_quiet (fail)
  go_wp2
  go_ret
  refine ⟨ret_i (by omega), by repeat (first | exact B | apply Below.drew | apply pw_below_drewN | refine Below.alloc ?_ B.size _)⟩

set_option maxRecDepth 100000 in
set_option maxHeartbeats 3200000 in
theorem len_in2 (n : Int) (w : World) (h0 : 0 ≤ n) (h1 : n ≤ 1048576) :
    Calls Tryd.prog 17 #[.int .i64 2, .int .i64 n] w fun e w' => e = .returned (.int .i64 (((8 * n + 6 - 1) / 6 + 1 - 1) / 1 * 1)) ∧ Below w.heap.size w w' := by
  have n0 : ¬ n < 0 := by omega
  have n1 : ¬ 1048576 < n := by omega
  go_enter Tryd.func17, Tryd.ntmps17
  go_wp2_with fail
  refine (base_of.calls _ aU64 6 1 true _ rfl).mono ?_
  rintro e w' ⟨rfl, B⟩
  go_wp2_with fail
  go_quiet (fail)
  go_wp2
  go_ret
  refine ⟨ret_i (by omega), by repeat (first | exact B | apply Below.drew | apply pw_below_drewN | refine Below.alloc ?_ B.size _)⟩

set_option maxRecDepth 100000 in
set_option maxHeartbeats 3200000 in
theorem len_in3 (n : Int) (w : World) (h0 : 0 ≤ n) (h1 : n ≤ 1048576) :
    Calls Tryd.prog 17 #[.int .i64 3, .int .i64 n] w fun e w' => e = .returned (.int .i64 (((8 * n + 5 - 1) / 5 + 8 - 1) / 8 * 8)) ∧ Below w.heap.size w w' := by
  have n0 : ¬ n < 0 := by omega
  have n1 : ¬ 1048576 < n := by omega
  go_enter Tryd.func17, Tryd.ntmps17
  go_wp2_with fail
  refine (base_of.calls _ aB32 5 8 true _ rfl).mono ?_
  rintro e w' ⟨rfl, B⟩
  go_wp2_with fail
  go_quiet (fail)
  go_wp2
  go_ret
  refine ⟨ret_i (by omega), by repeat (first | exact B | apply Below.drew | apply pw_below_drewN | refine Below.alloc ?_ B.size _)⟩

set_option maxRecDepth 100000 in
set_option maxHeartbeats 3200000 in
theorem len_out (k n : Int) (L : ByteArray) (b f : Int) (ok : Bool) (w : World) (h : base_of.f k = some (L, b, f, ok)) (ho : ok = false ∨ n < 0 ∨ 1048576 < n) :
    Calls Tryd.prog 17 #[.int .i64 k, .int .i64 n] w fun e w' => e = .returned (.int .i64 0) ∧ Below w.heap.size w w' := by
  go_enter Tryd.func17, Tryd.ntmps17
  go_wp2_with fail
  refine (base_of.calls _ _ _ _ _ _ h).mono ?_
  rintro e w' ⟨rfl, B⟩
  clear h
  cases ok with
  | false =>
    go_wp2
    all_goals
      go_ret
      exact ⟨rfl, by repeat (first | exact B | apply Below.drew | refine Below.alloc ?_ B.size _)⟩
  | true =>
    have h2 : n < 0 ∨ 1048576 < n := by simpa using ho
    clear ho
    rcases h2 with q | q
    · go_wp2
      all_goals
        go_ret
        exact ⟨rfl, by repeat (first | exact B | apply Below.drew | refine Below.alloc ?_ B.size _)⟩
    · have q0 : ¬ n < 0 := by omega
      go_wp2
      all_goals
        go_ret
        exact ⟨rfl, by repeat (first | exact B | apply Below.drew | refine Below.alloc ?_ B.size _)⟩

theorem base_Len.calls (a0 a1 : Int) (r : Int) (w : World) (h : base_Len.f a0 a1 = some r) :
    Calls Tryd.prog 17 #[.int .i64 a0, .int .i64 a1] w fun e w' => e = .returned (.int .i64 r) ∧ Below w.heap.size w w' := by
  obtain rfl := Option.some.inj h
  unfold lenK
  by_cases c : (ofK a0).2.2.2 = false ∨ a1 < 0 ∨ a1 > 1048576
  · rw [if_pos c]; exact len_out a0 a1 _ _ _ _ w rfl c
  · rw [if_neg c]
    have c1 : 0 ≤ a1 ∧ a1 ≤ 1048576 := by omega
    rcases of_cases a0 with ⟨z0, z3, _⟩ | ⟨z, _⟩
    · rcases (show a0 = 0 ∨ a0 = 1 ∨ a0 = 2 ∨ a0 = 3 by omega) with rfl | rfl | rfl | rfl
      · exact len_in0 a1 w c1.1 c1.2
      · exact len_in1 a1 w c1.1 c1.2
      · exact len_in2 a1 w c1.1 c1.2
      · exact len_in3 a1 w c1.1 c1.2
    · rw [z] at c; exact absurd (.inl rfl) c
end Go.Proofs.YtfcfnnkepjoncaaDoor.Base
