/- glossatorref22.told of any number. -/
import Derived.Test.YtfcfnnkepjoncaaDoorTold
namespace Go.Proofs.YtfcfnnkepjoncaaDoor.Hand
open Go.RowKit Go.Shelf
set_option linter.unusedVariables false
theorem dd_len (m : Nat) : (Lib.decDigits m).length ≤ m + 1 := by
  induction m using Nat.strongRecOn with
  | _ m im =>
    by_cases hm : m < 10
    · rw [dd_small hm]; simp
    · rw [dd_big hm, List.length_append]
      have := im (m / 10) (by omega)
      simp; omega
theorem below_of {w w1 w2 : World} (h1 : Below w.heap.size w w1) (h2 : Below w1.heap.size w1 w2) : Below w.heap.size w w2 := h1.trans (h2.mono h1.size)
theorem told_join (m : Nat) (hm : 10 ≤ m) : ((⟨#[45]⟩ : ByteArray) ++ ⟨(Lib.decDigits (m / 10)).toArray⟩ ++ ⟨(Lib.decDigits (m % 10)).toArray⟩) = ⟨(45 :: Lib.decDigits m).toArray⟩ := by
  have h_ := dd_big (n := m) (by omega)
  rw [h_, dd_small (n := m % 10) (by omega)]
  apply ByteArray.ext
  simp
theorem told_join1 (m : Nat) : ((⟨#[45]⟩ : ByteArray) ++ ⟨(Lib.decDigits m).toArray⟩) = ⟨(45 :: Lib.decDigits m).toArray⟩ := by
  apply ByteArray.ext
  simp
set_option maxHeartbeats 4000000 in
set_option maxRecDepth 100000 in
theorem told_neg (m : Nat) (w : World) (hm : 10 ≤ m) (h63 : m ≤ 9223372036854775808) : Calls Tryd.prog 13 #[.int .i64 (-(m : Int))] w fun e w' => e = .returned (.string ⟨(45 :: Lib.decDigits m).toArray⟩) ∧ Below w.heap.size w w' := by
  have hn0 : (-(m : Int)) < 0 := by omega
  have hn9 : (-(m : Int)) < -9 := by omega
  have h1 : ∀ W, Calls Tryd.prog 13 #[.int .i64 ((m : Int) / 10)] W fun e w' => e = .returned (.string ⟨(Lib.decDigits (m / 10)).toArray⟩) ∧ Below W.heap.size W w' := fun W => by
    have h_ := told_nat (m / 10) (m / 10) W (Nat.le_refl _) (by omega)
    rwa [show (((m / 10 : Nat)) : Int) = (m : Int) / 10 by omega] at h_
  have h2 : ∀ W, Calls Tryd.prog 13 #[.int .i64 ((m : Int) % 10)] W fun e w' => e = .returned (.string ⟨(Lib.decDigits (m % 10)).toArray⟩) ∧ Below W.heap.size W w' := fun W => by
    have h_ := told_nat (m % 10) (m % 10) W (Nat.le_refl _) (by omega)
    rwa [show (((m % 10 : Nat)) : Int) = (m : Int) % 10 by omega] at h_
  have d1 := dd_len (m / 10)
  have d2 := dd_len (m % 10)
  go_enter Tryd.func13, Tryd.ntmps13
  go_wp2_with (first | (go_at_call 13; (with_reducible refine (h1 _).mono ?_); rintro e1 w1 ⟨rfl, hb1⟩) | (go_at_call 13; (with_reducible refine (h2 _).mono ?_); rintro e2 w2 ⟨rfl, hb2⟩))
  go_ret
  refine ⟨?_, below_of hb1 hb2⟩
  exact congrArg (fun s => Ending.returned (Value.string s)) (told_join m hm)
set_option maxHeartbeats 4000000 in
set_option maxRecDepth 100000 in
theorem told_neg1 (m : Nat) (w : World) (h0 : 0 < m) (hm : m < 10) : Calls Tryd.prog 13 #[.int .i64 (-(m : Int))] w fun e w' => e = .returned (.string ⟨(45 :: Lib.decDigits m).toArray⟩) ∧ Below w.heap.size w w' := by
  have hn0 : (-(m : Int)) < 0 := by omega
  have hn9 : ¬ (-(m : Int)) < -9 := by omega
  have h1 := told_nat m m w (Nat.le_refl _) (by omega)
  have d1 := dd_len m
  go_enter Tryd.func13, Tryd.ntmps13
  go_wp2_with (go_at_call 13; (with_reducible refine h1.mono ?_); rintro e1 w1 ⟨rfl, hb1⟩)
  go_ret
  refine ⟨?_, hb1⟩
  exact congrArg (fun s => Ending.returned (Value.string s)) (told_join1 m)
theorem told_any (n : Int) (w : World) (h : I64 n) : Calls Tryd.prog 13 #[.int .i64 n] w fun e w' => e = .returned (.string ⟨(Lib.itoa n).toArray⟩) ∧ Below w.heap.size w w' := by
  by_cases h0 : n < 0
  · obtain ⟨m, rfl⟩ : ∃ m : Nat, n = -(m : Int) := ⟨n.natAbs, by omega⟩
    have e : Lib.itoa (-(m : Int)) = 45 :: Lib.decDigits m := by unfold Lib.itoa; rw [if_pos h0]; simp
    rw [e]
    by_cases hm : 10 ≤ m
    · exact told_neg m w hm (by have := h.1; omega)
    · exact told_neg1 m w (by omega) (by omega)
  · obtain ⟨m, rfl⟩ : ∃ m : Nat, n = (m : Int) := ⟨n.toNat, by omega⟩
    have e : Lib.itoa (m : Int) = Lib.decDigits m := by unfold Lib.itoa; rw [if_neg h0]; simp
    rw [e]
    exact told_nat m m w (Nat.le_refl _) (by have := h.2; omega)
end Go.Proofs.YtfcfnnkepjoncaaDoor.Hand
