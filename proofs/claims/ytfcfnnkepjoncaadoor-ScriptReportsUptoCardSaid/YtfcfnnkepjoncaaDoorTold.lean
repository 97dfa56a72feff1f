/- glossatorref22.told: a number's decimal digits. -/
import Derived.Test.YtfcfnnkepjoncaaDoorReport
import Derived.Laws.BytesString
namespace Go.Proofs.YtfcfnnkepjoncaaDoor.Hand
open Go.RowKit Go.Shelf
set_option linter.unusedVariables false
theorem byte_string (w : World) (m : Int) : (convert 22 9 (.slice (some ⟨w.heap.size, 0, none⟩) 1 1)).run Tryd.prog (w.alloc (.cells #[.int .u8 m] 5)) = .ok (.string ⟨#[UInt8.ofNat m.toNat]⟩) (w.alloc (.cells #[.int .u8 m] 5)) := by
  rw [run_convert_bytes_string _ 22 9 5 _ _ _ Tryd.underlying22 Tryd.underlying5 Tryd.underlying9]
  have hl : (loadCells ⟨w.heap.size, 0, none⟩ 1).run Tryd.prog (w.alloc (.cells #[.int .u8 m] 5)) = .ok ([m].map (Value.int .u8)).toArray (w.alloc (.cells #[.int .u8 m] 5)) := by
    have hc : (w.alloc (.cells #[.int .u8 m] 5)).cell? ⟨w.heap.size, 0, none⟩ = some (.int .u8 m) := by rw [Lib.cell_of_heap (heap_alloc_new w _)]; rfl
    simp [loadCells, loadCellsFrom, go_sem, hc]
  rw [run_bytesToString _ _ 1 1 [m] hl]
  rfl
theorem dd_small {n : Nat} (h : n < 10) : Lib.decDigits n = [UInt8.ofNat (48 + n)] := by rw [Lib.decDigits]; simp [h]
theorem dd_big {n : Nat} (h : ¬ n < 10) : Lib.decDigits n = Lib.decDigits (n / 10) ++ [UInt8.ofNat (48 + n % 10)] := by rw [Lib.decDigits]; simp [h]
set_option maxHeartbeats 4000000 in
set_option maxRecDepth 100000 in
/-- told of a number that is not negative -/
theorem told_nat (k : Nat) : ∀ (n : Nat) (w : World), n ≤ k → n ≤ 9223372036854775807 → Calls Tryd.prog 13 #[.int .i64 n] w fun e w' => e = .returned (.string ⟨(Lib.decDigits n).toArray⟩) ∧ Below w.heap.size w w' := by
  induction k with
  | zero =>
    intro n w hn h63
    obtain rfl : n = 0 := by omega
    have hcv := byte_string w 48
    have HB := (Below.refl _ w).alloc (Nat.le_refl _) (.cells #[.int .u8 48] 5)
    go_enter Tryd.func13, Tryd.ntmps13
    go_wp2
    go_ret
    exact ⟨by rw [dd_small (by decide)]; rfl, HB⟩
  | succ k ih =>
    intro n w hn h63
    have hnn : ¬ (n : Int) < 0 := by omega
    have hcv := byte_string w (48 + (n : Int) % 10)
    have HB := (Below.refl _ w).alloc (Nat.le_refl _) (.cells #[.int .u8 (48 + (n : Int) % 10)] 5)
    by_cases h10 : (10 : Int) ≤ (n : Int)
    · have hi := ih (n / 10) (w.alloc (.cells #[.int .u8 (48 + (n : Int) % 10)] 5)) (by omega) (by omega)
      rw [show (((n / 10 : Nat) : Int)) = (n : Int) / 10 by omega] at hi
      have e1 : ((⟨(Lib.decDigits (n / 10)).toArray⟩ : ByteArray) ++ ⟨#[48 + UInt8.ofNat (n % 10)]⟩) = ⟨(Lib.decDigits n).toArray⟩ := by
        have h_ := dd_big (n := n) (by omega)
        rw [h_]
        apply ByteArray.ext
        simp
      have hdl : (Lib.decDigits (n / 10)).length ≤ n / 10 + 1 := by
        clear ih hcv HB hi
        have h_ : ∀ m : Nat, (Lib.decDigits m).length ≤ m + 1 := by
          intro m
          induction m using Nat.strongRecOn with
          | _ m im =>
            by_cases hm : m < 10
            · rw [dd_small hm]; simp
            · rw [dd_big hm, List.length_append]
              have := im (m / 10) (by omega)
              simp; omega
        exact h_ (n / 10)
      go_enter Tryd.func13, Tryd.ntmps13
      go_wp2_with (go_at_call 13; (refine hi.mono ?_); clear hi; rintro e1 w1 ⟨rfl, hb_⟩)
      go_ret
      exact ⟨rfl, HB.trans (hb_.mono (by rw [World.size_alloc]; omega))⟩
    · go_enter Tryd.func13, Tryd.ntmps13
      go_wp2
      go_ret
      exact ⟨by have hm : n % 10 = n := Nat.mod_eq_of_lt (by omega)
                rw [dd_small (by omega)]; simp [hm], HB⟩
end Go.Proofs.YtfcfnnkepjoncaaDoor.Hand
