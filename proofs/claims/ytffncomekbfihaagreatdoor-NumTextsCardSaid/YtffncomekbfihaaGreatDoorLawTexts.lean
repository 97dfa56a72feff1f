/- glossatorlaw07.NumTexts. -/
import Derived.Test.YtffncomekbfihaaGreatDoorRef18
import Derived.Test.YtffncomekbfihaaGreatDoorAwake7
import Derived.Test.YtffncomekbfihaaGreatDoorValOpen
namespace Go.Proofs.YtffncomekbfihaaGreatDoor.Nat
open Go.RowKit Go.Shelf
set_option linter.unusedVariables false
theorem ntext_num (K : Int) (neg : Bool) (N : Nat) (S : ByteArray) (A : Option Addr) (c v : Nat) (w : World) (hN : N < 18446744073709551616) (h : IsNum K N S v) :
    Calls Tryz.prog 12 #[.agg #[.int .i64 K, .bool neg, .int .u64 (N : Int), .string S, .slice A 0 c]] w fun e w' => ∃ s, e = .returned (.tuple #[.string s, .int .i64 0]) ∧ bts s = sgb neg ++ dec (v + ng neg) ∧ Below w.heap.size w w' := by
  rcases h with ⟨rfl, hs, rfl⟩ | ⟨rfl, rfl, h8, h512, ⟨c0, h0, hc0⟩, rfl⟩
  · exact ntext_int neg v S A c w hs hN
  · exact ntext_big neg S A c w h8 h512 c0 h0 hc0
set_option maxHeartbeats 8000000 in
set_option maxRecDepth 100000 in
theorem texts_calls (K : Int) (neg : Bool) (N : Nat) (S : ByteArray) (A : Option Addr) (l c : Nat) (w : World) (hN : N < 18446744073709551616) (T : Lib.TabIs Tryz.prog w "internal/strconv.uint64pow10" .u64 Lib.pow10Tab) :
    Calls Tryz.prog 4 #[.agg #[.int .i64 K, .bool neg, .int .u64 (N : Int), .string S, .slice A l c]] w fun e w' => e = .returned (.bool true) ∧ Below w.heap.size w w' := by
  have ka := fun W => awake7_calls W
  have hb0 := below_alloc w (.cells #[.int .i64 K, .bool neg, .int .u64 (N : Int), .string S, .slice A l c] 36)
  have hh := heap_alloc_new w (.cells #[.int .i64 K, .bool neg, .int .u64 (N : Int), .string S, .slice A l c] 36)
  rcases val_cases K neg N S l with h | ⟨rfl, ⟨v, h⟩ | ⟨rfl, rfl, hs⟩⟩
  · have k1 := fun W => ntext_none K neg N S A l c W h
    have k2 := fun W => rtx_none K neg N S A l c W h
    clear h T
    go_enter Tryz.func4, Tryz.ntmps4
    go_wp2_with (first
      | (go_at_call 12; (with_reducible refine (k1 _).mono ?_); clear k1; rintro e1 w1 ⟨rfl, hb1⟩; have hh1 := bk_below hh hb1; have c0 := (cell_of_row w1 w.heap.size 0 _ _ (0, 0) hh1).trans rfl; have c1 := (cell_of_row w1 w.heap.size 1 _ _ (0, 0) hh1).trans rfl; have c2 := (cell_of_row w1 w.heap.size 2 _ _ (0, 0) hh1).trans rfl; have c3 := (cell_of_row w1 w.heap.size 3 _ _ (0, 0) hh1).trans rfl; have c4 := (cell_of_row w1 w.heap.size 4 _ _ (0, 0) hh1).trans rfl)
      | (go_at_call 13; (with_reducible refine (k2 _).mono ?_); clear k2; rintro e2 w2 ⟨rfl, hb2⟩)
      | (go_at_call 14; (with_reducible refine (ka _).mono ?_); clear ka; rintro e3 w3 ⟨rfl, hb3⟩))
    go_ret
    exact ⟨rfl, below_step hb0 (below_step hb1 (below_step hb2 hb3))⟩
  · have k1 := fun W => ntext_num K neg N S A c v W hN h
    have k2 := fun W => rtx_num K neg N S A c v W hN h
    clear h T
    go_enter Tryz.func4, Tryz.ntmps4
    go_wp2_with (first
      | (go_at_call 12; (with_reducible refine (k1 _).mono ?_); clear k1; rintro e1 w1 ⟨s1, rfl, hs1, hb1⟩; have hh1 := bk_below hh hb1; have c0 := (cell_of_row w1 w.heap.size 0 _ _ (0, 0) hh1).trans rfl; have c1 := (cell_of_row w1 w.heap.size 1 _ _ (0, 0) hh1).trans rfl; have c2 := (cell_of_row w1 w.heap.size 2 _ _ (0, 0) hh1).trans rfl; have c3 := (cell_of_row w1 w.heap.size 3 _ _ (0, 0) hh1).trans rfl; have c4 := (cell_of_row w1 w.heap.size 4 _ _ (0, 0) hh1).trans rfl)
      | (go_at_call 13; (with_reducible refine (k2 _).mono ?_); clear k2; rintro e2 w2 ⟨s2, rfl, hs2, hb2⟩; obtain rfl := bts_inj (hs1.trans hs2.symm); clear hs2)
      | (go_at_call 14; (with_reducible refine (ka _).mono ?_); clear ka; rintro e3 w3 ⟨rfl, hb3⟩))
    go_ret
    exact ⟨by simp, below_step hb0 (below_step hb1 (below_step hb2 hb3))⟩
  · by_cases hf : fe N = 2047
    · have k1 := fun W => ntext_bad N S A c W hs hN hf
      have k2 := fun W => rtx_bad N S A c W hs hN hf
      clear hf hs T
      go_enter Tryz.func4, Tryz.ntmps4
      go_wp2_with (first
        | (go_at_call 12; (with_reducible refine (k1 _).mono ?_); clear k1; rintro e1 w1 ⟨rfl, hb1⟩; have hh1 := bk_below hh hb1; have c0 := (cell_of_row w1 w.heap.size 0 _ _ (0, 0) hh1).trans rfl; have c1 := (cell_of_row w1 w.heap.size 1 _ _ (0, 0) hh1).trans rfl; have c2 := (cell_of_row w1 w.heap.size 2 _ _ (0, 0) hh1).trans rfl; have c3 := (cell_of_row w1 w.heap.size 3 _ _ (0, 0) hh1).trans rfl; have c4 := (cell_of_row w1 w.heap.size 4 _ _ (0, 0) hh1).trans rfl)
        | (go_at_call 13; (with_reducible refine (k2 _).mono ?_); clear k2; rintro e2 w2 ⟨rfl, hb2⟩)
        | (go_at_call 14; (with_reducible refine (ka _).mono ?_); clear ka; rintro e3 w3 ⟨rfl, hb3⟩))
      go_ret
      exact ⟨rfl, below_step hb0 (below_step hb1 (below_step hb2 hb3))⟩
    · have k1 := ntext_fl N S A c _ hs hN hf (Lib.tabBelow_of_tabIs T _ hb0)
      have k2 := fun W => rtx_fl N S A c W hs hN hf
      clear hf hs T
      go_enter Tryz.func4, Tryz.ntmps4
      go_wp2_with (first
        | (go_at_call 12; (with_reducible refine k1.mono ?_); clear k1; rintro e1 w1 ⟨s1, d1, y1, rfl, hs1, hd1, hb1⟩; have hh1 := bk_below hh hb1; have c0 := (cell_of_row w1 w.heap.size 0 _ _ (0, 0) hh1).trans rfl; have c1 := (cell_of_row w1 w.heap.size 1 _ _ (0, 0) hh1).trans rfl; have c2 := (cell_of_row w1 w.heap.size 2 _ _ (0, 0) hh1).trans rfl; have c3 := (cell_of_row w1 w.heap.size 3 _ _ (0, 0) hh1).trans rfl; have c4 := (cell_of_row w1 w.heap.size 4 _ _ (0, 0) hh1).trans rfl)
        | (go_at_call 13; (with_reducible refine (k2 _).mono ?_); clear k2; rintro e2 w2 ⟨s2, d2, y2, rfl, hs2, hd2, hb2⟩; obtain ⟨q3, q4⟩ := digs_uniq hd1 hd2; subst q3; subst q4; obtain rfl := bts_inj (hs1.trans hs2.symm); clear hs2 hd2)
        | (go_at_call 14; (with_reducible refine (ka _).mono ?_); clear ka; rintro e3 w3 ⟨rfl, hb3⟩))
      go_ret
      exact ⟨by simp, below_step hb0 (below_step hb1 (below_step hb2 hb3))⟩
theorem texts_calls_i (K : Int) (neg : Bool) (a : Int) (S : ByteArray) (A : Option Addr) (l c : Nat) (w : World) (ha : (Lit.int .u64 a).wf = true) (T : Lib.TabIs Tryz.prog w "internal/strconv.uint64pow10" .u64 Lib.pow10Tab) :
    Calls Tryz.prog 4 #[.agg #[.int .i64 K, .bool neg, .int .u64 a, .string S, .slice A l c]] w fun e w' => e = .returned (.bool true) ∧ Below w.heap.size w w' := by
  have h1 : IntKind.u64.min = 0 := by decide
  have h2 : IntKind.u64.max = 18446744073709551615 := by decide
  simp [Lit.wf] at ha
  obtain ⟨n, rfl⟩ : ∃ n : Nat, a = n := ⟨a.toNat, by omega⟩
  exact texts_calls K neg n S A l c w (by omega) T
end Go.Proofs.YtffncomekbfihaaGreatDoor.Nat
