/- glossatorlaw07.NumBack. -/
import Derived.Test.YtffncomekbfihaaGreatDoorNBack
import Derived.Test.YtffncomekbfihaaGreatDoorValOpen
namespace Go.Proofs.YtffncomekbfihaaGreatDoor.Nat
open Go.RowKit Go.Shelf
set_option linter.unusedVariables false
set_option linter.unusedSimpArgs false
theorem ntext_num (K : Int) (neg : Bool) (N : Nat) (S : ByteArray) (A : Option Addr) (c v : Nat) (w : World) (hN : N < 18446744073709551616) (h : IsNum K N S v) :
    Calls Tryz.prog 12 #[.agg #[.int .i64 K, .bool neg, .int .u64 (N : Int), .string S, .slice A 0 c]] w fun e w' => ∃ s, e = .returned (.tuple #[.string s, .int .i64 0]) ∧ bts s = sgb neg ++ dec (v + ng neg) ∧ Below w.heap.size w w' := by
  rcases h with ⟨rfl, hs, rfl⟩ | ⟨rfl, rfl, h8, h512, ⟨c0, h0, hc0⟩, rfl⟩
  · exact ntext_int neg v S A c w hs hN
  · exact ntext_big neg S A c w h8 h512 c0 h0 hc0
theorem lay_len {d : List Nat} {e : Int} (h1 : 1 ≤ d.length) (h2 : d.length ≤ 17) (h3 : -1000 ≤ e) (h4 : e ≤ 1000) : (lay d e).length ≤ 100 := by
  unfold lay
  by_cases c1 : (d.length : Int) + e < -5 ∨ 21 < (d.length : Int) + e
  · rw [if_pos c1]
    have h5 := itoN_len (k := (d.length : Int) + e - 1) (by omega) (by omega)
    rw [List.length_append, List.length_append, List.length_append, List.length_take]
    split
    · rw [List.length_append, List.length_drop]; simp; omega
    · simp; omega
  rw [if_neg c1]
  by_cases c3 : (d.length : Int) + e ≤ 0
  · rw [if_pos c3, List.length_append, List.length_append, List.length_replicate]; simp; omega
  rw [if_neg c3]
  by_cases c4 : (d.length : Int) + e < d.length
  · rw [if_pos c4, List.length_append, List.length_append, List.length_take, List.length_drop]; simp; omega
  · rw [if_neg c4, List.length_append, List.length_append, List.length_replicate]; simp; omega
theorem isnum_limbs {K : Int} {N v : Nat} {S : ByteArray} (h : IsNum K N S v) (hN : N < 18446744073709551616) : (limbs v).length ≤ 128 := by
  rcases h with ⟨rfl, hs, rfl⟩ | ⟨rfl, rfl, h8, h512, _, rfl⟩
  · have := limbs_two hN; omega
  · exact limbs_bval (bts_all S) (by rw [bts_length]; exact h512)
set_option maxHeartbeats 16000000 in
set_option maxRecDepth 100000 in
theorem nback_calls (K : Int) (neg : Bool) (N : Nat) (S : ByteArray) (A : Option Addr) (l c : Nat) (w : World) (hN : N < 18446744073709551616) (T : Lib.TabIs Tryz.prog w "internal/strconv.uint64pow10" .u64 Lib.pow10Tab) :
    Calls Tryz.prog 6 #[.agg #[.int .i64 K, .bool neg, .int .u64 (N : Int), .string S, .slice A l c]] w fun e w' => e = .returned (.bool true) ∧ Below w.heap.size w w' := by
  have ka := fun W => awake7_calls W
  have hb0 := below_alloc w (.cells #[.int .i64 K, .bool neg, .int .u64 (N : Int), .string S, .slice A l c] 36)
  have hh := heap_alloc_new w (.cells #[.int .i64 K, .bool neg, .int .u64 (N : Int), .string S, .slice A l c] 36)
  rcases val_cases K neg N S l with h | ⟨rfl, ⟨v, h⟩ | ⟨rfl, rfl, hs⟩⟩
  · have k1 := fun W => ntext_none K neg N S A l c W h
    clear h T
    go_enter Tryz.func6, Tryz.ntmps6
    go_wp2_with (first
      | (go_at_call 12; (with_reducible refine (k1 _).mono ?_); clear k1; rintro e1 w1 ⟨rfl, hb1⟩)
      | (go_at_call 14; (with_reducible refine (ka _).mono ?_); clear ka; rintro e3 w3 ⟨rfl, hb3⟩))
    go_ret
    exact ⟨rfl, below_step hb0 (below_step hb1 hb3)⟩
  · have k1 := fun W => ntext_num K neg N S A c v W hN h
    have hlv := isnum_limbs h hN
    have hls : (limbs (v + ng neg)).length ≤ 129 := by
      unfold ng
      split
      · exact limbs_succ hlv
      · rw [Nat.add_zero]; omega
    have hdl := dec_short (v := v + ng neg) (by omega)
    have hsz : ∀ s : ByteArray, bts s = sgb neg ++ dec (v + ng neg) → s.size ≤ 131074 ∧ (dec (v + ng neg)).length ≤ s.size := fun s hs => by
      have h1 := bts_length s
      rw [hs, List.length_append] at h1
      have h2 : (sgb neg).length ≤ 1 := by unfold sgb; split <;> simp
      omega
    have k2 : ∀ (s : ByteArray) W, bts s = sgb neg ++ dec (v + ng neg) → Calls Tryz.prog 18 #[.string s] W fun e w' => e = .returned (.tuple #[.int .i64 (s.size : Int), .int .i64 0]) ∧ Below W.heap.size W w' := fun s W hs => by
      have h := numScan_calls s W (by have := (hsz s hs).1; omega)
      rw [hs, dgs_dec_sign, ← hs, bts_length] at h
      exact h
    by_cases hlong : 1200 < (dec (v + ng neg)).length
    · have k3 : ∀ (s : ByteArray) W, bts s = sgb neg ++ dec (v + ng neg) → Calls Tryz.prog 15 #[.string s] W fun e w' => e = .returned (.tuple #[nilV, .int .i64 8]) ∧ Below W.heap.size W w' := fun s W hs => value_long neg (dec (v + ng neg)) s W hs (dgs_dec _) hlong (by have := (hsz s hs).1; omega) (by rw [hs, dgs_dec_sign, ← hs, bts_length])
      have hlg : ∀ s : ByteArray, bts s = sgb neg ++ dec (v + ng neg) → (1200 : Int) < (s.size : Int) := fun s hs => by have := (hsz s hs).2; omega
      unfold nilV at k3
      clear h T hlv hls hdl hlong hsz
      go_enter Tryz.func6, Tryz.ntmps6
      go_wp2_with (first
        | (go_at_call 12; (with_reducible refine (k1 _).mono ?_); clear k1; rintro e1 w1 ⟨s1, rfl, hs1, hb1⟩; have hg := hlg s1 hs1; have k2 := k2 s1 w1 hs1)
        | (go_at_call 18; (with_reducible refine k2.mono ?_); clear k2; rintro e2 w2 ⟨rfl, hb2⟩; have k3 := k3 s1 w2 hs1)
        | (go_at_call 15; (with_reducible refine k3.mono ?_); clear k3; rintro e3 w3 ⟨rfl, hb3⟩)
        | (go_at_call 14; (with_reducible refine (ka _).mono ?_); clear ka; rintro e4 w4 ⟨rfl, hb4⟩))
      go_ret
      exact ⟨rfl, below_step hb0 (below_step hb1 (below_step hb2 (below_step hb3 (below_step (below_alloc _ _) hb4))))⟩
    · have k3 : ∀ (s : ByteArray) W, bts s = sgb neg ++ dec (v + ng neg) → Calls Tryz.prog 15 #[.string s] W fun e w' => e = .returned (.tuple #[.agg #[.int .i64 K, .bool neg, .int .u64 (N : Int), .string S, .slice none 0 0], .int .i64 0]) ∧ Below W.heap.size W w' := fun s W hs => (value_num neg v s W hs (by omega)).mono (fun e w' hP => ⟨isnum_val h hN hP.1, hP.2⟩)
      have k5 := fun W => same_calls K (N : Int) neg S A none c 0 W
      have HZ : Hid _ := Lib.hid hsz
      clear h T hlv hls hdl hlong hsz
      go_enter Tryz.func6, Tryz.ntmps6
      go_wp2_with (first
        | (go_at_call 12; (with_reducible refine (k1 _).mono ?_); clear k1; rintro e1 w1 ⟨s1, rfl, hs1, hb1⟩; have hh1 := bk_below hh hb1; have k2 := k2 s1 w1 hs1)
        | (go_at_call 18; (with_reducible refine k2.mono ?_); clear k2; rintro e2 w2 ⟨rfl, hb2⟩; have hh2 := bk_below hh1 hb2; have k3 := k3 s1 w2 hs1)
        | (go_at_call 15; (with_reducible refine k3.mono ?_); clear k3; rintro e3 w3 ⟨rfl, hb3⟩; have hh3 := bk_alloc (bk_below hh2 hb3) (.cells #[.int .i64 K, .bool neg, .int .u64 (N : Int), .string S, .slice none 0 0] 36); have q0 := (cell_of_row _ w.heap.size 0 _ _ (0, 0) hh3).trans rfl; have q1 := (cell_of_row _ w.heap.size 1 _ _ (0, 0) hh3).trans rfl; have q2 := (cell_of_row _ w.heap.size 2 _ _ (0, 0) hh3).trans rfl; have q3 := (cell_of_row _ w.heap.size 3 _ _ (0, 0) hh3).trans rfl; have q4 := (cell_of_row _ w.heap.size 4 _ _ (0, 0) hh3).trans rfl)
        | (go_at_call 17; (with_reducible refine (k5 _).mono ?_); clear k5; rintro e5 w5 ⟨rfl, hb5⟩)
        | (go_at_call 14; (with_reducible refine (ka _).mono ?_); clear ka; rintro e4 w4 ⟨rfl, hb4⟩))
      go_ret
      exact ⟨by simp, below_step hb0 (below_step hb1 (below_step hb2 (below_step hb3 (below_step (below_step (below_alloc _ _) hb5) hb4))))⟩
  · by_cases hf : fe N = 2047
    · have k1 := fun W => ntext_bad N S A c W hs hN hf
      clear hf hs T
      go_enter Tryz.func6, Tryz.ntmps6
      go_wp2_with (first
        | (go_at_call 12; (with_reducible refine (k1 _).mono ?_); clear k1; rintro e1 w1 ⟨rfl, hb1⟩)
        | (go_at_call 14; (with_reducible refine (ka _).mono ?_); clear ka; rintro e3 w3 ⟨rfl, hb3⟩))
      go_ret
      exact ⟨rfl, below_step hb0 (below_step hb1 hb3)⟩
    · have k1 := ntext_fl N S A c _ hs hN hf (Lib.tabBelow_of_tabIs T _ hb0)
      have hsz : ∀ (s : ByteArray) d e, bts s = sgl N ++ lay d e → Digs N d e → s.size ≤ 4096 := fun s d e hS hd => by
        obtain ⟨l1, l2, l3, l4⟩ := digs_len hd
        have hll := lay_len l1 l2 l3 l4
        have hsl : (sgl N).length ≤ 1 := by unfold sgl; split <;> simp
        have hbl := bts_length s
        rw [hS, List.length_append] at hbl
        omega
      have hval : ∀ (s : ByteArray) d e, bts s = sgl N ++ lay d e → Digs N d e → nsc 0 (bts s) 0 = (s.size, 0) := fun s d e hS hd => by
        rw [hS, nsc_lay hd, ← hS, bts_length]
      have k2 : ∀ (s : ByteArray) d e W, bts s = sgl N ++ lay d e → Digs N d e → Calls Tryz.prog 18 #[.string s] W fun e w' => e = .returned (.tuple #[.int .i64 (s.size : Int), .int .i64 0]) ∧ Below W.heap.size W w' := fun s d e W hS hd => by
        have h := numScan_calls s W (by have := hsz s d e hS hd; omega)
        rw [hval s d e hS hd] at h
        exact h
      have k3 : ∀ (s : ByteArray) d e W, bts s = sgl N ++ lay d e → Digs N d e → Calls Tryz.prog 15 #[.string s] W fun e w' => e = .returned (.tuple #[.agg #[.int .i64 8, .bool false, .int .u64 (N : Int), .string S, .slice none 0 0], .int .i64 0]) ∧ Below W.heap.size W w' := fun s d e W hS hd => by
        rw [emp_bytes hs]
        refine value_dot s W (by have := hsz s d e hS hd; omega) (hval s d e hS hd) ?_ N (by rw [hS]; exact digs_back hN hf hd)
        rw [hS]
        rcases lay_dot d e with h | h
        · exact .inl (List.mem_append_right _ h)
        · exact .inr (.inl (List.mem_append_right _ h))
      have k5 := fun W => same_calls 8 (N : Int) false S A none c 0 W
      clear hf hs T hval
      go_enter Tryz.func6, Tryz.ntmps6
      go_wp2_with (first
        | (go_at_call 12; (with_reducible refine k1.mono ?_); clear k1; rintro e1 w1 ⟨s1, d1, x1, rfl, hs1, hd1, hb1⟩; have hh1 := bk_below hh hb1; have k2 := k2 s1 d1 x1 w1 hs1 hd1)
        | (go_at_call 18; (with_reducible refine k2.mono ?_); clear k2; rintro e2 w2 ⟨rfl, hb2⟩; have hh2 := bk_below hh1 hb2; have k3 := k3 s1 d1 x1 w2 hs1 hd1)
        | (go_at_call 15; (with_reducible refine k3.mono ?_); clear k3; rintro e3 w3 ⟨rfl, hb3⟩; have hh3 := bk_alloc (bk_below hh2 hb3) (.cells #[.int .i64 8, .bool false, .int .u64 (N : Int), .string S, .slice none 0 0] 36); have q0 := (cell_of_row _ w.heap.size 0 _ _ (0, 0) hh3).trans rfl; have q1 := (cell_of_row _ w.heap.size 1 _ _ (0, 0) hh3).trans rfl; have q2 := (cell_of_row _ w.heap.size 2 _ _ (0, 0) hh3).trans rfl; have q3 := (cell_of_row _ w.heap.size 3 _ _ (0, 0) hh3).trans rfl; have q4 := (cell_of_row _ w.heap.size 4 _ _ (0, 0) hh3).trans rfl)
        | (go_at_call 17; (with_reducible refine (k5 _).mono ?_); clear k5; rintro e5 w5 ⟨rfl, hb5⟩)
        | (go_at_call 14; (with_reducible refine (ka _).mono ?_); clear ka; rintro e4 w4 ⟨rfl, hb4⟩))
      go_ret
      exact ⟨by simp, below_step hb0 (below_step hb1 (below_step hb2 (below_step hb3 (below_step (below_step (below_alloc _ _) hb5) hb4))))⟩
theorem nback_calls_i (K : Int) (neg : Bool) (a : Int) (S : ByteArray) (A : Option Addr) (l c : Nat) (w : World) (ha : (Lit.int .u64 a).wf = true) (T : Lib.TabIs Tryz.prog w "internal/strconv.uint64pow10" .u64 Lib.pow10Tab) :
    Calls Tryz.prog 6 #[.agg #[.int .i64 K, .bool neg, .int .u64 a, .string S, .slice A l c]] w fun e w' => e = .returned (.bool true) ∧ Below w.heap.size w w' := by
  have h1 : IntKind.u64.min = 0 := by decide
  have h2 : IntKind.u64.max = 18446744073709551615 := by decide
  simp [Lit.wf] at ha
  obtain ⟨n, rfl⟩ : ∃ n : Nat, a = n := ⟨a.toNat, by omega⟩
  exact nback_calls K neg n S A l c w (by omega) T
end Go.Proofs.YtffncomekbfihaaGreatDoor.Nat
