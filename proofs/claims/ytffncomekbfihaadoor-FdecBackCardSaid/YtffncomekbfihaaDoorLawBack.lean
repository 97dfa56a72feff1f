/- glossatorlaw06.FdecBack: the walk. -/
import Derived.Test.YtffncomekbfihaaDoorText
import Derived.Test.YtffncomekbfihaaDoorClass
import Derived.Test.YtffncomekbfihaaDoorAwake
namespace Go.Proofs.YtffncomekbfihaaDoor.Nat
open Go.RowKit Go.Shelf
set_option linter.unusedVariables false
theorem lay_len {d : List Nat} {e : Int} (h1 : 1 ≤ d.length) (h2 : d.length ≤ 17) (h3 : -1000 ≤ e) (h4 : e ≤ 1000) : (lay d e).length ≤ 100 := by
  unfold lay
  by_cases c1 : (d.length : Int) + e < -5 ∨ 21 < (d.length : Int) + e
  · rw [if_pos c1]
    have h5 := itoN_len (k := (d.length : Int) + e - 1) (by omega) (by omega)
    rw [List.length_append, List.length_append, List.length_append, List.length_take]
    split
    · rw [List.length_append, List.length_drop]; simp; omega
    · simp; omega
  rw [if_neg c1]
  by_cases c3 : (d.length : Int) + e ≤ 0
  · rw [if_pos c3, List.length_append, List.length_append, List.length_replicate]; simp; omega
  rw [if_neg c3]
  by_cases c4 : (d.length : Int) + e < d.length
  · rw [if_pos c4, List.length_append, List.length_append, List.length_take, List.length_drop]; simp; omega
  · rw [if_neg c4, List.length_append, List.length_append, List.length_replicate]; simp; omega
theorem cls_inf {x : Nat} (h : fe x = 2047) : 3 ≤ cls x ∧ cls x ≤ 4 := by
  unfold cls
  rw [if_pos h]
  split <;> omega
theorem cls_fin {x : Nat} (h : fe x ≠ 2047) : cls x < 3 := by
  unfold cls
  rw [if_neg h]
  split
  · split <;> omega
  · omega
set_option maxHeartbeats 8000000 in
set_option maxRecDepth 100000 in
theorem back_calls (x : Nat) (w : World) (hx : x < 18446744073709551616) (T : Lib.TabIs Tryd.prog w "internal/strconv.uint64pow10" .u64 Lib.pow10Tab) :
    Calls Tryd.prog 6 #[.int .u64 (x : Int)] w fun e w' => e = .returned (.bool true) ∧ Below w.heap.size w w' := by
  have ka := fun W => awake_calls W
  have kc := fun W => class64_calls x W hx
  by_cases h : fe x = 2047
  · have k1 := shortest_bad x w hx h
    obtain ⟨c1, c2⟩ := cls_inf h
    generalize cls x = cl at *
    have hcI : (3 : Int) ≤ (cl : Int) := by omega
    clear h T
    go_enter Tryd.func6, Tryd.ntmps6
    go_wp2_with (first | (go_at_call 14; (with_reducible refine k1.mono ?_); clear k1; rintro e1 w1 ⟨rfl, hb1⟩) | (go_at_call 15; (with_reducible refine (kc _).mono ?_); clear kc; rintro e2 w2 ⟨rfl, hb2⟩) | (go_at_call 8; (with_reducible refine (ka _).mono ?_); clear ka; rintro e3 w3 ⟨rfl, hb3⟩))
    go_ret
    exact ⟨rfl, below_step (below_step hb1 hb2) hb3⟩
  · have k1 := short_any x w hx h
    have c1 := cls_fin h
    generalize cls x = cl at *
    have hcI : ¬ (3 : Int) ≤ (cl : Int) := by omega
    have kt := fun W (hb : Below w.heap.size w W) => text_calls x W hx h (Lib.tabBelow_of_tabIs T W hb)
    obtain ⟨ng, hng⟩ : ∃ ng, decide (x / 9223372036854775808 = 1) = ng := ⟨_, rfl⟩
    have hngb : ((x : Int) / 9223372036854775808 == 1) = ng := by
      rw [← hng, Bool.eq_iff_iff, beq_iff_eq, decide_eq_true_iff]
      omega
    have kr : ∀ (s : ByteArray) e W, Digs x (bts s) e → Calls Tryd.prog 9 #[.bool ng, .string s, .int .i64 e] W fun en w' => en = .returned (.tuple #[.int .u64 (x : Int), .int .i64 0]) ∧ Below W.heap.size W w' := fun s e W hd => by
      have h1 := round_calls ng s e W
      rw [← hng, digs_round hx h hd] at h1
      rw [← hng]
      exact h1
    have ks : ∀ (S : ByteArray) d e W, bts S = sgl x ++ lay d e → Digs x d e → Calls Tryd.prog 10 #[.string S] W fun en w' => en = .returned (.tuple #[.int .u64 (x : Int), .int .i64 0]) ∧ Below W.heap.size W w' := fun S d e W hS hd => by
      obtain ⟨l1, l2, l3, l4⟩ := digs_len hd
      have hll := lay_len l1 l2 l3 l4
      have hsl : (sgl x).length ≤ 1 := by unfold sgl; split <;> simp
      have hbl := bts_length S
      have h1 := scan_calls S W (by rw [hS, List.length_append] at hbl; omega)
      rw [hS, digs_back hx h hd] at h1
      exact h1
    have H : Hid _ := Lib.hid (And.intro h hng)
    clear h T hng
    go_enter Tryd.func6, Tryd.ntmps6
    go_wp2_with (first
      | (go_at_call 14; (with_reducible refine k1.mono ?_); clear k1; rintro e1 w1 ⟨s, e, rfl, hd, hb1⟩; obtain ⟨l1, l2, l3, l4⟩ := digs_len hd; have hsl := bts_length s; have hd1 : (1 : Int) ≤ (s.size : Int) := (by omega); have hd2 : (s.size : Int) ≤ 17 := (by omega))
      | (go_at_call 15; (with_reducible refine (kc _).mono ?_); clear kc; rintro e2 w2 ⟨rfl, hb2⟩; have hbA := below_step hb1 hb2)
      | (go_at_call 9; (with_reducible refine (kr _ _ _ hd).mono ?_); clear kr; rintro e3 w3 ⟨rfl, hb3⟩; have hbB := below_step hbA hb3)
      | (go_at_call 16; (with_reducible refine (kt _ hbB).mono ?_); clear kt; rintro e4 w4 ⟨S, d, e', rfl, hS, hd', hb4⟩)
      | (go_at_call 10; (with_reducible refine (ks _ _ _ _ hS hd').mono ?_); clear ks; rintro e5 w5 ⟨rfl, hb5⟩)
      | (go_at_call 8; (with_reducible refine (ka _).mono ?_); clear ka; rintro e6 w6 ⟨rfl, hb6⟩))
    go_ret
    exact ⟨rfl, below_step (below_step (below_step hbB hb4) hb5) hb6⟩
theorem back_calls_i (a : Int) (w : World) (ha : (Lit.int .u64 a).wf = true) (T : Lib.TabIs Tryd.prog w "internal/strconv.uint64pow10" .u64 Lib.pow10Tab) :
    Calls Tryd.prog 6 #[.int .u64 a] w fun e w' => e = .returned (.bool true) ∧ Below w.heap.size w w' := by
  have h1 : IntKind.u64.min = 0 := by decide
  have h2 : IntKind.u64.max = 18446744073709551615 := by decide
  simp [Lit.wf] at ha
  obtain ⟨n, rfl⟩ : ∃ n : Nat, a = n := ⟨a.toNat, by omega⟩
  exact back_calls n w (by omega) T
end Go.Proofs.YtffncomekbfihaaDoor.Nat
