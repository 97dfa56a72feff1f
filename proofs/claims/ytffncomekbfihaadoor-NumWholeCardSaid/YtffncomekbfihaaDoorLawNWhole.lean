/- glossatorlaw07.NumWhole: the walk. -/
import Derived.Test.YtffncomekbfihaaDoorNumValue
namespace Go.Proofs.YtffncomekbfihaaDoor.Nat
open Go.RowKit Go.Shelf
set_option linter.unusedVariables false
theorem awake7_calls (w : World) : Calls Tryd.prog 13 #[] w fun e w' => e = .returned (.bool true) ∧ Below w.heap.size w w' := by
  have k1 : Calls Tryd.prog 31 #[.string ⟨#[53]⟩] w fun e w' => e = .returned (.tuple #[.int .i64 1, .int .i64 0]) ∧ Below w.heap.size w w' := numScan_calls ⟨#[53]⟩ w (by decide)
  go_enter Tryd.func13, Tryd.ntmps13
  go_wp2_with (go_at_call 31; (with_reducible refine k1.mono ?_); clear k1; rintro e1 w1 ⟨rfl, hb1⟩)
  go_ret
  exact ⟨rfl, hb1⟩
theorem one_ofB' (x : Nat) (h : x < 256) : ∃ t : ByteArray, ofB [x] = t ∧ bts t = [x] := ⟨_, rfl, bts_ofB (fun c hc => by simp at hc; omega)⟩
theorem dec_of_lo {n : Nat} {L : List Nat} (h : lo n = L.reverse) (hn : n ≠ 0) : dec n = L := by
  unfold dec
  rw [if_neg hn, h, List.reverse_reverse]
theorem bts_nil {s : ByteArray} (h : bts s = []) : s = ⟨#[]⟩ := by
  have h1 := bts_length s
  rw [h] at h1
  have h2 : s.size = 0 := h1.symm
  have h3 : s.data.size = 0 := h2
  cases s with
  | mk d => cases d; simp_all
set_option maxHeartbeats 16000000 in
set_option maxRecDepth 100000 in
theorem nwhole_calls (n : Nat) (w : World) (hn : n < 18446744073709551616) :
    Calls Tryd.prog 5 #[.int .u64 (n : Int)] w fun e w' => e = .returned (.bool true) ∧ Below w.heap.size w w' := by
  have ka := fun W => awake7_calls W
  have hb0 := Below.refl w.heap.size w
  go_enter Tryd.func5, Tryd.ntmps5
  go_wp2
  go_loopg [4, 3] 20 (fun kq v4 v3 wr => ∃ (r : Nat) (s : ByteArray) (L : List Nat), v4 = .int .u64 r ∧ v3 = .string s ∧ bts s = L ∧ L.length + kq = 20 ∧ r < 10 ^ kq ∧ r ≤ n ∧ Hid (lo n = L.reverse ++ lo r) ∧ Below w.heap.size w wr)
  case atStart => exact ⟨n, ⟨#[]⟩, [], rfl, rfl, rfl, rfl, Nat.lt_of_lt_of_le hn (by decide), Nat.le_refl _, Lib.hid rfl, hb0⟩
  case round =>
    clear hb0
    obtain ⟨r, s, L, rfl, rfl, hbs, hl, hr, hrn, HL, hb⟩ := hrel
    by_cases h0 : r = 0
    · have h0I : ¬ (0 : Int) < (r : Int) := by omega
      have hlo := HL.out
      rw [h0, lo_zero, List.append_nil] at hlo
      have hss := bts_length s
      by_cases hn0 : n = 0
      · have hse : s = ⟨#[]⟩ := bts_nil (by rw [hbs]; rw [hn0, lo_zero] at hlo; simpa using hlo.symm)
        subst hse
        have k1 := fun W => value_pos 0 ⟨#[48]⟩ W rfl (by decide)
        have k2 := fun W => value_nought ((⟨#[45]⟩ : ByteArray) ++ ⟨#[48]⟩) W rfl
        clear hlo hss hbs hl hr HL hrn
        subst h0
        subst hn0
        go_wp2_with (first
          | (go_at_call 12; (with_reducible refine (k1 _).mono ?_); clear k1; rintro e1 w1 ⟨rfl, hb1⟩)
          | (go_at_call 12; (with_reducible refine (k2 _).mono ?_); clear k2; rintro e2 w2 ⟨rfl, hb2⟩))
        go_ret
        exact ⟨rfl, below_step (below_step (below_step hb hb1) (below_alloc _ _)) (below_step hb2 (below_alloc _ _))⟩
      · have hsd : bts s = dec n := by rw [hbs, dec_of_lo hlo hn0]
        have k1 := fun W => value_pos n s W hsd hn
        have k2 := fun W => value_neg n ((⟨#[45]⟩ : ByteArray) ++ s) W (by rw [bts_append, hsd]; rfl) hn hn0
        have hful := full_of (t := s) (by rw [hsd] at hss; have := dec_ne n; omega)
        have hs20 : s.size ≤ 20 := by rw [hbs] at hss; omega
        have hne : ¬ (n : Int) = 0 := by omega
        have hwn : IntKind.u64.wrap ((n : Int) - 1) = ((n - 1 : Nat) : Int) := by rw [IntKind.wrap_u64]; omega
        clear hlo hss hbs hl hr HL hrn hsd hn0
        subst h0
        generalize n - 1 = m at *
        go_wp2_with (first
          | (go_at_call 12; (with_reducible refine (k1 _).mono ?_); clear k1; rintro e1 w1 ⟨rfl, hb1⟩)
          | (go_at_call 12; (with_reducible refine (k2 _).mono ?_); clear k2; rintro e2 w2 ⟨rfl, hb2⟩)
          | (go_at_call 13; (with_reducible refine (ka _).mono ?_); clear ka; rintro e3 w3 ⟨rfl, hb3⟩))
        go_ret
        exact ⟨rfl, below_step (below_step (below_step (below_step hb hb1) (below_alloc _ _)) (below_step hb2 (below_alloc _ _))) hb3⟩
    · cases gk with
      | zero => exfalso; rw [Nat.pow_zero] at hr; omega
      | succ d =>
        have h0I : (0 : Int) < (r : Int) := by omega
        obtain ⟨C, hC⟩ : ∃ C, 48 + r % 10 = C := ⟨_, rfl⟩
        have hc1 : IntKind.u64.wrap (48 + (r : Int) % 10) = (C : Int) := by rw [IntKind.wrap_u64]; omega
        have hc2 : IntKind.u8.wrap (C : Int) = (C : Int) := by rw [IntKind.wrap_u8]; omega
        obtain ⟨t, ht, hbt⟩ := one_ofB' C (by omega)
        have hRB : RB (wr.alloc (.cells #[.int .u8 (C : Int)] 5)) wr.heap.size [C] := fun j c hc => by
          have hj := (List.getElem?_eq_some_iff.1 hc).1
          obtain rfl : j = 0 := by simpa using hj
          have : C = c := by simpa using hc
          subst this
          exact ⟨(cell_of_row _ wr.heap.size 0 _ _ (0, 0) (heap_alloc_new wr _)).trans rfl, frozen_of_row _ wr.heap.size 0 _ _ (heap_alloc_new wr _)⟩
        have kc := rb_string (P := Tryd.prog) (cap := 1) (src := 26) (dst := 9) Tryd.underlying26 Tryd.underlying5 Tryd.underlying9 hRB (fun c hc => by simp at hc; omega)
        rw [ht] at kc
        have kc2 : (convert 26 9 (.slice (some ⟨wr.heap.size, 0, none⟩) 1 1)).run Tryd.prog (wr.alloc (.cells #[.int .u8 (C : Int)] 5)) = .ok (.string t) (wr.alloc (.cells #[.int .u8 (C : Int)] 5)) := kc
        have hbb := hb.alloc hb.size (.cells #[.int .u8 (C : Int)] 5)
        have hr2 : r / 10 < 10 ^ d := by rw [Nat.pow_succ] at hr; omega
        have hlo2 : lo n = ([C] ++ L).reverse ++ lo (r / 10) := by
          rw [HL.out, lo_pos h0, hC]
          simp
        have hbs2 : bts (t ++ s) = [C] ++ L := by rw [bts_append, hbt, hbs]
        have hts : t.size = 1 := by rw [← bts_length, hbt]; rfl
        have hss : s.size ≤ 20 := by rw [← bts_length, hbs]; omega
        obtain ⟨D, hD⟩ : ∃ D, r / 10 = D := ⟨_, rfl⟩
        have hdt : Int.tdiv (r : Int) 10 = (D : Int) := by rw [Int.tdiv_eq_ediv_of_nonneg (by omega)]; omega
        have hwD : IntKind.u64.wrap (D : Int) = (D : Int) := by rw [IntKind.wrap_u64]; omega
        have hDn : D ≤ n := by omega
        rw [hD] at hr2 hlo2
        have H : Hid _ := Lib.hid (And.intro hr2 (And.intro hlo2 (And.intro hbs2 hDn)))
        clear hr2 hlo2 hbs2 hbs hr HL hC ht hbt hRB kc hD hDn
        go_wp2
        go_roundg d
        case rel => exact ⟨D, t ++ s, [C] ++ L, by go_num, rfl, H.out.2.2.1, by rw [List.length_append, List.length_singleton]; omega, H.out.1, H.out.2.2.2, Lib.hid H.out.2.1, hbb⟩
        case measure => omega
theorem nwhole_calls_i (a : Int) (w : World) (ha : (Lit.int .u64 a).wf = true) :
    Calls Tryd.prog 5 #[.int .u64 a] w fun e w' => e = .returned (.bool true) ∧ Below w.heap.size w w' := by
  have h1 : IntKind.u64.min = 0 := by decide
  have h2 : IntKind.u64.max = 18446744073709551615 := by decide
  simp [Lit.wf] at ha
  obtain ⟨n, rfl⟩ : ∃ n : Nat, a = n := ⟨a.toNat, by omega⟩
  exact nwhole_calls n w (by omega)
end Go.Proofs.YtffncomekbfihaaDoor.Nat
