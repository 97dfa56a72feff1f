/- glossatorlaw06.FdecWhole: the walk. -/
import Derived.Test.YtffncomekbfihaaDoorAwake
import Derived.Test.YtffncomekbfihaaDoorFromInt
namespace Go.Proofs.YtffncomekbfihaaDoor.Nat
open Go.RowKit Go.Shelf
set_option linter.unusedVariables false
theorem whole_small {n : Nat} (h : n < 18446744073709551616) (h0 : n ≠ 0) : near n 1 < 9218868437227405312 := by
  have h1 : near n 1 ≤ near 18446744073709551616 1 := near_mono h0 (by decide) (by decide) (by decide) (by omega)
  have h2 : near 18446744073709551616 1 = 4895412794951729152 := by decide +kernel
  omega
theorem rnd_whole {L : List Nat} {n : Nat} (hd : Dgs L) (hl : L.length ≤ 20) (h0 : L.length ≠ 0) (hv : dval L = n) (hn : n < 18446744073709551616) : rnd false L 0 = (if n = 0 then 0 else near n 1, 0) := by
  unfold rnd
  rw [if_neg (by omega), if_neg h0, if_neg (by rw [(dgB_iff L).2 hd]; decide), if_neg (by omega), hv]
  by_cases hz : n = 0
  · rw [if_pos hz, if_pos hz]; rfl
  · rw [if_neg hz, if_neg hz, show n * tp 0 = n from by rw [show tp 0 = 1 from rfl, Nat.mul_one], show tp (-0) = 1 from rfl, if_pos (whole_small hn hz)]
    rfl
theorem one_ofB (x : Nat) (h : x < 256) : ∃ t : ByteArray, ofB [x] = t ∧ bts t = [x] := ⟨_, rfl, bts_ofB (fun c hc => by simp at hc; omega)⟩
theorem dgs_cons {x : Nat} {L : List Nat} (h : 48 ≤ x ∧ x ≤ 57) (hL : Dgs L) : Dgs ([x] ++ L) := fun c hc => by
  rcases List.mem_append.1 hc with hc | hc
  · simp at hc; omega
  · exact hL c hc
theorem bts_eq_nil {s : ByteArray} (h : bts s = []) : s = ⟨#[]⟩ := by
  have h1 := bts_length s
  rw [h] at h1
  have h2 : s.size = 0 := h1.symm
  have h3 : s.data.size = 0 := h2
  cases s with
  | mk d => cases d; simp_all
set_option maxHeartbeats 8000000 in
set_option maxRecDepth 100000 in
theorem whole_calls (n : Nat) (w : World) (hn : n < 18446744073709551616) (T : Lib.TabIs Tryd.prog w "math/bits.deBruijn64tab" .u8 tzTab) :
    Calls Tryd.prog 3 #[.int .u64 (n : Int)] w fun e w' => e = .returned (.bool true) ∧ Below w.heap.size w w' := by
  obtain ⟨v, ok, hv, k1⟩ := fromInt_calls n w hn T
  have k2 := fun W => awake_calls W
  clear T
  cases ok with
  | false =>
    clear hv
    go_enter Tryd.func3, Tryd.ntmps3
    go_wp2_with (first | (go_at_call 7; (with_reducible refine k1.mono ?_); clear k1; rintro e1 w1 ⟨rfl, hb1⟩) | (go_at_call 8; (with_reducible refine (k2 _).mono ?_); clear k2; rintro e2 w2 ⟨rfl, hb2⟩))
    go_ret
    exact ⟨rfl, below_step hb1 hb2⟩
  | true =>
    have HV : Hid _ := Lib.hid (hv rfl)
    clear hv
    go_enter Tryd.func3, Tryd.ntmps3
    go_wp2_with (first | (go_at_call 7; (with_reducible refine k1.mono ?_); clear k1; rintro e1 w1 ⟨rfl, hb1⟩))
    go_loopg [0, 5] 20 (fun kq v0 v5 wr => ∃ (r : Nat) (s : ByteArray) (L : List Nat), v0 = .int .u64 r ∧ v5 = .string s ∧ bts s = L ∧ Dgs L ∧ L.length + kq = 20 ∧ r < 10 ^ kq ∧ dval L + r * 10 ^ L.length = n ∧ Below w.heap.size w wr)
    case atStart => exact ⟨n, ⟨#[]⟩, [], rfl, rfl, rfl, (fun c hc => by cases hc), rfl, Nat.lt_of_lt_of_le hn (by decide), by rw [List.length_nil, Nat.pow_zero, Nat.mul_one]; exact Nat.zero_add n, hb1⟩
    case round =>
      obtain ⟨r, s, L, rfl, rfl, hbs, hd, hl, hr, hval, hb⟩ := hrel
      clear hb1
      by_cases h0 : r = 0
      · have h0I : ¬ (0 : Int) < (r : Int) := by omega
        have hLe : L.length = 0 → n = 0 := fun h => by
          have : L = [] := List.length_eq_zero_iff.1 h
          subst this
          subst h0
          rw [Nat.zero_mul] at hval
          exact hval.symm
        have hs := bts_length s
        have hvn : dval L = n := by rw [h0, Nat.zero_mul, Nat.add_zero] at hval; exact hval
        have H : Hid _ := Lib.hid (And.intro hd hvn)
        by_cases hl0 : L.length = 0
        · have hn0 := hLe hl0
          have hse : s = ⟨#[]⟩ := bts_eq_nil (by rw [hbs]; exact List.length_eq_zero_iff.1 hl0)
          subst hse
          have hv0 : v = 0 := by rw [HV.out, if_pos hn0]
          subst hv0
          have k4 : Calls Tryd.prog 9 #[.bool false, .string ⟨#[48]⟩, .int .i64 0] wr fun e w' => e = .returned (.tuple #[.int .u64 0, .int .i64 0]) ∧ Below wr.heap.size wr w' := by
            have h := round_calls false ⟨#[48]⟩ 0 wr
            have hz : rnd false (bts ⟨#[48]⟩) 0 = (0, 0) := by
              rw [rnd_whole (n := 0) (by intro c hc; have : c = 48 := by simpa [bts] using hc
                                         omega) (by decide) (by decide) (by decide) (by decide), if_pos rfl]
            rw [hz] at h
            exact h
          clear hLe hval hd hvn hbs hl hs hr H HV h0 hn0
          subst_vars
          go_wp2_with (first | (go_at_call 9; (with_reducible refine k4.mono ?_); clear k4; rintro e2 w2 ⟨rfl, hb2⟩; have hbC := below_step hb hb2) | (go_at_call 8; (with_reducible refine (k2 _).mono ?_); clear k2; rintro e3 w3 ⟨rfl, hb3⟩))
          go_ret
          exact ⟨rfl, below_step hbC hb3⟩
        · have hse : ¬ s.toList.isEmpty = true := by
            rw [full_of (by rw [← hs, hbs]; exact hl0)]; decide
          have k4 : Calls Tryd.prog 9 #[.bool false, .string s, .int .i64 0] wr fun e w' => e = .returned (.tuple #[.int .u64 v, .int .i64 0]) ∧ Below wr.heap.size wr w' := by
            have h := round_calls false s 0 wr
            rw [rnd_whole (n := n) (by rw [hbs]; exact hd) (by rw [hbs]; omega) (by rw [hbs]; exact hl0) (by rw [hbs]; exact hvn) hn] at h
            rw [← HV.out] at h
            exact h
          clear hLe hval hd hvn hbs hl hr H HV
          go_wp2_with (first | (go_at_call 9; (with_reducible refine k4.mono ?_); clear k4; rintro e2 w2 ⟨rfl, hb2⟩; have hbC := below_step hb hb2) | (go_at_call 8; (with_reducible refine (k2 _).mono ?_); clear k2; rintro e3 w3 ⟨rfl, hb3⟩))
          go_ret
          exact ⟨rfl, below_step hbC hb3⟩
      · cases gk with
        | zero => exfalso; rw [Nat.pow_zero] at hr; omega
        | succ d =>
          have h0I : (0 : Int) < (r : Int) := by omega
          have hrn : r ≤ n := by
            have := Nat.le_mul_of_pos_right r (Nat.pow_pos (n := L.length) (show 0 < 10 by decide))
            omega
          obtain ⟨C, hC⟩ : ∃ C, 48 + r % 10 = C := ⟨_, rfl⟩
          have hc1 : IntKind.u64.wrap (48 + (r : Int) % 10) = (C : Int) := by rw [IntKind.wrap_u64]; omega
          have hc2 : IntKind.u8.wrap (C : Int) = (C : Int) := by rw [IntKind.wrap_u8]; omega
          obtain ⟨t, ht, hbt⟩ := one_ofB C (by omega)
          have hRB : RB (wr.alloc (.cells #[.int .u8 (C : Int)] 5)) wr.heap.size [C] := fun j c hc => by
            have hj := (List.getElem?_eq_some_iff.1 hc).1
            obtain rfl : j = 0 := by simpa using hj
            have : C = c := by simpa using hc
            subst this
            exact ⟨(cell_of_row _ wr.heap.size 0 _ _ (0, 0) (heap_alloc_new wr _)).trans rfl, frozen_of_row _ wr.heap.size 0 _ _ (heap_alloc_new wr _)⟩
          have kc := rb_string (P := Tryd.prog) (cap := 1) (src := 26) (dst := 9) Tryd.underlying26 Tryd.underlying5 Tryd.underlying9 hRB (fun c hc => by simp at hc; omega)
          rw [ht] at kc
          have kc2 : (convert 26 9 (.slice (some ⟨wr.heap.size, 0, none⟩) 1 1)).run Tryd.prog (wr.alloc (.cells #[.int .u8 (C : Int)] 5)) = .ok (.string t) (wr.alloc (.cells #[.int .u8 (C : Int)] 5)) := kc
          have hbb := hb.alloc hb.size (.cells #[.int .u8 (C : Int)] 5)
          have hd2 : Dgs ([C] ++ L) := dgs_cons (by omega) hd
          have hval2 : dval ([C] ++ L) + r / 10 * 10 ^ ([C] ++ L).length = n := by
            rw [dval_append, dval_one, List.length_append, List.length_singleton, Nat.pow_add, Nat.pow_one, ← Nat.mul_assoc, ← hval]
            have e : C - 48 = r % 10 := by omega
            have e2 : r = r / 10 * 10 + r % 10 := by omega
            generalize 10 ^ L.length = p
            rw [e]
            calc r % 10 * p + dval L + r / 10 * 10 * p = dval L + (r / 10 * 10 + r % 10) * p := by rw [Nat.add_mul]; omega
              _ = dval L + r * p := by rw [← e2]
          have hr2 : r / 10 < 10 ^ d := by rw [Nat.pow_succ] at hr; omega
          have H : Hid _ := Lib.hid (And.intro hd2 (And.intro hval2 hr2))
          have hbs2 : bts (t ++ s) = [C] ++ L := by rw [bts_append, hbt, hbs]
          have HB : Hid _ := Lib.hid hbs2
          have hts : t.size = 1 := by rw [← bts_length, hbt]; rfl
          have hss : s.size ≤ 20 := by rw [← bts_length, hbs]; omega
          obtain ⟨D, hD⟩ : ∃ D, r / 10 = D := ⟨_, rfl⟩
          have hdt : Int.tdiv (r : Int) 10 = (D : Int) := by rw [Int.tdiv_eq_ediv_of_nonneg (by omega)]; omega
          have hwD : IntKind.u64.wrap (D : Int) = (D : Int) := by rw [IntKind.wrap_u64]; omega
          rw [hD] at H
          clear hd2 hval2 hr2 hbs2 hbs hd hval hr HV hC ht hbt hRB kc hD
          go_wp2
          go_roundg d
          case rel => exact ⟨D, t ++ s, [C] ++ L, by go_num, rfl, HB.out, H.out.1, by rw [List.length_append, List.length_singleton]; omega, H.out.2.2, H.out.2.1, hbb⟩
          case measure => omega
theorem whole_calls_i (a : Int) (w : World) (ha : (Lit.int .u64 a).wf = true) (T : Lib.TabIs Tryd.prog w "math/bits.deBruijn64tab" .u8 tzTab) :
    Calls Tryd.prog 3 #[.int .u64 a] w fun e w' => e = .returned (.bool true) ∧ Below w.heap.size w w' := by
  have h1 : IntKind.u64.min = 0 := by decide
  have h2 : IntKind.u64.max = 18446744073709551615 := by decide
  simp [Lit.wf] at ha
  obtain ⟨n, rfl⟩ : ∃ n : Nat, a = n := ⟨a.toNat, by omega⟩
  exact whole_calls n w (by omega) T
end Go.Proofs.YtffncomekbfihaaDoor.Nat
