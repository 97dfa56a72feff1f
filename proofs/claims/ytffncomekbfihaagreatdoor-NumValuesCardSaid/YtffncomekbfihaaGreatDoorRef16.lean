/- glossatorref01: DivSmall, Digits. glossatorref05: widths, Parts, Exact. glossatorref06: ratio, scale, high. glossatorref06: limbs, digits, is, try. glossatorref06: try, Shortest. glossatorref06: zeros, number, Text. -/
import Derived.Test.YtffncomekbfihaaGreatDoorRef5
import Derived.Test.YtffncomekbfihaaGreatDoorDigW
import Derived.Test.YtffncomekbfihaaGreatDoorFewPure
import Derived.Test.YtffncomekbfihaaGreatDoorMore
import Derived.Test.YtffncomekbfihaaGreatDoorExact
import Derived.Test.YtffncomekbfihaaGreatDoorShortest
import Derived.Test.YtffncomekbfihaaGreatDoorBest
import Derived.Test.YtffncomekbfihaaGreatDoorRef8
import Derived.Test.YtffncomekbfihaaGreatDoorRef7
namespace Go.Proofs.YtffncomekbfihaaGreatDoor.Nat
open Go.RowKit Go.Shelf
set_option linter.unusedVariables false
set_option linter.unusedSimpArgs false
theorem or_limb {c x : Nat} (hc : c < 4294967296) (hx : x < 4294967296) : Go.bits BinOp.or IntKind.u64 ((c * 4294967296 : Nat) : Int) (x : Int) = ((c * 4294967296 + x : Nat) : Int) := by
  have h1 := (bits_nat .u64 64 (by decide) (fun n h0 h1 => by rw [IntKind.wrap_u64]; omega) (c * 4294967296) x (by omega) (by omega)).2
  have h3 := Nat.two_pow_add_eq_or_of_lt (i := 32) (b := x) hx c
  have h2 : c * 4294967296 ||| x = c * 4294967296 + x := by rw [Nat.mul_comm]; exact h3.symm
  rw [h2] at h1
  exact h1
set_option maxHeartbeats 8000000 in
set_option maxRecDepth 100000 in
theorem rdivs_calls (A : Option Addr) (l : List Nat) (c d : Nat) (w : World) (hG : Good w (A, l, c)) (hO : Ok l) (h4 : tn l ≤ 4096) (hd0 : 0 < d) (hd : d < 4294967296) :
    Calls Tryz.prog 120 #[.slice A l.length c, .int .u32 (d : Int)] w fun e w' => ∃ v', e = .returned (.tuple #[v', .int .u32 ((nv l % d : Nat) : Int), .int .i64 0]) ∧ OwnN w' v' (nv l / d) ∧ Below w.heap.size w w' := by
  have hle := tn_le l
  have hl := hG.2.2
  dsimp only at hl
  have hb0 := below_alloc w (.cells #[.slice A l.length c] 50)
  have k0 := long_calls (some ⟨w.heap.size, 0, none⟩) [(A, l, c)] 1 _ (one_slat w A l c 50) (fun q hq => by simp at hq; subst hq; exact ⟨hG.below hb0, h4⟩) (by simp)
  simp only [List.length_cons, List.length_nil, Nat.zero_add] at k0
  have k1 := fun W (hb : Below w.heap.size w W) => rtrim_calls A l c W (hG.1.below hb) hG.2.1 hG.2.2
  have hdn : ¬ (d : Int) = 0 := by omega
  go_enter Tryz.func120, Tryz.ntmps120
  go_wp2_with (first | (go_at_call 119; (with_reducible refine k0.mono ?_); clear k0; rintro e1 w1 ⟨rfl, hb1⟩; have hb4 := below_step hb0 hb1) | (go_at_call 109; (with_reducible refine (k1 _ hb4).mono ?_); clear k1; rintro e2 w4 ⟨v0, rfl, hown, hb5⟩; have hb8 := below_step hb4 hb5; have hown1 := own_le hown hb4.size; clear hown; obtain ⟨Ao, co, rfl, -⟩ := own_rn hown1))
  have hT := tl_length l
  have htop : nv ((tl l).drop (tn l)) = 0 := by rw [List.drop_of_length_le (by omega)]; rfl
  generalize tn l = n at *
  clear hb0 hb1 hb4 hb5
  go_loopg [8, 9] n (fun kq v8 v9 wr => ∃ (r : Nat) (o : List Nat), v8 = .int .u64 r ∧ v9 = .int .i64 ((kq : Int) - 1) ∧ kq ≤ n ∧ o.length = n ∧ wr.ownsRow w.heap.size 53 1 (.slice Ao n co) n (cv o) ∧ Ok o ∧ o.take kq = (tl l).take kq ∧ r < d ∧ nv ((tl l).drop kq) = d * nv (o.drop kq) + r ∧ Below w.heap.size w wr)
  case atStart => exact ⟨0, tl l, rfl, rfl, Nat.le_refl _, hT, hown1, ok_tl hO, rfl, hd0, by rw [htop]; simp, hb8⟩
  case round =>
    clear hown1 hb8 htop
    obtain ⟨r, o, rfl, rfl, hk, hol, hown, hoO, hot, hr, hov, hb⟩ := hrel
    cases gk with
    | zero =>
      rw [List.drop_zero, List.drop_zero, nv_tl hO] at hov
      have hq : nv o = nv l / d := by rw [hov, Nat.mul_add_div hd0, Nat.div_eq_of_lt hr, Nat.add_zero]
      have hm : r = nv l % d := by rw [hov, Nat.mul_add_mod, Nat.mod_eq_of_lt hr]
      have hgd := own_good (l := o) hown (by omega)
      rw [hol] at hgd
      have k9 := rtrim_calls Ao o co wr hgd.1.1 hgd.1.2.1 hgd.1.2.2
      rw [hol] at k9
      have hqo := fun (W : World) (V : Value) (h : W.ownsRow wr.heap.size 53 1 V (tn o) (cv (tl o))) => own_ownn hoO h
      rw [hq] at hqo
      rw [show ((0 : Nat) : Int) - 1 = -1 from rfl]
      have hr32 : IntKind.u32.wrap (r : Int) = (r : Int) := by rw [IntKind.wrap_u32]; omega
      clear hov hq
      subst hm
      go_wp2_with (go_at_call 109; (with_reducible refine k9.mono ?_); clear k9; rintro e5 w5 ⟨v', rfl, hv, hb8⟩)
      go_ret3
      exact ⟨v', rfl, hqo _ _ hv, below_step hb hb8⟩
    | succ i =>
      rw [show ((i + 1 : Nat) : Int) - 1 = (i : Int) by omega]
      obtain ⟨g, co2, e2⟩ := own_form hown (by omega)
      cases e2
      obtain ⟨x, hx⟩ : ∃ x, o[i]? = some x := ⟨_, List.getElem?_eq_getElem (by omega)⟩
      have hx2 : (tl l)[i]? = some x := by
        have h1 : (o.take (i + 1))[i]? = ((tl l).take (i + 1))[i]? := by rw [hot]
        rw [List.getElem?_take, List.getElem?_take, if_pos (by omega), if_pos (by omega), hx] at h1
        exact h1.symm
      have hx32 := hoO.get hx
      have hcO := hown.cellAt i (by omega)
      rw [cv_get hx] at hcO
      have hfO := hown.frozenAt i
      have him : (i : Int) < (n : Int) := by omega
      have e1 := Nat.div_add_mod (r * 4294967296 + x) d
      have hr2 := Nat.mod_lt (r * 4294967296 + x) hd0
      have hq32 : (r * 4294967296 + x) / d < 4294967296 := by rw [Nat.div_lt_iff_lt_mul hd0]; have := Nat.mul_le_mul_right 4294967296 (show r + 1 ≤ d from hr); omega
      have hor := or_limb (show r < 4294967296 by omega) hx32
      obtain ⟨R, hR⟩ : ∃ R, r * 4294967296 = R := ⟨_, rfl⟩
      rw [hR] at hor
      have hwR : IntKind.u64.wrap ((r : Int) * 4294967296) = (R : Int) := by rw [IntKind.wrap_u64]; omega
      have hRm : (r : Int) * 4294967296 % 18446744073709551616 = (R : Int) := by omega
      rw [hR] at e1 hr2 hq32
      obtain ⟨X, hX⟩ : ∃ X, R + x = X := ⟨_, rfl⟩
      rw [hX] at e1 hr2 hq32 hor
      have hdvI : (X : Int) / (d : Int) = ((X / d : Nat) : Int) := rfl
      have hmdI : (X : Int) % (d : Int) = ((X % d : Nat) : Int) := rfl
      have htd : Int.tdiv (X : Int) (d : Int) = ((X / d : Nat) : Int) := by rw [Int.tdiv_eq_ediv_of_nonneg (by omega)]; rfl
      have htm : Int.tmod (X : Int) (d : Int) = ((X % d : Nat) : Int) := by rw [Int.tmod_eq_emod_of_nonneg (by omega)]; rfl
      generalize X / d = q at *
      generalize X % d = r2 at *
      have hwq : IntKind.u32.wrap (q : Int) = (q : Int) := by rw [IntKind.wrap_u32]; omega
      have hwq2 : IntKind.u64.wrap (q : Int) = (q : Int) := by rw [IntKind.wrap_u64]; omega
      have HX : Hid _ := Lib.hid (And.intro hR hX)
      clear hR hX
      go_wp2
      have hst := (hown.stored i (.int .u32 (q : Int))).1
      go_roundg i
      case rel => exact ⟨r2, o.set i q, rfl, by go_num, by omega, by rw [List.length_set]; exact hol, by rw [cv_set]; exact hst, hoO.set _ _ hq32, by
          rw [List.take_set_of_le (Nat.le_refl _)]
          have h1 : (o.take (i + 1)).take i = ((tl l).take (i + 1)).take i := by rw [hot]
          rwa [List.take_take, List.take_take, Nat.min_eq_left (by omega)] at h1, hr2, by
          rw [nv_drop hx2, hov]
          have h1 : nv ((o.set i q).drop i) = q + 4294967296 * nv (o.drop (i + 1)) := by
            rw [nv_drop (List.getElem?_set_self (by omega)), List.drop_set_of_lt (by omega)]
          have h2 := HX.out.1
          have h3 := HX.out.2
          rw [h1, Nat.mul_add, Nat.mul_add, ← Nat.mul_assoc d, Nat.mul_comm d 4294967296, Nat.mul_assoc]
          omega, hb.setCell (p := ⟨g, i, none⟩) (own_lo hown g rfl) _⟩
      case measure => omega
theorem rdivs_a {w : World} {V : Value} {a d : Nat} (h1 : NatA w V a) (ha : (limbs a).length ≤ 4096) (hd0 : 0 < d) (hd : d < 4294967296) :
    Calls Tryz.prog 120 #[V, .int .u32 (d : Int)] w fun e w' => ∃ v', e = .returned (.tuple #[v', .int .u32 ((a % d : Nat) : Int), .int .i64 0]) ∧ OwnN w' v' (a / d) ∧ Below w.heap.size w w' := by
  obtain ⟨A, l, c, rfl, hG, hO, rfl⟩ := h1
  exact rdivs_calls A l c d w hG hO (by rw [tn_eq hO]; exact ha) hd0 hd
/-- one byte as a text -/
theorem one_text (W : World) (C : Nat) (hC : C < 256) : ∃ t : ByteArray, bts t = [C] ∧ (convert 73 9 (.slice (some ⟨W.heap.size, 0, none⟩) 1 1)).run Tryz.prog (W.alloc (.cells #[.int .u8 (C : Int)] 5)) = .ok (.string t) (W.alloc (.cells #[.int .u8 (C : Int)] 5)) := by
  have hRB : RB (W.alloc (.cells #[.int .u8 (C : Int)] 5)) W.heap.size [C] := fun j c hc => by
    have hj := (List.getElem?_eq_some_iff.1 hc).1
    obtain rfl : j = 0 := by simpa using hj
    have : C = c := by simpa using hc
    subst this
    exact ⟨(cell_of_row _ W.heap.size 0 _ _ (0, 0) (heap_alloc_new W _)).trans rfl, frozen_of_row _ W.heap.size 0 _ _ (heap_alloc_new W _)⟩
  have kc := rb_string (P := Tryz.prog) (cap := 1) (src := 73) (dst := 9) Tryz.underlying73 Tryz.underlying5 Tryz.underlying9 hRB (fun c hc => by simp at hc; omega)
  exact ⟨ofB [C], bts_ofB (fun c hc => by simp at hc; omega), kc⟩
set_option maxHeartbeats 8000000 in
set_option maxRecDepth 100000 in
theorem rdigits_calls (V : Value) (v : Nat) (w : World) (hA : NatA w V v) (hl : (limbs v).length ≤ 4096) :
    Calls Tryz.prog 81 #[V] w fun e w' => ∃ s, e = .returned (.tuple #[.string s, .int .i64 0]) ∧ bts s = dec v ∧ Below w.heap.size w w' := by
  obtain ⟨A, l, c, rfl, hG, hO, hv⟩ := hA
  have h4 : tn l ≤ 4096 := by rw [tn_eq hO, hv]; exact hl
  have hll := hG.2.2
  dsimp only at hll
  have hb0 := below_alloc w (.cells #[.slice A l.length c] 50)
  have k0 := long_calls (some ⟨w.heap.size, 0, none⟩) [(A, l, c)] 1 _ (one_slat w A l c 50) (fun q hq => by simp at hq; subst hq; exact ⟨hG.below hb0, h4⟩) (by simp)
  simp only [List.length_cons, List.length_nil, Nat.zero_add] at k0
  have k1 := fun W (hb : Below w.heap.size w W) => rtrim_calls A l c W (hG.1.below hb) hG.2.1 hG.2.2
  have hlo := lo_len hl
  have HO : Hid _ := Lib.hid (And.intro hO hv)
  have Hlo : Hid _ := Lib.hid hlo
  clear hll hv hlo h4 hG hO
  go_enter Tryz.func81, Tryz.ntmps81
  go_upto_if 18 with (first | (go_at_call 119; (with_reducible refine k0.mono ?_); clear k0; rintro e1 w1 ⟨rfl, hb1⟩; have hb4 := below_step hb0 hb1) | (go_at_call 109; (with_reducible refine (k1 _ hb4).mono ?_); clear k1; rintro e3 w4 ⟨v0, rfl, hown, hb7⟩; have hb8 := below_step hb4 hb7; have hnv := own_ownn HO.out.1 hown; rw [HO.out.2] at hnv; clear hown hb7 hb4 hb1 hb0 HO; obtain ⟨A1, c1, rfl, -, -⟩ := hnv.natv))
  by_cases hv0 : v = 0
  · have hz : (limbs v).length = 0 := limbs_len_zero.2 hv0
    subst hv0
    rw [hz]
    clear hnv
    go_wp2
    go_ret2
    exact ⟨_, rfl, by decide, hb8⟩
  have hzI : (((limbs v).length : Int) == 0) = false := beq_eq_false_iff_ne.2 (by have : (limbs v).length ≠ 0 := fun z => hv0 (limbs_len_zero.1 z); omega)
  rw [hzI]
  have hdv : dec v = (lo v).reverse := by unfold dec; rw [if_neg hv0]
  have HDV : Hid _ := Lib.hid hdv
  obtain ⟨K, hK⟩ : ∃ K, K = 131072 := ⟨_, rfl⟩
  have hvK : v < 2 ^ K := Nat.lt_of_lt_of_le (bits_lt v) (Nat.pow_le_pow_right (by decide) (by omega))
  clear hK hdv hv0
  have hnv' : OwnN w4 (.slice A1 (limbs v).length c1) v := hnv
  clear hnv
  go_wp2
  go_loopg [4, 5] K (fun kq v4 v5 wr => ∃ (vc : Nat) (s : ByteArray), OwnN wr v4 vc ∧ v5 = .string s ∧ Hid (lo v = (bts s).reverse ++ lo vc) ∧ (limbs vc).length ≤ 4096 ∧ vc < 2 ^ kq ∧ Below w.heap.size w wr)
  case atStart => exact ⟨v, ⟨#[]⟩, hnv', rfl, Lib.hid rfl, hl, hvK, hb8⟩
  case round =>
    clear hnv' hb8 hl hvK hzI
    obtain ⟨vc, s, hV, rfl, hlov, hl, hvk, hb⟩ := hrel
    obtain ⟨A2, c2, rfl, hc2, hR2⟩ := hV.natv
    by_cases h0 : vc = 0
    · have hz : (limbs vc).length = 0 := limbs_len_zero.2 h0
      clear hV
      rw [hz]
      subst h0
      have hd : bts s = dec v := by
        have h1 := hlov.out
        rw [lo_zero, List.append_nil] at h1
        rw [HDV.out, h1, List.reverse_reverse]
      have HD : Hid _ := Lib.hid hd
      clear Hlo hl hvk hR2 hc2 hz hlov HDV hd
      go_wp2
      go_ret2
      exact ⟨_, rfl, HD.out, hb⟩
    · cases gk with
      | zero => exfalso; rw [Nat.pow_zero] at hvk; omega
      | succ d =>
        have hz : (limbs vc).length ≠ 0 := fun q => h0 (limbs_len_zero.1 q)
        have hzI : (0 : Int) < ((limbs vc).length : Int) := by omega
        have k5 := rdivs_a (w := wr) (V := .slice A2 (limbs vc).length c2) (d := 1000000000) (NatV.a (⟨A2, c2, rfl, hc2, hR2⟩ : NatV wr (.slice A2 (limbs vc).length c2) vc) hl) hl (by decide) (by decide)
        rw [show ((1000000000 : Nat) : Int) = 1000000000 from rfl] at k5
        have hq4 : (limbs (vc / 1000000000)).length ≤ 4096 := Nat.le_trans (limbs_len_mono (Nat.div_le_self _ _)) hl
        have hqd : vc / 1000000000 < 2 ^ d := by rw [Nat.pow_succ] at hvk; omega
        have hvq : lo v = (bts s).reverse ++ lo (vc / 1000000000 * 10 ^ 9 + vc % 1000000000) := by rw [hlov.out]; congr 2; omega
        have hr9 : vc % 1000000000 < 10 ^ 9 := by omega
        generalize vc / 1000000000 = q at *
        generalize vc % 1000000000 = r at *
        have HQ : Hid _ := Lib.hid (And.intro hq4 (And.intro hqd (And.intro hvq hr9)))
        clear hlov hvk hq4 hqd hvq hr9 hl hz hc2 hR2 hV
        go_wp2_with (go_at_call 120; (with_reducible refine k5.mono ?_); clear k5; rintro e5 w5 ⟨v5, rfl, hv5, hb5⟩; have hbB := below_step hb hb5; clear hb hb5)
        obtain ⟨A6, c6, rfl⟩ := own_sl hv5
        have hR6 : OwnN w5 (.slice A6 (limbs q).length c6) q := hv5
        clear hv5
        obtain ⟨nq, hnq⟩ : ∃ nq, (limbs q).length = nq := ⟨_, rfl⟩
        rw [hnq] at hR6 ⊢
        have HNQ : Hid _ := Lib.hid hnq
        clear hnq
        go_loopg [7, 9, 10] 9 (fun kq v6 vt v7 wr2 => ∃ (i rc : Nat) (t : ByteArray), v7 = .int .i64 i ∧ v6 = .int .u32 rc ∧ vt = .string t ∧ i + kq = 9 ∧ t.size ≤ i ∧ rc < 10 ^ kq ∧ OwnN wr2 (.slice A6 nq c6) q ∧ Hid (lo v = (bts s).reverse ++ (bts t).reverse ++ lo (q * 10 ^ (9 - i) + rc)) ∧ Below w.heap.size w wr2)
        case atStart => exact ⟨0, r, ⟨#[]⟩, rfl, rfl, rfl, rfl, Nat.le_refl _, HQ.out.2.2.2, hR6, Lib.hid (by have h := HQ.out.2.2.1; rw [h, show bts ⟨#[]⟩ = [] from rfl]; simp), hbB⟩
        case round =>
          clear hR6 hbB
          obtain ⟨i, rc, t, rfl, rfl, rfl, hik, hti, hrc, hR7, hlo2, hb⟩ := hrel
          have HQ4 : Hid _ := Lib.hid HQ.out.1
          have HQd : Hid _ := Lib.hid HQ.out.2.1
          clear HQ
          have hsl : t.size + s.size ≤ 131072 := by
            have h1 := Hlo.out
            rw [hlo2.out, List.length_append, List.length_append, List.length_reverse, List.length_reverse, bts_length, bts_length] at h1
            omega
          have hjoin : bts (t ++ s) = bts t ++ bts s := bts_append t s
          cases gk with
          | zero =>
            obtain rfl : i = 9 := by omega
            have hr0 : rc = 0 := by rw [Nat.pow_zero] at hrc; omega
            subst hr0
            have hL := hlo2.out
            rw [Nat.sub_self, Nat.pow_zero, Nat.mul_one, Nat.add_zero] at hL
            have HL : Hid (lo v = (bts (t ++ s)).reverse ++ lo q) := Lib.hid (by rw [hjoin, List.reverse_append]; exact hL)
            clear hL hlo2 hjoin
            go_wp2
            go_roundg d
            case rel => exact ⟨q, t ++ s, hR7, rfl, HL, HQ4.out, HQd.out, hb⟩
            case measure => omega
          | succ k2 =>
            have hi9 : (i : Int) < 9 := by omega
            by_cases hdone : rc = 0 ∧ q = 0
            · obtain ⟨rfl, rfl⟩ := hdone
              obtain rfl : nq = 0 := by rw [← HNQ.out]; exact limbs_len_zero.2 rfl
              have hL := hlo2.out
              rw [Nat.zero_mul] at hL
              have HL : Hid (lo v = (bts (t ++ s)).reverse ++ lo 0) := Lib.hid (by rw [hjoin, List.reverse_append]; exact hL)
              clear hL hlo2 hjoin
              go_wp2
              go_roundg d
              case rel => exact ⟨0, t ++ s, hR7, rfl, HL, HQ4.out, HQd.out, hb⟩
              case measure => omega
            · have hgo : 0 < rc ∨ q ≠ 0 := by omega
              have hL := hlo2.out
              rw [lo_step (by omega) hgo] at hL
              obtain ⟨C, hC⟩ : ∃ C, 48 + rc % 10 = C := ⟨_, rfl⟩
              obtain ⟨D, hD⟩ : ∃ D, rc / 10 = D := ⟨_, rfl⟩
              have hrc32 : rc < 4294967296 := Nat.lt_of_lt_of_le hrc (Nat.le_trans (Nat.pow_le_pow_right (n := 10) (j := 9) (by decide) (by omega)) (by decide))
              have hc1 : IntKind.u32.wrap (48 + (rc : Int) % 10) = (C : Int) := by rw [IntKind.wrap_u32]; omega
              have hc2 : IntKind.u8.wrap (C : Int) = (C : Int) := by rw [IntKind.wrap_u8]; omega
              have hdt : Int.tdiv (rc : Int) 10 = (D : Int) := by rw [Int.tdiv_eq_ediv_of_nonneg (by omega)]; omega
              have hwD : IntKind.u32.wrap (D : Int) = (D : Int) := by rw [IntKind.wrap_u32]; omega
              have hDk : D < 10 ^ k2 := by rw [Nat.pow_succ] at hrc; omega
              rw [hC, hD] at hL
              obtain ⟨T, hT, kc⟩ := one_text wr C (by omega)
              have hTs : T.size = 1 := by rw [← bts_length, hT]; rfl
              have HL : Hid (lo v = (bts s).reverse ++ (bts (T ++ t)).reverse ++ lo (q * 10 ^ (9 - (i + 1)) + D)) := Lib.hid (by
                rw [bts_append, hT, List.reverse_append, hL]
                simp)
              have H2 : Hid _ := Lib.hid hDk
              have hsz := hb.size
              have hx9 : OwnN (wr.alloc (.cells #[.int .u8 (C : Int)] 5)) (.slice A6 nq c6) q := World.ownsRow.alloc hR7 (.cells #[.int .u8 (C : Int)] 5)
              have hb9 := hb.alloc hsz (.cells #[.int .u8 (C : Int)] 5)
              clear hlo2 hL hDk hrc Hlo hT hjoin
              by_cases hr0 : rc = 0
              · have hq0 : q ≠ 0 := by omega
                subst hr0
                have hC48 : C = 48 := by omega
                have hD0 : D = 0 := by omega
                subst hC48 hD0
                clear hc1 hdt hC hD
                rw [show ((48 : Nat) : Int) = 48 from rfl] at kc hx9 hb9
                have hql : (0 : Int) < (nq : Int) := by have : (limbs q).length ≠ 0 := fun z => hq0 (limbs_len_zero.1 z); have := HNQ.out; omega
                go_wp2
                go_roundg k2
                case rel => exact ⟨i + 1, 0, T ++ t, by go_num, rfl, rfl, by omega, by rw [ByteArray.size_append]; omega, H2.out, hx9, HL, hb9⟩
                case measure => omega
              · have hr0I : (0 : Int) < (rc : Int) := by omega
                clear hC hD
                rcases Nat.eq_zero_or_pos nq with hz | hz
                · subst hz
                  go_wp2
                  go_roundg k2
                  case rel => exact ⟨i + 1, D, T ++ t, by go_num, rfl, rfl, by omega, by rw [ByteArray.size_append]; omega, H2.out, hx9, HL, hb9⟩
                  case measure => omega
                · have hql : (0 : Int) < (nq : Int) := by omega
                  clear hz
                  go_wp2
                  go_roundg k2
                  case rel => exact ⟨i + 1, D, T ++ t, by go_num, rfl, rfl, by omega, by rw [ByteArray.size_append]; omega, H2.out, hx9, HL, hb9⟩
                  case measure => omega
end Go.Proofs.YtffncomekbfihaaGreatDoor.Nat
namespace Go.Proofs.YtffncomekbfihaaGreatDoor.Nat
open Go.RowKit Go.Shelf
set_option linter.unusedVariables false
set_option linter.unusedSimpArgs false
theorem rwidths_calls (w : World) : Calls Tryz.prog 107 #[.int .i64 64] w fun e w' => e = .returned (.tuple #[.int .i64 11, .int .i64 52]) ∧ w' = w := by
  go_enter Tryz.func107, Tryz.ntmps107
  go_wp2
  go_ret2
  exact ⟨rfl, rfl⟩
set_option maxHeartbeats 4000000 in
set_option maxRecDepth 100000 in
theorem rparts_calls (b : Nat) (w : World) (hb : b < 18446744073709551616) : Calls Tryz.prog 65 #[.int .i64 64, .int .u64 (b : Int)] w fun e w' => e = .returned (.tuple #[.bool (fsg b), .int .i64 (fe b : Nat), .int .u64 (ff b : Nat), .int .i64 0]) ∧ Below w.heap.size w w' := by
  have hb0 := Below.refl w.heap.size w
  have kw := fun W => rwidths_calls W
  have h63 : IntKind.i64.wrap 63 = 63 := by decide
  have hm1 : IntKind.u64.wrap 4503599627370496 = 4503599627370496 := by decide
  have hm2 : IntKind.u64.wrap 4503599627370495 = 4503599627370495 := by decide
  have hm3 : IntKind.i64.wrap ((b : Int) / 4503599627370496) = (b : Int) / 4503599627370496 := by rw [IntKind.wrap_i64]; omega
  have hm4 : Go.bits BinOp.and IntKind.i64 ((b : Int) / 4503599627370496) 2047 = ((b / 4503599627370496 % 2048 : Nat) : Int) := by
    have h := (bits_nat .i64 63 (by decide) (fun n h0 h1 => by rw [IntKind.wrap_i64]; omega) (b / 4503599627370496) 2047 (by omega) (by decide)).1
    rw [show (2047 : Nat) = 2 ^ 11 - 1 by decide, Nat.and_two_pow_sub_one_eq_mod] at h
    exact h
  have hm5 : Go.bits BinOp.and IntKind.u64 (b : Int) 4503599627370495 = ((b % 4503599627370496 : Nat) : Int) := by
    have h := (bits_nat .u64 64 (by decide) (fun n h0 h1 => by rw [IntKind.wrap_u64]; omega) b 4503599627370495 (by omega) (by decide)).1
    rw [show (4503599627370495 : Nat) = 2 ^ 52 - 1 by decide, Nat.and_two_pow_sub_one_eq_mod] at h
    exact h
  have he : ((b : Int) / 9223372036854775808 == 1) = fsg b := by
    unfold fsg
    rw [Bool.eq_iff_iff, beq_iff_eq, decide_eq_true_iff]
    omega
  unfold fe ff
  go_enter Tryz.func65, Tryz.ntmps65
  go_wp2_with (go_at_call 107; (with_reducible refine (kw _).mono ?_); clear kw; rintro e1 w1 ⟨rfl, rfl⟩)
  go_quiet (fail)
  go_wp2_with fail
  refine bodyPost_ret (results_tmp4 Tryz.results65 _ _ _) rfl ?_
  exact ⟨rfl, below_dr hb0 _⟩
theorem or_hidden' {f : Nat} (h : f < 4503599627370496) : Go.bits BinOp.or IntKind.u64 (f : Int) 4503599627370496 = ((4503599627370496 + f : Nat) : Int) := or_hidden h
set_option maxHeartbeats 4000000 in
set_option maxRecDepth 100000 in
theorem rexact_calls (b : Nat) (w : World) (hb : b < 18446744073709551616) : Calls Tryz.prog 27 #[.int .u64 (b : Int)] w fun e w' => e = .returned (if fe b = 2047 then .tuple #[.bool false, .int .u64 0, .int .i64 0, .bool false] else .tuple #[.bool (fsg b), .int .u64 (exM b : Nat), .int .i64 (exX b), .bool true]) ∧ Below w.heap.size w w' := by
  have hb0 := Below.refl w.heap.size w
  have kp := fun W => rparts_calls b W hb
  have hff : ff b < 4503599627370496 := Nat.mod_lt _ (by decide)
  have hfe : fe b < 2048 := Nat.mod_lt _ (by decide)
  unfold exM exX
  generalize fsg b = s at *
  generalize fe b = x at *
  generalize ff b = f at *
  by_cases h1 : x = 2047
  · rw [if_pos h1]
    subst h1
    rw [show ((2047 : Nat) : Int) = 2047 from rfl] at kp
    go_enter Tryz.func27, Tryz.ntmps27
    go_wp2_with (go_at_call 65; (with_reducible refine (kp _).mono ?_); clear kp; rintro e1 w1 ⟨rfl, hb1⟩)
    refine bodyPost_ret (results_tmp4 Tryz.results27 _ _ _) rfl ?_
    exact ⟨rfl, hb1⟩
  · rw [if_neg h1]
    have h1I : ((x : Int) == 2047) = false := beq_eq_false_iff_ne.2 (by omega)
    have h1J : ¬ (x : Int) = 2047 := by omega
    by_cases h3 : x = 0
    · rw [if_pos h3, if_pos h3]
      subst h3
      rw [show ((0 : Nat) : Int) = 0 from rfl] at kp
      clear h1I h1J
      go_enter Tryz.func27, Tryz.ntmps27
      go_wp2_with (go_at_call 65; (with_reducible refine (kp _).mono ?_); clear kp; rintro e1 w1 ⟨rfl, hb1⟩)
      refine bodyPost_ret (results_tmp4 Tryz.results27 _ _ _) rfl ?_
      exact ⟨rfl, hb1⟩
    · rw [if_neg h3, if_neg h3]
      have h3I : ((x : Int) == 0) = false := beq_eq_false_iff_ne.2 (by omega)
      have h3J : ¬ (x : Int) = 0 := by omega
      have ho := or_hidden hff
      have q1 : IntKind.i64.wrap ((x : Int) - 1075) = (x : Int) - 1075 := by rw [IntKind.wrap_i64]; omega
      go_enter Tryz.func27, Tryz.ntmps27
      go_wp2_with (go_at_call 65; (with_reducible refine (kp _).mono ?_); clear kp; rintro e1 w1 ⟨rfl, hb1⟩)
      refine bodyPost_ret (results_tmp4 Tryz.results27 _ _ _) rfl ?_
      exact ⟨rfl, hb1⟩
end Go.Proofs.YtffncomekbfihaaGreatDoor.Nat
namespace Go.Proofs.YtffncomekbfihaaGreatDoor.Nat
open Go.RowKit Go.Shelf
set_option linter.unusedVariables false
set_option linter.unusedSimpArgs false
theorem natb_two (w : World) (m : Nat) (hm : m < 18446744073709551616) : NatB (w.alloc (.cells #[.int .u32 ((m % 4294967296 : Nat) : Int), .int .u32 ((m / 4294967296 : Nat) : Int)] 53)) (.slice (some ⟨w.heap.size, 0, none⟩) 2 2) m := by
  refine ⟨some ⟨w.heap.size, 0, none⟩, [m % 4294967296, m / 4294967296], 2, rfl, ⟨?_, Nat.le_refl _, by simp⟩, ?_, ?_, by simp⟩
  · intro j x hx
    have hj := (List.getElem?_eq_some_iff.1 hx).1
    have hh := heap_alloc_new w (.cells #[.int .u32 ((m % 4294967296 : Nat) : Int), .int .u32 ((m / 4294967296 : Nat) : Int)] 53)
    rcases (show j = 0 ∨ j = 1 by simp at hj; omega) with rfl | rfl
    · refine ⟨_, rfl, ?_⟩
      simp at hx
      subst hx
      rw [Addr.add_lit, Lib.cell_of_heap hh]; rfl
    · refine ⟨_, rfl, ?_⟩
      simp at hx
      subst hx
      rw [Addr.add_lit, Lib.cell_of_heap hh]; rfl
  · intro x hx
    simp at hx
    rcases hx with rfl | rfl <;> omega
  · simp [nv]
    omega
theorem natb_1a (w1 : World) (o : Obj) : NatB ((w1.alloc o).alloc (.cells #[.int .u32 1] 53)) (.slice (some ⟨w1.heap.size + 1, 0, none⟩) 1 1) 1 := by
  have h := natb_one (w1.alloc o) 1 (by decide)
  rwa [World.size_alloc] at h
set_option maxHeartbeats 8000000 in
set_option maxRecDepth 100000 in
theorem ratio_calls (m : Nat) (e : Int) (w : World) (hm : m < 9007199254740992) (r1 : -1074 ≤ e) (r2 : e ≤ 972) :
    Calls Tryz.prog 28 #[.int .u64 (m : Int), .int .i64 e] w fun en w' => ∃ v1 v2, en = .returned (.tuple #[v1, v2]) ∧ NatB w' v1 (m * up e) ∧ NatB w' v2 (up (-e)) ∧ Below w.heap.size w w' := by
  have hc1 : IntKind.u32.wrap (m : Int) = ((m % 4294967296 : Nat) : Int) := by rw [IntKind.wrap_u32]; omega
  have hc2 : IntKind.u32.wrap ((m : Int) / 4294967296) = ((m / 4294967296 : Nat) : Int) := by rw [IntKind.wrap_u32]; omega
  have hT := natb_two w m (by omega)
  have hml : (limbs m).length ≤ 2 := limbs_len_le (Nat.lt_trans hm (by decide))
  have hla := sh_limbs (X := e) r2 hml
  have hlb := up_limbs (X := -e) (by omega)
  generalize hm1 : m % 4294967296 = m1 at hT hc1
  generalize hm2 : m / 4294967296 = m2 at hT hc2
  clear hm1 hm2
  have bA := below_step (below_alloc w (.cells #[.int .u32 (m1 : Int), .int .u32 (m2 : Int)] 53)) (below_alloc (w.alloc (.cells #[.int .u32 (m1 : Int), .int .u32 (m2 : Int)] 53)) (.cells #[.int .u32 1] 53))
  have hT2 := hT.below (below_alloc (w.alloc (.cells #[.int .u32 (m1 : Int), .int .u32 (m2 : Int)] 53)) (.cells #[.int .u32 1] 53))
  have hO := natb_1a w (.cells #[.int .u32 (m1 : Int), .int .u32 (m2 : Int)] 53)
  by_cases he : 0 ≤ e
  · obtain ⟨n, rfl⟩ : ∃ n : Nat, e = n := ⟨e.toNat, by omega⟩
    have heN : (0 : Int) ≤ (n : Int) := he
    have k2 := fun W => two_calls n W (by omega)
    have hu : up (n : Int) = 2 ^ n := by unfold up; rw [Int.toNat_natCast]
    have hu2 : up (-(n : Int)) = 1 := by unfold up; rw [show (-(n : Int)).toNat = 0 by omega]
    rw [hu] at hla ⊢
    rw [hu2]
    have kt := fun W V (hb : Below _ _ W) (hV : NatB W V (2 ^ n)) => rtimes_b (hT2.below hb) hV
    have HL : Hid _ := Lib.hid hla
    clear hla hlb hT
    go_enter Tryz.func28, Tryz.ntmps28
    go_wp2_with (first
      | (go_at_call 67; (with_reducible refine (k2 _).mono ?_); clear k2; rintro e1 w1 ⟨v1, rfl, hv1, hb1⟩)
      | (go_at_call 66; (with_reducible refine (kt _ _ hb1 hv1).mono ?_); clear kt; rintro e2 w2 ⟨v2, rfl, hv2, hb2⟩))
    go_ret2
    exact ⟨_, _, rfl, hv2.b (by have := HL.out; omega), hO.below (hb1.trans (hb2.mono hb1.size)), below_step (below_step bA hb1) hb2⟩
  · obtain ⟨n, hn⟩ : ∃ n : Nat, -e = n := ⟨(-e).toNat, by omega⟩
    have heN : ¬ (0 : Int) ≤ e := he
    have k2 := fun W => two_calls n W (by omega)
    have hu : up e = 1 := by unfold up; rw [show e.toNat = 0 by omega]
    have hu2 : up (-e) = 2 ^ n := by unfold up; rw [hn, Int.toNat_natCast]
    rw [hu, hu2, Nat.mul_one]
    have hwn : IntKind.i64.wrap (-e) = (n : Int) := by rw [IntKind.wrap_i64]; omega
    clear hla hlb hT hn
    go_enter Tryz.func28, Tryz.ntmps28
    go_wp2_with (go_at_call 67; (with_reducible refine (k2 _).mono ?_); clear k2; rintro e1 w1 ⟨v1, rfl, hv1, hb1⟩)
    go_ret2
    exact ⟨_, _, rfl, hT2.below hb1, hv1, below_step bA hb1⟩
set_option maxHeartbeats 8000000 in
set_option maxRecDepth 100000 in
theorem scale_calls {V1 V2 : Value} {a b : Nat} (p : Int) (w : World) (hA : NatB w V1 a) (hB : NatB w V2 b) (hla : (limbs a).length ≤ 1000) (hlb : (limbs b).length ≤ 1000) (r1 : -2000 ≤ p) (r2 : p ≤ 2000) :
    Calls Tryz.prog 69 #[V1, V2, .int .i64 p] w fun en w' => ∃ v1 v2, en = .returned (.tuple #[v1, v2]) ∧ NatB w' v1 (a * tp (-p)) ∧ NatB w' v2 (b * tp p) ∧ Below w.heap.size w w' := by
  by_cases he : 0 ≤ p
  · obtain ⟨n, rfl⟩ : ∃ n : Nat, p = n := ⟨p.toNat, by omega⟩
    have heN : (0 : Int) ≤ (n : Int) := he
    have k2 := fun W => power10_calls n W (by omega)
    rw [tp_nat, tp_neg, Nat.mul_one]
    have kt := fun W V (hb : Below w.heap.size w W) (hV : NatB W V (10 ^ n)) => rtimes_b (hB.below hb) hV
    have hl : (limbs (b * 10 ^ n)).length ≤ 10000 := by have h1 := limbs_mul b (10 ^ n); have h2 := limbs_ten (n := n) (by omega); omega
    have HL : Hid _ := Lib.hid hl
    clear hla hlb hl
    go_enter Tryz.func69, Tryz.ntmps69
    go_wp2_with (first
      | (go_at_call 110; (with_reducible refine (k2 _).mono ?_); clear k2; rintro e1 w1 ⟨v1, rfl, hv1, hb1⟩)
      | (go_at_call 66; (with_reducible refine (kt _ _ hb1 hv1).mono ?_); clear kt; rintro e2 w2 ⟨v2, rfl, hv2, hb2⟩))
    go_ret2
    exact ⟨_, _, rfl, hA.below (below_step hb1 hb2), hv2.b HL.out, below_step hb1 hb2⟩
  · obtain ⟨n, hn⟩ : ∃ n : Nat, -p = n := ⟨(-p).toNat, by omega⟩
    have heN : ¬ (0 : Int) ≤ p := he
    obtain rfl : p = -(n : Int) := by omega
    have k2 := fun W => power10_calls n W (by omega)
    rw [Int.neg_neg, tp_nat, tp_neg, Nat.mul_one]
    have kt := fun W V (hb : Below w.heap.size w W) (hV : NatB W V (10 ^ n)) => rtimes_b (hA.below hb) hV
    have hl : (limbs (a * 10 ^ n)).length ≤ 10000 := by have h1 := limbs_mul a (10 ^ n); have h2 := limbs_ten (n := n) (by omega); omega
    have HL : Hid _ := Lib.hid hl
    have hwn : IntKind.i64.wrap (- -(n : Int)) = (n : Int) := by rw [IntKind.wrap_i64]; omega
    have hwn2 : IntKind.i64.wrap (n : Int) = (n : Int) := by rw [IntKind.wrap_i64]; omega
    clear hla hlb hl hn
    go_enter Tryz.func69, Tryz.ntmps69
    go_wp2_with (first
      | (go_at_call 110; (with_reducible refine (k2 _).mono ?_); clear k2; rintro e1 w1 ⟨v1, rfl, hv1, hb1⟩)
      | (go_at_call 66; (with_reducible refine (kt _ _ hb1 hv1).mono ?_); clear kt; rintro e2 w2 ⟨v2, rfl, hv2, hb2⟩))
    go_ret2
    exact ⟨_, _, rfl, hv2.b HL.out, hB.below (below_step hb1 hb2), below_step hb1 hb2⟩
set_option maxHeartbeats 8000000 in
set_option maxRecDepth 100000 in
theorem high_calls {V1 V2 : Value} {a b : Nat} (w : World) (hA : NatB w V1 a) (hB : NatB w V2 b) (hla : (limbs a).length ≤ 900) (hlb : (limbs b).length ≤ 900) (ha : a ≠ 0) (hb : b ≠ 0) (h1 : -1100 ≤ lg0 a b) (h2 : lg0 a b < 1100) :
    Calls Tryz.prog 29 #[V1, V2] w fun en w' => ∃ hi : Int, en = .returned (.int .i64 hi) ∧ IsTen a b hi ∧ -400 ≤ hi ∧ hi ≤ 400 ∧ Below w.heap.size w w' := by
  have k1 := fun W (hx : Below w.heap.size w W) => rbits_a (hA.below hx).a (by omega)
  have k2 := fun W (hx : Below w.heap.size w W) => rbits_a (hB.below hx).a (by omega)
  have ks := fun p W (hx : Below w.heap.size w W) (r1 : -2000 ≤ p) (r2 : p ≤ 2000) => scale_calls p W (hA.below hx) (hB.below hx) (by omega) (by omega) r1 r2
  have hlow := est_low ha hb h1 h2
  have hhigh := est_high ha hb h1 h2
  obtain ⟨D, hD⟩ : ∃ D : Int, lg0 a b = D := ⟨_, rfl⟩
  have hD2 : (bl a : Int) - (bl b : Int) = D := hD
  rw [hD] at hlow hhigh h1 h2
  obtain ⟨k0, hk0⟩ : ∃ k0, est D = k0 := ⟨_, rfl⟩
  rw [hk0] at hlow hhigh
  unfold est at hk0
  have hkr : -400 ≤ k0 ∧ k0 ≤ 390 := by
    rw [← hk0]
    rcases Int.lt_or_le D 0 with q | q
    · have e : Int.tdiv (D * 30103) 100000 = -(Int.tdiv (-D * 30103) 100000) := by rw [Int.neg_mul, Int.neg_tdiv, Int.neg_neg]
      rw [e, Int.tdiv_eq_ediv_of_nonneg (by omega)]
      omega
    · rw [Int.tdiv_eq_ediv_of_nonneg (by omega)]
      omega
  obtain ⟨P, hP⟩ : ∃ P : Int, D * 30103 = P := ⟨_, rfl⟩
  obtain ⟨Q, hQ⟩ : ∃ Q : Int, Int.tdiv P 100000 = Q := ⟨_, rfl⟩
  rw [hP, hQ] at hk0
  have w0 : IntKind.i64.wrap D = D := by rw [IntKind.wrap_i64]; omega
  have w1 : IntKind.i64.wrap P = P := by rw [IntKind.wrap_i64]; omega
  have w2 : IntKind.i64.wrap Q = Q := by rw [IntKind.wrap_i64]; omega
  have w3 : IntKind.i64.wrap k0 = k0 := by rw [IntKind.wrap_i64]; omega
  have hb0 := Below.refl w.heap.size w
  have HH : Hid _ := Lib.hid (And.intro hlow hhigh)
  clear hD hlow hhigh hla hlb ha hb
  generalize bl a = ba at *
  generalize bl b = bb at *
  go_enter Tryz.func29, Tryz.ntmps29
  go_wp2_with (first
    | (go_at_call 68; (with_reducible refine (k1 _ hb0).mono ?_); clear k1; rintro e1 w4 ⟨rfl, hb1⟩)
    | (go_at_call 68; (with_reducible refine (k2 _ hb1).mono ?_); clear k2; rintro e2 w5 ⟨rfl, hb2⟩; have hb3 := below_step hb1 hb2))
  go_loopg [5, 6] 6 (fun kq vk vi wr => ∃ i : Nat, vi = .int .i64 i ∧ vk = .int .i64 (k0 + (i : Int)) ∧ i + kq = 6 ∧ Hid (b * tp (k0 + (i : Int)) ≤ a * tp (-(k0 + (i : Int)))) ∧ Below w.heap.size w wr)
  case atStart => exact ⟨0, rfl, by go_num, rfl, Lib.hid (by have h := HH.out.1; rwa [show k0 + ((0 : Nat) : Int) = k0 from by omega]), hb3⟩
  case round =>
    clear hb0 hb1 hb2 hb3
    obtain ⟨i, rfl, rfl, hi, HI, hbr⟩ := hrel
    cases gk with
    | zero =>
      exfalso
      obtain rfl : i = 6 := by omega
      have h3 := HI.out
      have h4 := HH.out.2
      rw [show ((6 : Nat) : Int) = 6 from rfl] at h3
      omega
    | succ d =>
      obtain ⟨k, hk⟩ : ∃ k : Int, k0 + (i : Int) = k := ⟨_, rfl⟩
      rw [hk] at HI ⊢
      have hi6 : (i : Int) < 6 := by omega
      have hwk : IntKind.i64.wrap (k + 1) = k + 1 := by rw [IntKind.wrap_i64]; omega
      have kS := ks (k + 1) wr hbr (by omega) (by omega)
      have kc := fun W v1 v2 (h1 : NatB W v1 (a * tp (-(k + 1)))) (h2 : NatB W v2 (b * tp (k + 1))) => rcmp_a h1.a h2.a
      have hkr2 : -400 ≤ k ∧ k ≤ 400 := by omega
      have hk2 : k0 + ((i + 1 : Nat) : Int) = k + 1 := by omega
      by_cases hlt : a * tp (-(k + 1)) < b * tp (k + 1)
      · have hc := cmp_lt hlt
        rw [hc] at kc
        have HT : Hid (IsTen a b k) := Lib.hid ⟨HI.out, hlt⟩
        clear hlt hc hk
        go_wp2_with (first
          | (go_at_call 69; (with_reducible refine kS.mono ?_); clear kS; rintro e1 w6 ⟨v1, v2, rfl, hv1, hv2, hb6⟩; have kC := kc w6 v1 v2 hv1 hv2)
          | (go_at_call 70; (with_reducible refine kC.mono ?_); clear kC; rintro e2 w7 ⟨rfl, hb7⟩))
        go_ret
        exact ⟨k, rfl, HT.out, hkr2.1, hkr2.2, below_step hbr (below_step hb6 hb7)⟩
      · have hc : ¬ cmpI (a * tp (-(k + 1))) (b * tp (k + 1)) < 0 := by have := cmp_ge (Nat.le_of_not_lt hlt); omega
        generalize cmpI (a * tp (-(k + 1))) (b * tp (k + 1)) = c at *
        have HT : Hid _ := Lib.hid (Nat.le_of_not_lt hlt)
        clear hlt hk
        go_wp2_with (first
          | (go_at_call 69; (with_reducible refine kS.mono ?_); clear kS; rintro e1 w6 ⟨v1, v2, rfl, hv1, hv2, hb6⟩; have kC := kc w6 v1 v2 hv1 hv2)
          | (go_at_call 70; (with_reducible refine kC.mono ?_); clear kC; rintro e2 w7 ⟨rfl, hb7⟩))
        go_roundg d
        case rel => exact ⟨i + 1, by go_num, by rw [hk2], by omega, Lib.hid (by rw [hk2]; exact HT.out), below_step hbr (below_step hb6 hb7)⟩
        case measure => omega
end Go.Proofs.YtffncomekbfihaaGreatDoor.Nat
namespace Go.Proofs.YtffncomekbfihaaGreatDoor.Nat
open Go.RowKit Go.Shelf
set_option linter.unusedVariables false
set_option linter.unusedSimpArgs false
theorem rlimbs_calls (n : Nat) (w : World) (hn : n < 18446744073709551616) :
    Calls Tryz.prog 111 #[.int .u64 (n : Int)] w fun e w' => ∃ v', e = .returned v' ∧ NatB w' v' n ∧ Below w.heap.size w w' := by
  have hc1 : IntKind.u32.wrap (n : Int) = ((n % 4294967296 : Nat) : Int) := by rw [IntKind.wrap_u32]; omega
  have hc2 : IntKind.u32.wrap ((n : Int) / 4294967296) = ((n / 4294967296 : Nat) : Int) := by rw [IntKind.wrap_u32]; omega
  have hT := natb_two w n hn
  generalize hm1 : n % 4294967296 = m1 at hT hc1
  generalize hm2 : n / 4294967296 = m2 at hT hc2
  clear hm1 hm2
  have bA := below_alloc w (.cells #[.int .u32 (m1 : Int), .int .u32 (m2 : Int)] 53)
  go_enter Tryz.func111, Tryz.ntmps111
  go_wp2
  go_ret
  exact ⟨_, rfl, hT, bA⟩
set_option maxHeartbeats 8000000 in
set_option maxRecDepth 100000 in
theorem rdg_calls (v : Nat) (e : Int) (w : World) (hv0 : v ≠ 0) (hv : v < 18446744073709551616) (he1 : -10000 ≤ e) (he2 : e ≤ 10000) :
    Calls Tryz.prog 73 #[.int .u64 (v : Int), .int .i64 e] w fun en w' => ∃ (s : ByteArray) (p z : Nat), en = .returned (.tuple #[.string s, .int .i64 (e + z)]) ∧ bts s = dec p ∧ v = p * 10 ^ z ∧ p % 10 ≠ 0 ∧ z ≤ 20 ∧ Below w.heap.size w w' := by
  have hl : (limbs v).length ≤ 4096 := by have := limbs_two hv; omega
  have k0 := rlimbs_calls v w hv
  have k1 := fun W V (h : NatB W V v) => rdigits_calls V v W h.a hl
  have hdl : (dec v).length ≤ 20 := dec_le (Nat.lt_of_lt_of_le hv (by decide)) (by decide)
  have Hv : Hid _ := Lib.hid (And.intro hv0 hv)
  clear hl hv0 hv
  go_enter Tryz.func73, Tryz.ntmps73
  go_wp2_with (first
    | (go_at_call 111; (with_reducible refine k0.mono ?_); clear k0; rintro e0 w0 ⟨v0, rfl, hv0, hb0⟩; have k1 := k1 w0 v0 hv0)
    | (go_at_call 81; (with_reducible refine k1.mono ?_); clear k1; rintro e1 w1 ⟨s, rfl, hs, hb1'⟩; have hb1 := below_step hb0 hb1'))
  have hss := bts_length s
  rw [hs] at hss
  have hs20 : s.size ≤ 20 := by omega
  clear hb1' hb0 hv0
  go_loopg [6, 1] 30 (fun kq vs vp wr => ∃ (t : ByteArray) (p z : Nat), vs = .string t ∧ vp = .int .i64 (e + (z : Int)) ∧ bts t = dec p ∧ v = p * 10 ^ z ∧ p ≠ 0 ∧ t.size + z = s.size ∧ t.size ≤ kq ∧ wr = w1)
  case atStart => exact ⟨s, v, 0, rfl, by go_num, hs, by rw [Nat.pow_zero, Nat.mul_one], Hv.out.1, rfl, by omega, rfl⟩
  case round =>
    obtain ⟨t, p, z, rfl, rfl, ht, hvp, hp0, hz, hk, rfl⟩ := hrel
    have htl := bts_length t
    have htn := dec_ne p
    rw [← ht, htl] at htn
    obtain ⟨L, hL, hL2⟩ := dec_last (p := p)
    have ht2 : (dec p).length = t.size := by rw [← ht]; exact htl
    have hLl : L.length + 1 = t.size := by rw [← htl, ht, hL, List.length_append]; rfl
    by_cases h1 : t.size = 1
    · have h1I : ¬ (1 : Int) < (t.size : Int) := by omega
      have hp10 : p % 10 ≠ 0 := by
        have : ¬ 10 ≤ p := fun q => by
          have h3 := dec_snoc q
          have h4 := dec_ne (p / 10)
          rw [h3, List.length_append] at ht2
          have h5 : [48 + p % 10].length = 1 := rfl
          omega
        omega
      have H : Hid _ := Lib.hid (And.intro ht (And.intro hvp hp10))
      have hz20 : z ≤ 20 := by omega
      clear ht hvp hp10 hL hL2 hLl htl htn hk hp0 hs hss hdl ht2
      go_wp2
      go_ret2
      exact ⟨t, p, z, rfl, H.out.1, H.out.2.1, H.out.2.2, hz20, hb1⟩
    · have h1I : (1 : Int) < (t.size : Int) := by omega
      have hw1 : IntKind.i64.wrap ((t.size : Int) - 1) = ((t.size - 1 : Nat) : Int) := by rw [IntKind.wrap_i64]; omega
      have hw2 : IntKind.i64.wrap (e + (z : Int) + 1) = e + ((z + 1 : Nat) : Int) := by rw [IntKind.wrap_i64]; omega
      have H : Hid _ := Lib.hid (And.intro ht (And.intro hvp hp0))
      clear ht hvp hL hL2 htl htn hp0 hs hss hdl ht2
      go_wp2
      · rename_i hlt hq
        have h48 : t[t.size - 1].toNat = 48 + p % 10 := dec_at H.out.1 hlt
        have hp10 : p % 10 = 0 := by rw [h48] at hq; simp at hq; omega
        obtain ⟨c1, c2⟩ := dec_cut H.out.1 (by omega)
        go_roundg (gk - 1)
        case rel => exact ⟨t.extract 0 (t.size - 1), p / 10, z + 1, rfl, by go_num, c1, by rw [H.out.2.1, Nat.pow_succ, Nat.mul_comm (10 ^ z), ← Nat.mul_assoc]; congr 1; omega, by omega, by rw [ByteArray.size_extract]; omega, by rw [ByteArray.size_extract]; omega, rfl⟩
        case measure => omega
      · rename_i hlt hq
        have h48 : t[t.size - 1].toNat = 48 + p % 10 := dec_at H.out.1 hlt
        have hp10 : p % 10 ≠ 0 := by rw [h48] at hq; simp at hq; omega
        go_ret2
        exact ⟨t, p, z, rfl, H.out.1, H.out.2.1, hp10, by omega, hb1⟩
/-- do digits with an exponent have these bits? -/
def hitB (x : Nat) (p : Int) (b : Nat) : Bool := decide (rnd false (dec x) p = (b, 0))
set_option maxHeartbeats 8000000 in
set_option maxRecDepth 100000 in
theorem is_calls (x b : Nat) (p : Int) (w : World) (hx : x < 18446744073709551616) :
    Calls Tryz.prog 72 #[.int .u64 (x : Int), .int .i64 p, .int .u64 (b : Int)] w fun en w' => en = .returned (.bool (hitB x p b)) ∧ Below w.heap.size w w' := by
  have hl : (limbs x).length ≤ 4096 := by have := limbs_two hx; omega
  have k0 := rlimbs_calls x w hx
  have k1 := fun W V (h : NatB W V x) => rdigits_calls V x W h.a hl
  have kr := fun (s : ByteArray) W (hs : bts s = dec x) => (show Calls Tryz.prog 112 #[.bool false, .string s, .int .i64 p] W fun en w' => en = .returned (rndV (rnd false (dec x) p)) ∧ Below W.heap.size W w' by have h := rround_calls false s p W; rwa [hs] at h)
  obtain ⟨X, f, hr⟩ : ∃ X f, rnd false (dec x) p = (X, f) := ⟨_, _, rfl⟩
  have hB : hitB x p b = (decide (f = 0) && decide (X = b)) := by
    unfold hitB
    rw [hr, Bool.eq_iff_iff, Bool.and_eq_true, decide_eq_true_iff, decide_eq_true_iff, decide_eq_true_iff, Prod.mk.injEq]
    exact And.comm
  rw [hr, show rndV (X, f) = .tuple #[.int .u64 (X : Int), .int .i64 (f : Int)] from rfl] at kr
  rw [hB]
  clear hr hB hl
  by_cases hf : f = 0
  · subst hf
    by_cases hX : X = b
    · subst hX
      rw [decide_eq_true rfl, decide_eq_true rfl]
      go_enter Tryz.func72, Tryz.ntmps72
      go_wp2_with (first
        | (go_at_call 111; (with_reducible refine k0.mono ?_); clear k0; rintro e0 w0 ⟨v0, rfl, hv0, hb0⟩; have k1 := k1 w0 v0 hv0)
        | (go_at_call 81; (with_reducible refine k1.mono ?_); clear k1; rintro e1 w1 ⟨s, rfl, hs, hb1'⟩; have hb1 := below_step hb0 hb1')
        | (go_at_call 112; (with_reducible refine (kr _ _ hs).mono ?_); clear kr; rintro e2 w2 ⟨rfl, hb2⟩))
      go_ret
      exact ⟨by simp, below_step hb1 hb2⟩
    · rw [decide_eq_false hX, Bool.and_false]
      have hXI : ((X : Int) == (b : Int)) = false := beq_eq_false_iff_ne.2 (by omega)
      clear hX
      go_enter Tryz.func72, Tryz.ntmps72
      go_wp2_with (first
        | (go_at_call 111; (with_reducible refine k0.mono ?_); clear k0; rintro e0 w0 ⟨v0, rfl, hv0, hb0⟩; have k1 := k1 w0 v0 hv0)
        | (go_at_call 81; (with_reducible refine k1.mono ?_); clear k1; rintro e1 w1 ⟨s, rfl, hs, hb1'⟩; have hb1 := below_step hb0 hb1')
        | (go_at_call 112; (with_reducible refine (kr _ _ hs).mono ?_); clear kr; rintro e2 w2 ⟨rfl, hb2⟩))
      go_ret
      exact ⟨by first | rfl | (rw [hXI]), below_step hb1 hb2⟩
  · rw [decide_eq_false hf, Bool.false_and]
    have hfI : ((f : Int) == 0) = false := beq_eq_false_iff_ne.2 (by omega)
    clear hf
    go_enter Tryz.func72, Tryz.ntmps72
    go_wp2_with (first
      | (go_at_call 111; (with_reducible refine k0.mono ?_); clear k0; rintro e0 w0 ⟨v0, rfl, hv0, hb0⟩; have k1 := k1 w0 v0 hv0)
      | (go_at_call 81; (with_reducible refine k1.mono ?_); clear k1; rintro e1 w1 ⟨s, rfl, hs, hb1'⟩; have hb1 := below_step hb0 hb1')
      | (go_at_call 112; (with_reducible refine (kr _ _ hs).mono ?_); clear kr; rintro e2 w2 ⟨rfl, hb2⟩))
    go_ret
    exact ⟨by first | rfl | (rw [hfI]), below_step hb1 hb2⟩
end Go.Proofs.YtffncomekbfihaaGreatDoor.Nat
namespace Go.Proofs.YtffncomekbfihaaGreatDoor.Nat
open Go.RowKit Go.Shelf
set_option linter.unusedVariables false
set_option linter.unusedSimpArgs false
theorem natb_lit2 (w : World) : NatB (w.alloc (.cells #[.int .u32 2] 53)) (.slice (some ⟨w.heap.size, 0, none⟩) 1 1) 2 := natb_one w 2 (by decide)
/-- what try says -/
def TryP (Q F : Nat) (p : Int) (bits : Nat) (en : Ending) : Prop :=
  (hitB Q p bits = false ∧ hitB (Q + 1) p bits = false ∧ en = .returned (.tuple #[.string ⟨#[]⟩, .int .i64 0, .bool false])) ∨
  (∃ (s : ByteArray) (p' z t : Nat), en = .returned (.tuple #[.string s, .int .i64 (p + z), .bool true]) ∧ bts s = dec p' ∧ t = p' * 10 ^ z ∧ p' % 10 ≠ 0 ∧ z ≤ 20 ∧ (t = Q ∨ t = Q + 1) ∧ hitB t p bits = true ∧ (t ≠ F → hitB F p bits = false))
set_option maxHeartbeats 8000000 in
set_option maxRecDepth 100000 in
theorem try_calls {V1 V2 : Value} {a b : Nat} (p : Int) (bits : Nat) (w : World) (hA : NatB w V1 a) (hB : NatB w V2 b) (hla : (limbs a).length ≤ 900) (hlb : (limbs b).length ≤ 900) (hb0 : b ≠ 0) (r1 : -1000 ≤ p) (r2 : p ≤ 1000) (hq0 : qd a b p ≠ 0) (hq : qd a b p < 10 ^ 17) :
    Calls Tryz.prog 30 #[V1, V2, .int .i64 p, .int .u64 (bits : Int)] w fun en w' => TryP (qd a b p) (fst a b p) p bits en ∧ Below w.heap.size w w' := by
  have kS := scale_calls p w hA hB (by omega) (by omega) (by omega) (by omega)
  have hl1 : (limbs (a * tp (-p))).length ≤ 3500 := by have h1 := limbs_mul a (tp (-p)); have h2 := limbs_tp (e := -p) (by omega); omega
  have hl2 : (limbs (b * tp p)).length ≤ 3000 := by have h1 := limbs_mul b (tp p); have h2 := limbs_tp (e := p) (by omega); omega
  have hd0 : b * tp p ≠ 0 := Nat.mul_ne_zero hb0 (Nat.ne_of_gt (tp_pos p))
  have h17 : (10 : Nat) ^ 17 + 1 < 9223372036854775808 := by decide
  obtain ⟨Q, hQ⟩ : ∃ Q, qd a b p = Q := ⟨_, rfl⟩
  have hQ2 : a * tp (-p) / (b * tp p) = Q := hQ
  have hf0 : fst a b p = rhe (a * tp (-p)) (b * tp p) := rfl
  unfold rhe at hf0
  obtain ⟨R, hR⟩ : ∃ R, a * tp (-p) % (b * tp p) = R := ⟨_, rfl⟩
  rw [hQ2, hR] at hf0
  rw [hQ] at hq0 hq ⊢
  have hlt : a * tp (-p) < b * tp p * 2 ^ 63 := by
    have h1 := Nat.div_add_mod (a * tp (-p)) (b * tp p)
    have h2 := Nat.mod_lt (a * tp (-p)) (Nat.pos_of_ne_zero hd0)
    rw [hQ2] at h1
    have h3 : b * tp p * (Q + 1) ≤ b * tp p * 2 ^ 63 := Nat.mul_le_mul_left _ (by omega)
    rw [Nat.mul_add] at h3
    omega
  have hl3 := limbs_63 hl2
  have hrl : (limbs (a * tp (-p) % (b * tp p))).length ≤ 3500 := Nat.le_trans (limbs_len_mono (Nat.mod_le _ _)) hl1
  rw [hR] at hrl
  have kq := fun W v1 v2 (h1 : NatB W v1 (a * tp (-p))) (h2 : NatB W v2 (b * tp p)) => quot_calls h1 h2 (by omega) hlt (by omega)
  rw [hQ2, hR] at kq
  obtain ⟨F, hF⟩ : ∃ F, fst a b p = F := ⟨_, rfl⟩
  rw [hF] at hf0 ⊢
  have hr2 : (limbs (R * 2)).length ≤ 10000 := by have h1 := limbs_mul R 2; have h2 : (limbs 2).length ≤ 1 := limbs_pow (v := 2) (e := 1) (L := 1) (by decide) (by decide); omega
  generalize a * tp (-p) = X at *
  generalize b * tp p = Y at *
  obtain ⟨L, hL⟩ : ∃ L, hitB Q p bits = L := ⟨_, rfl⟩
  obtain ⟨T, hT⟩ : ∃ T, hitB (Q + 1) p bits = T := ⟨_, rfl⟩
  have kl := fun W => is_calls Q bits p W (by omega)
  have kt := fun W => is_calls (Q + 1) bits p W (by omega)
  rw [hL] at kl
  rw [hT] at kt
  obtain ⟨Q1, hQ1⟩ : ∃ Q1, Q + 1 = Q1 := ⟨_, rfl⟩
  rw [hQ1] at kt
  have hwQ : IntKind.u64.wrap ((Q : Int) + 1) = (Q1 : Int) := by rw [IntKind.wrap_u64]; omega
  have hQp : (0 : Int) < (Q : Int) := by omega
  have kd := fun W => rdg_calls Q p W hq0 (by omega) (by omega) (by omega)
  have kd1 := fun W => rdg_calls Q1 p W (by omega) (by omega) (by omega) (by omega)
  have kc := fun W V V' (hV : OwnN W V (R * 2)) (hY : NatB W V' Y) => rcmp_a (hV.b hr2).a hY.a
  obtain ⟨c, hc⟩ : ∃ c, cmpI (R * 2) Y = c := ⟨_, rfl⟩
  rw [hc] at kc
  have HQ : Hid _ := Lib.hid (And.intro hQ1 (And.intro hL (And.intro hT (And.intro hf0 hc))))
  clear hla hlb hb0 r1 r2 hq0 hq hl1 hl2 hd0 h17 hQ hQ2 hf0 hR hlt hl3 hrl hF hr2 hL hT hQ1 hc hA hB
  go_enter Tryz.func30, Tryz.ntmps30
  cases L with
  | false =>
    go_upto_if 51 with (first
      | (go_at_call 69; (with_reducible refine kS.mono ?_); clear kS; rintro e1 w1 ⟨v1, v2, rfl, hv1, hv2, hb1⟩; have kq := kq w1 v1 v2 hv1 hv2)
      | (go_at_call 71; (with_reducible refine kq.mono ?_); clear kq; rintro e2 w2 ⟨vr, rfl, hvr, hb2⟩; have hbA := below_step hb1 hb2; have hy2 := hv2.below hb2)
      | (go_at_call 72; (with_reducible refine (kl _).mono ?_); clear kl; rintro e3 w3 ⟨rfl, hb3⟩; have hr3 := hvr.below hb3; have hy3 := hy2.below hb3; have hbB := below_step hbA hb3)
      | (go_at_call 72; (with_reducible refine (kt _).mono ?_); clear kt; rintro e4 w4 ⟨rfl, hb4⟩; have hr4 := hr3.below hb4; have hy4 := hy3.below hb4; have hbC := below_step hbB hb4))
    cases T with
    | false =>
      go_wp2
      go_ret3
      exact ⟨.inl ⟨HQ.out.2.1, HQ.out.2.2.1, rfl⟩, hbC⟩
    | true =>
      go_wp2_with (first
        | (go_at_call 66; (with_reducible refine (rtimes_b (hr4.below (below_alloc w4 _)) (natb_lit2 w4)).mono ?_); rintro e5 w5 ⟨v5, rfl, hv5, hb5'⟩; have hb5 := below_step (below_alloc w4 _) hb5'; have kC := kc w5 v5 _ hv5 (hy4.below hb5); clear kc)
        | (go_at_call 70; (with_reducible refine kC.mono ?_); clear kC; rintro e6 w6 ⟨rfl, hb6⟩)
        | (go_at_call 73; (with_reducible refine (kd1 _).mono ?_); clear kd kd1; rintro e7 w7 ⟨s7, p7, z7, rfl, hs7, hv7, hp7, hz7, hb7⟩))
      go_ret3
      exact ⟨.inr ⟨s7, p7, z7, Q1, rfl, hs7, hv7, hp7, hz7, .inr HQ.out.1.symm, by rw [← HQ.out.1]; exact HQ.out.2.2.1, fun hne => by rw [show F = Q from by have h := HQ.out.2.2.2.1; have h1 := HQ.out.1; split at h <;> omega]; exact HQ.out.2.1⟩, below_step hbC (below_step hb5 (below_step hb6 hb7))⟩
  | true =>
    go_upto_if 51 with (first
      | (go_at_call 69; (with_reducible refine kS.mono ?_); clear kS; rintro e1 w1 ⟨v1, v2, rfl, hv1, hv2, hb1⟩; have kq := kq w1 v1 v2 hv1 hv2)
      | (go_at_call 71; (with_reducible refine kq.mono ?_); clear kq; rintro e2 w2 ⟨vr, rfl, hvr, hb2⟩; have hbA := below_step hb1 hb2; have hy2 := hv2.below hb2)
      | (go_at_call 72; (with_reducible refine (kl _).mono ?_); clear kl; rintro e3 w3 ⟨rfl, hb3⟩; have hr3 := hvr.below hb3; have hy3 := hy2.below hb3; have hbB := below_step hbA hb3)
      | (go_at_call 72; (with_reducible refine (kt _).mono ?_); clear kt; rintro e4 w4 ⟨rfl, hb4⟩; have hr4 := hr3.below hb4; have hy4 := hy3.below hb4; have hbC := below_step hbB hb4))
    cases T with
    | false =>
      go_wp2_with (first
        | (go_at_call 66; (with_reducible refine (rtimes_b (hr4.below (below_alloc w4 _)) (natb_lit2 w4)).mono ?_); rintro e5 w5 ⟨v5, rfl, hv5, hb5'⟩; have hb5 := below_step (below_alloc w4 _) hb5'; have kC := kc w5 v5 _ hv5 (hy4.below hb5); clear kc)
        | (go_at_call 70; (with_reducible refine kC.mono ?_); clear kC; rintro e6 w6 ⟨rfl, hb6⟩)
        | (go_at_call 73; (with_reducible refine (kd _).mono ?_); clear kd kd1; rintro e7 w7 ⟨s7, p7, z7, rfl, hs7, hv7, hp7, hz7, hb7⟩))
      go_ret3
      exact ⟨.inr ⟨s7, p7, z7, Q, rfl, hs7, hv7, hp7, hz7, .inl rfl, HQ.out.2.1, fun hne => by rw [show F = Q + 1 from by have h := HQ.out.2.2.2.1; split at h <;> omega]; exact HQ.out.2.2.1⟩, below_step hbC (below_step hb5 (below_step hb6 hb7))⟩
    | true =>
      have hmi : Int.tmod (Q : Int) 2 = ((Q % 2 : Nat) : Int) := by rw [Int.tmod_eq_emod_of_nonneg (by omega)]; rfl
      have hmj : (Q : Int) % 2 = ((Q % 2 : Nat) : Int) := rfl
      have hf := HQ.out.2.2.2.1
      have hc := HQ.out.2.2.2.2
      rw [Nat.mul_comm R 2] at hc
      rcases Nat.lt_trichotomy Y (2 * R) with h | h | h
      · rw [cmp_gt h] at hc
        subst hc
        rw [if_pos (.inl h)] at hf
        have HF : Hid _ := Lib.hid hf
        clear hf h hmi hmj
        go_wp2_with (first
          | (go_at_call 66; (with_reducible refine (rtimes_b (hr4.below (below_alloc w4 _)) (natb_lit2 w4)).mono ?_); rintro e5 w5 ⟨v5, rfl, hv5, hb5'⟩; have hb5 := below_step (below_alloc w4 _) hb5'; have kC := kc w5 v5 _ hv5 (hy4.below hb5); clear kc)
          | (go_at_call 70; (with_reducible refine kC.mono ?_); clear kC; rintro e6 w6 ⟨rfl, hb6⟩)
          | (go_at_call 73; (with_reducible refine (kd1 _).mono ?_); clear kd kd1; rintro e7 w7 ⟨s7, p7, z7, rfl, hs7, hv7, hp7, hz7, hb7⟩))
        go_ret3
        exact ⟨.inr ⟨s7, p7, z7, Q1, rfl, hs7, hv7, hp7, hz7, .inr HQ.out.1.symm, by rw [← HQ.out.1]; exact HQ.out.2.2.1, fun hne => absurd (by have h2 := HF.out; have h1 := HQ.out.1; omega) hne⟩, below_step hbC (below_step hb5 (below_step hb6 hb7))⟩
      · rw [cmp_eq h.symm] at hc
        subst hc
        rcases Nat.mod_two_eq_zero_or_one Q with h2 | h2
        · rw [if_neg (by omega)] at hf
          rw [h2] at hmi hmj
          have HF : Hid _ := Lib.hid hf
          clear hf h h2
          go_wp2_with (first
            | (go_at_call 66; (with_reducible refine (rtimes_b (hr4.below (below_alloc w4 _)) (natb_lit2 w4)).mono ?_); rintro e5 w5 ⟨v5, rfl, hv5, hb5'⟩; have hb5 := below_step (below_alloc w4 _) hb5'; have kC := kc w5 v5 _ hv5 (hy4.below hb5); clear kc)
            | (go_at_call 70; (with_reducible refine kC.mono ?_); clear kC; rintro e6 w6 ⟨rfl, hb6⟩)
            | (go_at_call 73; (with_reducible refine (kd _).mono ?_); clear kd kd1; rintro e7 w7 ⟨s7, p7, z7, rfl, hs7, hv7, hp7, hz7, hb7⟩))
          go_ret3
          exact ⟨.inr ⟨s7, p7, z7, Q, rfl, hs7, hv7, hp7, hz7, .inl rfl, HQ.out.2.1, fun hne => absurd HF.out.symm hne⟩, below_step hbC (below_step hb5 (below_step hb6 hb7))⟩
        · rw [if_pos (.inr ⟨h.symm, h2⟩)] at hf
          rw [h2] at hmi hmj
          have HF : Hid _ := Lib.hid hf
          clear hf h h2
          go_wp2_with (first
            | (go_at_call 66; (with_reducible refine (rtimes_b (hr4.below (below_alloc w4 _)) (natb_lit2 w4)).mono ?_); rintro e5 w5 ⟨v5, rfl, hv5, hb5'⟩; have hb5 := below_step (below_alloc w4 _) hb5'; have kC := kc w5 v5 _ hv5 (hy4.below hb5); clear kc)
            | (go_at_call 70; (with_reducible refine kC.mono ?_); clear kC; rintro e6 w6 ⟨rfl, hb6⟩)
            | (go_at_call 73; (with_reducible refine (kd1 _).mono ?_); clear kd kd1; rintro e7 w7 ⟨s7, p7, z7, rfl, hs7, hv7, hp7, hz7, hb7⟩))
          go_ret3
          exact ⟨.inr ⟨s7, p7, z7, Q1, rfl, hs7, hv7, hp7, hz7, .inr HQ.out.1.symm, by rw [← HQ.out.1]; exact HQ.out.2.2.1, fun hne => absurd (by have h2 := HF.out; have h1 := HQ.out.1; omega) hne⟩, below_step hbC (below_step hb5 (below_step hb6 hb7))⟩
      · rw [cmp_lt h] at hc
        subst hc
        rw [if_neg (by omega)] at hf
        have HF : Hid _ := Lib.hid hf
        clear hf h hmi hmj
        go_wp2_with (first
          | (go_at_call 66; (with_reducible refine (rtimes_b (hr4.below (below_alloc w4 _)) (natb_lit2 w4)).mono ?_); rintro e5 w5 ⟨v5, rfl, hv5, hb5'⟩; have hb5 := below_step (below_alloc w4 _) hb5'; have kC := kc w5 v5 _ hv5 (hy4.below hb5); clear kc)
          | (go_at_call 70; (with_reducible refine kC.mono ?_); clear kC; rintro e6 w6 ⟨rfl, hb6⟩)
          | (go_at_call 73; (with_reducible refine (kd _).mono ?_); clear kd kd1; rintro e7 w7 ⟨s7, p7, z7, rfl, hs7, hv7, hp7, hz7, hb7⟩))
        go_ret3
        exact ⟨.inr ⟨s7, p7, z7, Q, rfl, hs7, hv7, hp7, hz7, .inl rfl, HQ.out.2.1, fun hne => absurd HF.out.symm hne⟩, below_step hbC (below_step hb5 (below_step hb6 hb7))⟩
theorem and_mask63 {x : Nat} (hx : x < 18446744073709551616) : Go.bits BinOp.and IntKind.u64 (x : Int) 9223372036854775807 = ((x % 9223372036854775808 : Nat) : Int) := by
  have h := (bits_nat .u64 64 (by decide) (fun n h0 h1 => by rw [IntKind.wrap_u64]; omega) x 9223372036854775807 (by omega) (by decide)).1
  rw [show (9223372036854775807 : Nat) = 2 ^ 63 - 1 by decide, Nat.and_two_pow_sub_one_eq_mod] at h
  exact h
theorem rshortest_bad (x : Nat) (w : World) (hx : x < 18446744073709551616) (h : fe x = 2047) :
    Calls Tryz.prog 8 #[.int .u64 (x : Int)] w fun e w' => e = .returned (.tuple #[.string ⟨#[]⟩, .int .i64 0, .int .i64 1]) ∧ Below w.heap.size w w' := by
  have k1 := fun W => rexact_calls x W hx
  rw [if_pos h] at k1
  clear h
  go_enter Tryz.func8, Tryz.ntmps8
  go_wp2_with (go_at_call 27; (with_reducible refine (k1 _).mono ?_); clear k1; rintro e1 w1 ⟨rfl, hb1⟩)
  go_ret3
  exact ⟨rfl, hb1⟩
theorem rshortest_zero (x : Nat) (w : World) (hx : x < 18446744073709551616) (h : fe x ≠ 2047) (h0 : exM x = 0) :
    Calls Tryz.prog 8 #[.int .u64 (x : Int)] w fun e w' => e = .returned (.tuple #[.string ⟨#[48]⟩, .int .i64 0, .int .i64 0]) ∧ Below w.heap.size w w' := by
  have k1 := fun W => rexact_calls x W hx
  rw [if_neg h, h0] at k1
  rw [show ((0 : Nat) : Int) = 0 from rfl] at k1
  clear h h0
  go_enter Tryz.func8, Tryz.ntmps8
  go_wp2_with (go_at_call 27; (with_reducible refine (k1 _).mono ?_); clear k1; rintro e1 w1 ⟨rfl, hb1⟩)
  go_ret3
  exact ⟨rfl, hb1⟩
theorem hitB_hit {x p : Nat} {e : Int} : hitB p e (x % 9223372036854775808) = true ↔ Hit x p e := by
  unfold hitB Hit
  rw [decide_eq_true_iff]
theorem hitB_no {x p : Nat} {e : Int} (h : hitB p e (x % 9223372036854775808) = false) : ¬ Hit x p e := fun q => by
  rw [hitB_hit.2 q] at h
  cases h
theorem lg0_range {m : Nat} {X : Int} (hm0 : m ≠ 0) (hm : m < 9007199254740992) (h1 : -1074 ≤ X) (h2 : X ≤ 972) : -1100 ≤ lg0 (m * up X) (up (-X)) ∧ lg0 (m * up X) (up (-X)) < 1100 := by
  have b1 : bl (m * up X) ≤ 53 + X.toNat := bl_le (by rw [Nat.pow_add]; exact Nat.mul_lt_mul_of_pos_right hm (up_pos X))
  have b2 : bl (up (-X)) ≤ (-X).toNat + 1 := bl_le (Nat.pow_lt_pow_right (by decide) (Nat.lt_succ_self _))
  unfold lg0
  omega
theorem try_none {Q F : Nat} {p : Int} {bits : Nat} {en : Ending} (h : TryP Q F p bits en) (h1 : hitB Q p bits = false) (h2 : hitB (Q + 1) p bits = false) : en = .returned (.tuple #[.string ⟨#[]⟩, .int .i64 0, .bool false]) := by
  rcases h with ⟨_, _, h⟩ | ⟨s, p', z, t, _, _, _, _, _, ht, hh, _⟩
  · exact h
  · exfalso
    rcases ht with rfl | rfl
    · rw [h1] at hh; cases hh
    · rw [h2] at hh; cases hh
theorem try_some {Q F : Nat} {p : Int} {bits : Nat} {en : Ending} (h : TryP Q F p bits en) (h1 : ¬ (hitB Q p bits = false ∧ hitB (Q + 1) p bits = false)) : ∃ (s : ByteArray) (p' z t : Nat), en = .returned (.tuple #[.string s, .int .i64 (p + z), .bool true]) ∧ bts s = dec p' ∧ t = p' * 10 ^ z ∧ p' % 10 ≠ 0 ∧ z ≤ 20 ∧ (t = Q ∨ t = Q + 1) ∧ hitB t p bits = true ∧ (t ≠ F → hitB F p bits = false) := by
  rcases h with ⟨a, b, _⟩ | h
  · exact absurd ⟨a, b⟩ h1
  · exact h
set_option maxHeartbeats 16000000 in
set_option maxRecDepth 100000 in
theorem rshortest_calls (x : Nat) (w : World) (hx : x < 18446744073709551616) (h : fe x ≠ 2047) (h0 : exM x ≠ 0) :
    Calls Tryz.prog 8 #[.int .u64 (x : Int)] w fun en w' => ∃ (s : ByteArray) (p z n t : Nat) (hi : Int), en = .returned (.tuple #[.string s, .int .i64 (hi - n + z), .int .i64 0]) ∧ bts s = dec p ∧ t = p * 10 ^ z ∧ p % 10 ≠ 0 ∧ z ≤ 20 ∧ Found x (xM x * up (xX x)) (up (-(xX x))) hi n t ∧ -400 ≤ hi ∧ hi ≤ 400 ∧ Below w.heap.size w w' := by
  have k1 := fun W => rexact_calls x W hx
  rw [if_neg h] at k1
  have hm := exM_lt x
  have hX1 := exX_ge x
  have hX2 := exX_le x
  have H0 : Hid _ := Lib.hid (And.intro h h0)
  have hns := and_mask63 hx
  rw [← exM_x, ← exX_x]
  have hfn : ∀ e : Int, IsTen (exM x * up (exX x)) (up (-(exX x))) (e + (16 : Nat)) → near (fst (exM x * up (exX x)) (up (-(exX x))) e * tp e) (tp (-e)) = x % 9223372036854775808 := by
    intro e he
    rw [exM_x, exX_x] at *
    exact fst_near (x := x) (e := e) h0 he
  obtain ⟨m, hmm⟩ : ∃ m, exM x = m := ⟨_, rfl⟩
  obtain ⟨X, hXX⟩ : ∃ X, exX x = X := ⟨_, rfl⟩
  rw [hmm] at hm h0 k1 hfn
  rw [hXX] at hX1 hX2 k1 hfn
  rw [hmm, hXX]
  generalize fsg x = sg at *
  have h0I : ¬ (m : Int) = 0 := by omega
  have hml : (limbs m).length ≤ 2 := limbs_len_le (Nat.lt_trans hm (by decide))
  have hla := sh_limbs hX2 hml
  have hlb := up_limbs (X := -X) (by omega)
  have hA0 : m * up X ≠ 0 := Nat.mul_ne_zero h0 (Nat.ne_of_gt (up_pos X))
  have hB0 : up (-X) ≠ 0 := Nat.ne_of_gt (up_pos (-X))
  have hlg := lg0_range h0 hm hX1 hX2
  have k2 := fun W => ratio_calls m X W hm hX1 hX2
  obtain ⟨A, hAe⟩ : ∃ A, m * up X = A := ⟨_, rfl⟩
  obtain ⟨B, hBe⟩ : ∃ B, up (-X) = B := ⟨_, rfl⟩
  rw [hAe, hBe] at k2 hfn hlg
  rw [hAe] at hla hA0 ⊢
  rw [hBe] at hlb hB0 ⊢
  have k3 := fun W v1 v2 (h1 : NatB W v1 A) (h2 : NatB W v2 B) => high_calls W h1 h2 (by omega) (by omega) hA0 hB0 hlg.1 hlg.2
  obtain ⟨wt, hwt⟩ : ∃ wt, x % 9223372036854775808 = wt := ⟨_, rfl⟩
  have hH1 := fun p e (h : hitB p e wt = true) => (hitB_hit (x := x) (p := p) (e := e)).1 (by rw [hwt]; exact h)
  have hH0 := fun p e (h : hitB p e wt = false) => hitB_no (x := x) (p := p) (e := e) (by rw [hwt]; exact h)
  rw [hwt] at hns hfn
  have HF : Hid _ := Lib.hid (And.intro (hwt ▸ hfn) (And.intro hla (And.intro hlb (And.intro hH1 hH0))))
  clear h h0 hfn hla hlb hm hX1 hX2 hmm hXX hml hlg hA0 hAe hBe hwt hH1 hH0
  go_enter Tryz.func8, Tryz.ntmps8
  go_wp2_with (first
    | (go_at_call 27; (with_reducible refine (k1 _).mono ?_); clear k1; rintro e1 w1 ⟨rfl, hb1⟩)
    | (go_at_call 28; (with_reducible refine (k2 _).mono ?_); clear k2; rintro e2 w2 ⟨v1, v2, rfl, hv1, hv2, hb2⟩; have k3 := k3 w2 v1 v2 hv1 hv2)
    | (go_at_call 29; (with_reducible refine k3.mono ?_); clear k3; rintro e3 w3 ⟨hi, rfl, hT, hh1, hh2, hb3⟩))
  have hA3 := hv1.below hb3
  have hB3 := hv2.below hb3
  have hbW := below_step hb1 (below_step hb2 hb3)
  clear hv1 hv2 hb1 hb2 hb3
  go_loopg [12] 17 (fun kq v12 wr => ∃ n : Nat, v12 = .int .i64 ((n : Int) + 1) ∧ n + kq = 17 ∧ Hid (∀ i : Nat, i < n → ¬ Hit x (qd A B (hi - i)) (hi - i) ∧ ¬ Hit x (qd A B (hi - i) + 1) (hi - i)) ∧ Below w3.heap.size w3 wr)
  case atStart => exact ⟨0, rfl, rfl, Lib.hid (fun i hi0 => absurd hi0 (Nat.not_lt_zero i)), Below.refl _ _⟩
  case round =>
    obtain ⟨n, rfl, hn, hno, hb⟩ := hrel
    cases gk with
    | zero =>
      exfalso
      obtain rfl : n = 17 := by omega
      exact last_hit H0.out.1 H0.out.2 hB0 hT hh1 hh2 HF.out.1 (hno.out 16 (by decide))
    | succ d =>
      obtain ⟨e, he⟩ : ∃ e, hi - (n : Int) = e := ⟨_, rfl⟩
      have hnI : (n : Int) + 1 ≤ 17 := by omega
      have hw1 : IntKind.i64.wrap (hi - ((n : Int) + 1)) = hi - ((n : Int) + 1) := by rw [IntKind.wrap_i64]; omega
      have hw2 : IntKind.i64.wrap (hi - ((n : Int) + 1) + 1) = e := by rw [IntKind.wrap_i64]; omega
      have hw4 : IntKind.i64.wrap ((n : Int) + 1 + 1) = ((n + 1 : Nat) : Int) + 1 := by rw [IntKind.wrap_i64]; omega
      have hTn : IsTen A B (e + (n : Int)) := by rw [show e + (n : Int) = hi from by omega]; exact hT
      have hq1 := qd_ge hB0 hTn
      have hq2 := qd_lt hB0 hTn
      have hq3 : 10 ^ (n + 1) ≤ 10 ^ 17 := Nat.pow_le_pow_right (by decide) (by omega)
      have hq4 := Nat.pow_pos (n := n) (show 0 < 10 by decide)
      have kt := try_calls e wt wr (hA3.below hb) (hB3.below hb) (by have := HF.out.2.1; omega) (by have := HF.out.2.2.1; omega) hB0 (by omega) (by omega) (by omega) (by omega)
      have HT : Hid _ := Lib.hid hT
      have HE : Hid _ := Lib.hid he
      have hn16 : n ≤ 16 := by omega
      clear hTn hq1 hq2 hq3 hq4 hT he
      obtain ⟨Q, hQQ⟩ : ∃ Q, qd A B e = Q := ⟨_, rfl⟩
      obtain ⟨F, hFF⟩ : ∃ F, fst A B e = F := ⟨_, rfl⟩
      rw [hQQ, hFF] at kt
      have HQ : Hid _ := Lib.hid (And.intro hQQ hFF)
      clear hQQ hFF
      by_cases hany : hitB Q e wt = false ∧ hitB (Q + 1) e wt = false
      · have kt2 := kt.mono (fun en w' h => (⟨try_none h.1 hany.1 hany.2, h.2⟩ : en = .returned (.tuple #[.string ⟨#[]⟩, .int .i64 0, .bool false]) ∧ Below wr.heap.size wr w'))
        have hnew : ∀ i : Nat, i < n + 1 → ¬ Hit x (qd A B (hi - i)) (hi - i) ∧ ¬ Hit x (qd A B (hi - i) + 1) (hi - i) := fun j hj => by
          rcases Nat.lt_or_ge j n with h | h
          · exact hno.out j h
          · obtain rfl : j = n := by omega
            rw [HE.out, HQ.out.1]
            exact ⟨HF.out.2.2.2.2 _ _ hany.1, HF.out.2.2.2.2 _ _ hany.2⟩
        have HN : Hid _ := Lib.hid hnew
        clear kt hany hnew hno
        go_wp2_with (go_at_call 30; (with_reducible refine kt2.mono ?_); clear kt2; rintro e4 w4 ⟨rfl, hb4⟩)
        go_roundg d
        case rel => exact ⟨n + 1, by go_num, by omega, HN, below_step hb hb4⟩
        case measure => omega
      · have kt2 := kt.mono (fun en w' h => (⟨try_some h.1 hany, h.2⟩ : (∃ (s : ByteArray) (p' z t : Nat), en = .returned (.tuple #[.string s, .int .i64 (e + z), .bool true]) ∧ bts s = dec p' ∧ t = p' * 10 ^ z ∧ p' % 10 ≠ 0 ∧ z ≤ 20 ∧ (t = Q ∨ t = Q + 1) ∧ hitB t e wt = true ∧ (t ≠ F → hitB F e wt = false)) ∧ Below wr.heap.size wr w'))
        clear kt hany
        go_wp2_with (go_at_call 30; (with_reducible refine kt2.mono ?_); clear kt2; rintro e4 w4 ⟨⟨s, p, z, t, rfl, hs, ht, hp, hz, hq, hh, hf⟩, hb4⟩)
        go_ret3
        exact ⟨s, p, z, n, t, hi, by rw [HE.out]; rfl, hs, ht, hp, hz, ⟨hn16, HT.out, by rw [HE.out, HQ.out.1]; exact hq, by rw [HE.out]; exact HF.out.2.2.2.1 _ _ hh, by rw [HE.out, HQ.out.2]; exact fun hne => HF.out.2.2.2.2 _ _ (hf hne), hno.out⟩, hh1, hh2, below_step hbW (below_step hb hb4)⟩
theorem rshort_any (x : Nat) (w : World) (hx : x < 18446744073709551616) (h : fe x ≠ 2047) :
    Calls Tryz.prog 8 #[.int .u64 (x : Int)] w fun en w' => ∃ (s : ByteArray) (e : Int), en = .returned (.tuple #[.string s, .int .i64 e, .int .i64 0]) ∧ Digs x (bts s) e ∧ Below w.heap.size w w' := by
  by_cases h0 : exM x = 0
  · refine (rshortest_zero x w hx h h0).mono ?_
    rintro e w' ⟨rfl, hb⟩
    exact ⟨_, _, rfl, .inl ⟨h0, rfl, rfl⟩, hb⟩
  · refine (rshortest_calls x w hx h h0).mono ?_
    rintro en w' ⟨s, p, z, n, t, hi, rfl, hs, ht, hp, hz, hf, h1, h2, hb⟩
    exact ⟨_, _, rfl, .inr ⟨h0, p, z, n, t, hi, hs, found_short h h0 hf h1 h2 ht hp hz, rfl, ht, hp, hf⟩, hb⟩
end Go.Proofs.YtffncomekbfihaaGreatDoor.Nat
namespace Go.Proofs.YtffncomekbfihaaGreatDoor.Nat
open Go.RowKit Go.Shelf
set_option linter.unusedVariables false
set_option linter.unusedSimpArgs false
set_option maxHeartbeats 4000000 in
theorem rzeros_calls (n : Nat) (w : World) (hn : n ≤ 1000) :
    Calls Tryz.prog 34 #[.int .i64 (n : Int)] w fun e w' => ∃ s, e = .returned (.string s) ∧ bts s = List.replicate n 48 ∧ w' = w := by
  go_enter Tryz.func34, Tryz.ntmps34
  go_wp2
  go_loopg [3, 4] n (fun kq vs vi wr => ∃ (i : Nat) (t : ByteArray), vi = .int .i64 i ∧ vs = .string t ∧ i + kq = n ∧ Hid (bts t = List.replicate i 48) ∧ t.size = i ∧ wr = w)
  case atStart => exact ⟨0, ⟨#[]⟩, rfl, rfl, by omega, Lib.hid rfl, rfl, rfl⟩
  case round =>
    obtain ⟨i, t, rfl, rfl, hi, ht, hts, rfl⟩ := hrel
    cases gk with
    | zero =>
      obtain rfl : i = n := by omega
      clear hts
      go_wp2
      go_ret
      exact ⟨t, rfl, ht.out, rfl⟩
    | succ d =>
      have hi1 : (i : Int) < (n : Int) := by omega
      have htm : t.size + 1 ≤ 2000 := by omega
      have HT : Hid (t.size = i) := Lib.hid hts
      clear hts
      go_wp2
      go_roundg d
      case rel => exact ⟨i + 1, _, by go_num, rfl, by omega, Lib.hid (by rw [bts_append, ht.out, List.replicate_succ']; rfl), by rw [ByteArray.size_append, HT.out]; rfl, rfl⟩
      case measure => omega
set_option maxHeartbeats 4000000 in
theorem rnumber_pos (n : Nat) (w : World) (hn : n < 4294967296) :
    Calls Tryz.prog 33 #[.int .i64 (n : Int)] w fun e w' => ∃ s, e = .returned (.string s) ∧ bts s = dec n ∧ Below w.heap.size w w' := by
  have h0 : ¬ (n : Int) < 0 := by omega
  have hw : IntKind.u32.wrap (n : Int) = (n : Int) := by rw [IntKind.wrap_u32]; omega
  have k := rdigits_calls _ n _ (natb_one w n hn).a (by have := limbs_small hn; omega)
  go_enter Tryz.func33, Tryz.ntmps33
  go_wp2_with (go_at_call 81; (with_reducible refine k.mono ?_); clear k; rintro e1 w1 ⟨s, rfl, hs, hb1⟩)
  go_ret
  exact ⟨s, rfl, hs, below_step (below_alloc _ _) hb1⟩
set_option maxHeartbeats 4000000 in
theorem rnumber_calls (n : Int) (w : World) (h1 : -9999 ≤ n) (h2 : n ≤ 9999) :
    Calls Tryz.prog 33 #[.int .i64 n] w fun e w' => ∃ s, e = .returned (.string s) ∧ bts s = itoN n ∧ s.size ≤ 5 ∧ Below w.heap.size w w' := by
  have hlen := itoN_len h1 h2
  by_cases hn : n < 0
  · obtain ⟨m, hm⟩ : ∃ m : Nat, n.natAbs = m := ⟨_, rfl⟩
    have hi : itoN n = 45 :: dec m := by unfold itoN; rw [if_pos hn, hm]
    have hw : IntKind.i64.wrap (-n) = (m : Int) := by rw [IntKind.wrap_i64]; omega
    have k := fun W => rnumber_pos m W (by omega)
    rw [hi] at hlen ⊢
    have hd : (dec m).length ≤ 4 := by rw [List.length_cons] at hlen; omega
    have HD : Hid _ := Lib.hid (And.intro hd hlen)
    clear hi hm h1 h2 hd hlen
    go_enter Tryz.func33, Tryz.ntmps33
    go_wp2_with (go_at_call 33; (with_reducible refine (k _).mono ?_); clear k; rintro e1 w1 ⟨s, rfl, hs, hb1⟩; have hsz : s.size ≤ 4 := (by have := bts_length s; rw [hs] at this; have := HD.out.1; omega))
    go_ret
    exact ⟨_, rfl, by rw [bts_append, hs]; rfl, by rw [ByteArray.size_append]; show 1 + s.size ≤ 5; omega, hb1⟩
  · obtain ⟨m, rfl⟩ : ∃ m : Nat, n = m := ⟨n.toNat, by omega⟩
    refine (rnumber_pos m w (by omega)).mono ?_
    rintro e w' ⟨s, rfl, hs, hb⟩
    have hi : itoN (m : Int) = dec m := by unfold itoN; rw [if_neg hn]; rfl
    rw [hi] at hlen ⊢
    exact ⟨s, rfl, hs, by rw [← bts_length, hs]; exact hlen, hb⟩
set_option maxHeartbeats 16000000 in
set_option maxRecDepth 100000 in
theorem rtext_calls (x : Nat) (w : World) (hx : x < 18446744073709551616) (h : fe x ≠ 2047) :
    Calls Tryz.prog 10 #[.int .u64 (x : Int)] w fun en w' => ∃ (S : ByteArray) (d : List Nat) (e : Int), en = .returned (.tuple #[.string S, .int .i64 0]) ∧ bts S = sgl x ++ lay d e ∧ Digs x d e ∧ Below w.heap.size w w' := by
  have k1 := rshort_any x w hx h
  obtain ⟨ng, hng⟩ : ∃ ng, decide (x / 9223372036854775808 = 1) = ng := ⟨_, rfl⟩
  have hngb : ((x : Int) / 9223372036854775808 == 1) = ng := by
    rw [← hng, Bool.eq_iff_iff, beq_iff_eq, decide_eq_true_iff]
    omega
  have HNG : Hid _ := Lib.hid hng
  clear hng
  have kI := fun n h0 h1 W => rnumber_calls n W h0 h1
  have kR := fun c W hc => rzeros_calls c W hc
  go_enter Tryz.func10, Tryz.ntmps10
  go_upto_if 20 with (go_at_call 8; (with_reducible refine k1.mono ?_); clear k1; rintro e1 w1 ⟨sD, e, rfl, hD, hb1⟩)
  obtain ⟨l1, l2, l3, l4⟩ := digs_len hD
  have hzd := bts_length sD
  have HD : Hid _ := Lib.hid hD
  clear hD
  go_cut [7] (fun v7 wx => ∃ s0, v7 = .string s0 ∧ bts s0 = sgl x ∧ wx = w1)
  case first =>
    cases ng with
    | true =>
      have hn : x / 9223372036854775808 = 1 := of_decide_eq_true HNG.out
      have hs : sgl x = [45] := if_pos hn
      clear hn
      go_wp2
      go_meet
      case rel => exact ⟨_, rfl, by rw [hs]; rfl, rfl⟩
    | false =>
      have hn : ¬ x / 9223372036854775808 = 1 := of_decide_eq_false HNG.out
      have hs : sgl x = [] := if_neg hn
      clear hn
      go_wp2
      go_meet
      case rel => exact ⟨⟨#[]⟩, rfl, by rw [hs]; rfl, rfl⟩
  case rest =>
    obtain ⟨s0, rfl, hs0, rfl⟩ := hcut
    have hz0 : s0.size ≤ 1 := by
      have h1 := bts_length s0
      rw [hs0] at h1
      unfold sgl at h1
      split at h1 <;> simp at h1 <;> omega
    have Hs0 : Hid _ := Lib.hid hs0
    clear hs0 hngb HNG
    obtain ⟨d, hd⟩ : ∃ d, bts sD = d := ⟨_, rfl⟩
    rw [hd] at l1 l2 hzd HD
    have Hd : Hid _ := Lib.hid hd
    clear hd
    by_cases c1 : (d.length : Int) + e < -5 ∨ 21 < (d.length : Int) + e
    · obtain ⟨P, hP⟩ : ∃ P : Int, (d.length : Int) + e = P := ⟨_, rfl⟩
      have hwP : IntKind.i64.wrap ((sD.size : Int) + e) = P := by rw [IntKind.wrap_i64]; omega
      have hwP1 : IntKind.i64.wrap (P - 1) = P - 1 := by rw [IntKind.wrap_i64]; omega
      have hlay : lay d e = d.take 1 ++ (if 1 < d.length then [46] ++ d.drop 1 else []) ++ [101] ++ itoN (P - 1) := by unfold lay; rw [if_pos c1, hP]
      have ki := kI (P - 1) (by omega) (by omega)
      clear kI kR
      have hx1 : (sD.extract 0 1).size = 1 := by rw [ByteArray.size_extract]; omega
      have H1 : Hid _ := Lib.hid hlay
      rw [hP] at c1
      have C1 : Hid _ := Lib.hid c1
      have hn1 : ¬ (d.length : Int) < 0 := by omega
      clear hlay hP
      by_cases c2 : 1 < d.length
      · have c2I : (1 : Int) < (sD.size : Int) := by omega
        have hx2 : (sD.extract 1 sD.size).size = sD.size - 1 := by rw [ByteArray.size_extract]; omega
        by_cases c5 : P < -5
        · clear c1
          go_wp2_with fail
          go_quiet (fail)
          go_wp2_with (go_at_call 33; (with_reducible refine (ki _).mono ?_); clear ki; rintro e3 w3 ⟨Z, rfl, hZ, hzZ, hb3⟩)
          go_ret2
          refine ⟨_, d, e, rfl, ?_, HD.out, below_step (below_dr hb1 _) hb3⟩
          rw [H1.out, bts_append, bts_append, bts_append, bts_append, bts_append, hZ, bts_head, bts_tail, Hs0.out, Hd.out, if_pos c2]
          simp [List.append_assoc]
          rfl
        · have c6 : 21 < P := by omega
          clear c1
          go_wp2_with fail
          go_quiet (fail)
          go_wp2_with (go_at_call 33; (with_reducible refine (ki _).mono ?_); clear ki; rintro e3 w3 ⟨Z, rfl, hZ, hzZ, hb3⟩)
          go_ret2
          refine ⟨_, d, e, rfl, ?_, HD.out, below_step (below_dr hb1 _) hb3⟩
          rw [H1.out, bts_append, bts_append, bts_append, bts_append, bts_append, hZ, bts_head, bts_tail, Hs0.out, Hd.out, if_pos c2]
          simp [List.append_assoc]
          rfl
      · have c2I : ¬ (1 : Int) < (sD.size : Int) := by omega
        have hd1 : d.take 1 = d := List.take_of_length_le (by omega)
        by_cases c5 : P < -5
        · clear c1
          go_wp2_with (go_at_call 33; (with_reducible refine (ki _).mono ?_); clear ki; rintro e3 w3 ⟨Z, rfl, hZ, hzZ, hb3⟩)
          go_ret2
          refine ⟨_, d, e, rfl, ?_, HD.out, below_step hb1 hb3⟩
          rw [H1.out, bts_append, bts_append, bts_append, hZ, Hs0.out, Hd.out, if_neg c2, hd1]
          simp [List.append_assoc]
          rfl
        · have c6 : 21 < P := by omega
          clear c1
          go_wp2_with (go_at_call 33; (with_reducible refine (ki _).mono ?_); clear ki; rintro e3 w3 ⟨Z, rfl, hZ, hzZ, hb3⟩)
          go_ret2
          refine ⟨_, d, e, rfl, ?_, HD.out, below_step hb1 hb3⟩
          rw [H1.out, bts_append, bts_append, bts_append, hZ, Hs0.out, Hd.out, if_neg c2, hd1]
          simp [List.append_assoc]
          rfl
    · by_cases c3 : (d.length : Int) + e ≤ 0
      · obtain ⟨c, hc⟩ : ∃ c : Nat, (-((d.length : Int) + e)).toNat = c := ⟨_, rfl⟩
        have hwP : IntKind.i64.wrap ((sD.size : Int) + e) = -(c : Int) := by rw [IntKind.wrap_i64]; omega
        have hwN : IntKind.i64.wrap (- -(c : Int)) = (c : Int) := by rw [IntKind.wrap_i64]; omega
        have hwN2 : IntKind.i64.wrap ((c : Int)) = (c : Int) := by rw [IntKind.wrap_i64]; omega
        have hlay : lay d e = [48, 46] ++ List.replicate c 48 ++ d := by unfold lay; rw [if_neg c1, if_pos c3, hc]
        have kr := fun W => kR c W (by omega)
        have H1 : Hid _ := Lib.hid hlay
        have q1 : ¬ -(c : Int) < -5 := by omega
        have q2 : ¬ 21 < -(c : Int) := by omega
        have q3 : -(c : Int) ≤ 0 := by omega
        have hc5 : c ≤ 5 := by omega
        clear hlay hc c1 c3 kI kR
        go_wp2_with (go_at_call 34; (with_reducible refine (kr _).mono ?_); clear kr; rintro e3 w3 ⟨Z, rfl, hZ, rfl⟩; have hzZ : Z.size = c := (by rw [← bts_length, hZ, List.length_replicate]))
        go_ret2
        refine ⟨_, d, e, rfl, ?_, HD.out, hb1⟩
        rw [H1.out, bts_append, bts_append, bts_append, hZ, Hs0.out, Hd.out]
        simp [List.append_assoc]
        rfl
      · by_cases c4 : (d.length : Int) + e < d.length
        · obtain ⟨c, hc⟩ : ∃ c : Nat, ((d.length : Int) + e).toNat = c := ⟨_, rfl⟩
          have hwP : IntKind.i64.wrap ((sD.size : Int) + e) = (c : Int) := by rw [IntKind.wrap_i64]; omega
          have hlay : lay d e = d.take c ++ [46] ++ d.drop c := by unfold lay; rw [if_neg c1, if_neg c3, if_pos c4, hc]
          have H1 : Hid _ := Lib.hid hlay
          have q1 : ¬ (c : Int) < -5 := by omega
          have q2 : ¬ 21 < (c : Int) := by omega
          have q3 : ¬ (c : Int) ≤ 0 := by omega
          have q4 : ¬ (sD.size : Int) ≤ (c : Int) := by omega
          have q5 : c ≤ sD.size := by omega
          have hx1 : (sD.extract 0 c).size = c := by rw [ByteArray.size_extract]; omega
          have hx2 : (sD.extract c sD.size).size = sD.size - c := by rw [ByteArray.size_extract]; omega
          clear hlay hc c1 c3 c4 kI kR
          go_wp2_with fail
          go_quiet (fail)
          go_wp2_with fail
          go_ret2
          refine ⟨_, d, e, rfl, ?_, HD.out, below_dr hb1 _⟩
          rw [H1.out, bts_append, bts_append, bts_append, bts_head, bts_tail, Hs0.out, Hd.out]
          simp [List.append_assoc]
          rfl
        · obtain ⟨c, hc⟩ : ∃ c : Nat, ((d.length : Int) + e - d.length).toNat = c := ⟨_, rfl⟩
          have hwP : IntKind.i64.wrap ((sD.size : Int) + e) = ((d.length + c : Nat) : Int) := by rw [IntKind.wrap_i64]; omega
          obtain ⟨P, hP⟩ : ∃ P, d.length + c = P := ⟨_, rfl⟩
          rw [hP] at hwP
          have hwN : IntKind.i64.wrap ((P : Int) - (sD.size : Int)) = (c : Int) := by rw [IntKind.wrap_i64]; omega
          have hlay : lay d e = d ++ List.replicate c 48 ++ [46, 48] := by unfold lay; rw [if_neg c1, if_neg c3, if_neg c4, hc]
          have kr := fun W => kR c W (by omega)
          have H1 : Hid _ := Lib.hid hlay
          have q1 : ¬ (P : Int) < -5 := by omega
          have q2 : ¬ 21 < (P : Int) := by omega
          have q3 : ¬ (P : Int) ≤ 0 := by omega
          have q4 : (sD.size : Int) ≤ (P : Int) := by omega
          have q5 : c ≤ 21 := by omega
          clear hlay hc hP c1 c3 c4 kI kR
          go_wp2_with (go_at_call 34; (with_reducible refine (kr _).mono ?_); clear kr; rintro e3 w3 ⟨Z, rfl, hZ, rfl⟩; have hzZ : Z.size = c := (by rw [← bts_length, hZ, List.length_replicate]))
          go_ret2
          refine ⟨_, d, e, rfl, ?_, HD.out, hb1⟩
          rw [H1.out, bts_append, bts_append, bts_append, hZ, Hs0.out, Hd.out]
          simp [List.append_assoc]
          rfl
end Go.Proofs.YtffncomekbfihaaGreatDoor.Nat
