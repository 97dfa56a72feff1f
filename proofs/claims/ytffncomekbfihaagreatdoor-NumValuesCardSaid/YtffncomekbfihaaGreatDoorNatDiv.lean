/- math/bits.Div32, nat.DivSmall, nat.left, nat.Shr, nat.Shl. -/
import Derived.Test.YtffncomekbfihaaGreatDoorNatAdd
import Derived.Laws.BitsLemmas
namespace Go.Proofs.YtffncomekbfihaaGreatDoor.Nat
open Go.RowKit Go.Shelf
set_option linter.unusedVariables false
theorem or_join {a b : Nat} (ha : a < 4294967296) (hb : b < 4294967296) : Go.bits BinOp.or IntKind.u64 ((a : Int) * 4294967296) (b : Int) = ((a * 4294967296 + b : Nat) : Int) := by
  rw [bits_join .u64 64 (by decide) (fun n h0 h1 => by rw [IntKind.wrap_u64]; omega) 32 _ _ (by omega) (by omega) (by omega) (by omega) (by omega) (by omega)]; omega
theorem own_rn {w : World} {B T : Nat} {v : Value} {n : Nat} {l : List Nat} (h : w.ownsRow B T 1 v n (cv l)) : ∃ A c, v = .slice A n c ∧ n = l.length ∧ n ≤ c ∧ Rd w A l := by
  obtain ⟨A, c, e, h1, h2, h3⟩ := own_rd h
  exact ⟨A, c, by rw [e, h1], h1, by omega, h3⟩
set_option maxHeartbeats 4000000 in
set_option maxRecDepth 100000 in
theorem div32_calls (hi lo d : Nat) (w : World) (h1 : hi < d) (h2 : lo < 4294967296) (h3 : d < 4294967296) :
    Calls Tryz.prog 105 #[.int .u32 (hi : Int), .int .u32 (lo : Int), .int .u32 (d : Int)] w fun e w' => e = .returned (.tuple #[.int .u32 (((hi * 4294967296 + lo) / d : Nat) : Int), .int .u32 (((hi * 4294967296 + lo) % d : Nat) : Int)]) ∧ Below w.heap.size w w' := by
  have hj := or_join (a := hi) (b := lo) (by omega) h2
  have q1 : ¬ (d : Int) ≤ (hi : Int) := by omega
  have q2 : ¬ (d : Int) = 0 := by omega
  have hq : (hi * 4294967296 + lo) / d < 4294967296 := by rw [Nat.div_lt_iff_lt_mul (by omega)]; have := Nat.mul_le_mul_right 4294967296 h1; omega
  have hr : (hi * 4294967296 + lo) % d < 4294967296 := Nat.lt_trans (Nat.mod_lt _ (by omega)) h3
  go_enter Tryz.func105, Tryz.ntmps105
  go_wp2_with fail
  go_quiet (fail)
  go_wp2_with fail
  have e0 : (hi : Int) * 4294967296 + (lo : Int) = ((hi * 4294967296 + lo : Nat) : Int) := by omega
  have e1 : ((hi : Int) * 4294967296 + (lo : Int)) / (d : Int) % 4294967296 = (((hi * 4294967296 + lo) / d : Nat) : Int) := by
    rw [e0, ← Int.natCast_ediv]; exact Int.emod_eq_of_lt (Int.natCast_nonneg _) (Int.ofNat_lt.2 hq)
  have e2 : ((hi : Int) * 4294967296 + (lo : Int)) % (d : Int) % 4294967296 = (((hi * 4294967296 + lo) % d : Nat) : Int) := by
    rw [e0, ← Int.natCast_emod]; exact Int.emod_eq_of_lt (Int.natCast_nonneg _) (Int.ofNat_lt.2 hr)
  go_ret2
  exact ⟨by rw [← e1, ← e2]; rfl, below_dr (Below.refl _ _) _⟩
set_option maxHeartbeats 8000000 in
set_option maxRecDepth 100000 in
theorem divSmall_calls (A : Option Addr) (l : List Nat) (c d : Nat) (w : World) (hG : Good w (A, l, c)) (hO : Ok l) (h4 : tn l ≤ 4096) (hd0 : 0 < d) (hd : d < 4294967296) :
    Calls Tryz.prog 59 #[.slice A l.length c, .int .u32 (d : Int)] w fun e w' => ∃ v', e = .returned (.tuple #[v', .int .u32 ((nv l % d : Nat) : Int), .int .i64 0]) ∧ NatV w' v' (nv l / d) ∧ Below w.heap.size w w' := by
  have hle := tn_le l
  have hl := hG.2.2
  dsimp only at hl
  have hb0 := below_alloc w (.cells #[.slice A l.length c] 50)
  have k0 := fits_calls (some ⟨w.heap.size, 0, none⟩) [(A, l, c)] 1 _ (one_slat w A l c 50) (fun q hq => by simp at hq; subst hq; exact hG.below hb0) (by simp)
  rw [show ([(A, l, c)].all (fun q : Option Addr × List Nat × Nat => decide (tn q.2.1 ≤ 4096))) = true by simpa using h4] at k0
  simp only [List.length_cons, List.length_nil, Nat.zero_add] at k0
  have k1 := fun W (hb : Below w.heap.size w W) => trim_calls A l c W (hG.1.below hb) hG.2.1 hG.2.2
  have k3 := fun W (hb : Below w.heap.size w W) => clone_calls A (tl l) c W ((hG.1.below hb).take _) (by rw [tl_length]; exact Nat.le_trans hle hG.2.1) (by rw [tl_length]; exact Nat.le_trans hle hG.2.2)
  simp only [tl_length] at k3
  have hdn : ¬ (d : Int) = 0 := by omega
  go_enter Tryz.func59, Tryz.ntmps59
  go_wp2_with (first | (go_at_call 56; (with_reducible refine k0.mono ?_); clear k0; rintro e1 w1 ⟨rfl, hb1⟩; have hb4 := below_step hb0 hb1) | (go_at_call 58; (with_reducible refine (k1 _ hb4).mono ?_); clear k1; rintro e2 w3 ⟨rfl, hb5⟩; have hb6 := below_step hb4 hb5) | (go_at_call 57; (with_reducible refine (k3 _ hb6).mono ?_); clear k3; rintro e3 w4 ⟨v0, rfl, hown, hb7⟩; have hb8 := below_step hb6 hb7; have hown1 := own_le hown hb6.size; clear hown; obtain ⟨Ao, co, rfl, -⟩ := own_rn hown1))
  have hT := tl_length l
  have htop : nv ((tl l).drop (tn l)) = 0 := by rw [List.drop_of_length_le (by omega)]; rfl
  generalize tn l = n at *
  clear hb0 hb1 hb4 hb5 hb6 hb7
  go_loopg [8, 9] n (fun kq v8 v9 wr => ∃ (r : Nat) (o : List Nat), v8 = .int .u32 r ∧ v9 = .int .i64 ((kq : Int) - 1) ∧ kq ≤ n ∧ o.length = n ∧ wr.ownsRow w.heap.size 53 1 (.slice Ao n co) n (cv o) ∧ Ok o ∧ o.take kq = (tl l).take kq ∧ r < d ∧ nv ((tl l).drop kq) = d * nv (o.drop kq) + r ∧ Below w.heap.size w wr)
  case atStart => exact ⟨0, tl l, rfl, rfl, Nat.le_refl _, hT, hown1, ok_tl hO, rfl, hd0, by rw [htop]; simp, hb8⟩
  case round =>
    clear hown1 hb8 htop
    obtain ⟨r, o, rfl, rfl, hk, hol, hown, hoO, hot, hr, hov, hb⟩ := hrel
    cases gk with
    | zero =>
      rw [List.drop_zero, List.drop_zero, nv_tl hO] at hov
      have hq : nv o = nv l / d := by rw [hov, Nat.mul_add_div hd0, Nat.div_eq_of_lt hr, Nat.add_zero]
      have hm : r = nv l % d := by rw [hov, Nat.mul_add_mod, Nat.mod_eq_of_lt hr]
      have hgd := own_good (l := o) hown (by omega)
      rw [hol] at hgd
      have htn := tn_le o
      have k9 := told_calls Ao o co wr hgd.1 hoO (by omega)
      rw [hol, hq] at k9
      rw [show ((0 : Nat) : Int) - 1 = -1 from rfl]
      clear hov hq
      subst hm
      go_wp2_with (go_at_call 62; (with_reducible refine k9.mono ?_); clear k9; rintro e5 w5 ⟨v', rfl, hv, hb8⟩)
      go_ret3
      exact ⟨v', rfl, hv, below_step hb hb8⟩
    | succ i =>
      rw [show ((i + 1 : Nat) : Int) - 1 = (i : Int) by omega]
      obtain ⟨g, co2, e2⟩ := own_form hown (by omega)
      cases e2
      obtain ⟨x, hx⟩ : ∃ x, o[i]? = some x := ⟨_, List.getElem?_eq_getElem (by omega)⟩
      have hx2 : (tl l)[i]? = some x := by
        have h1 : (o.take (i + 1))[i]? = ((tl l).take (i + 1))[i]? := by rw [hot]
        rw [List.getElem?_take, List.getElem?_take, if_pos (by omega), if_pos (by omega), hx] at h1
        exact h1.symm
      have hx32 := hoO.get hx
      have hcO := hown.cellAt i (by omega)
      rw [cv_get hx] at hcO
      have hfO := hown.frozenAt i
      have him : (i : Int) < (n : Int) := by omega
      have k3 := fun W => div32_calls r x d W hr hx32 hd
      have e1 := Nat.div_add_mod (r * 4294967296 + x) d
      have hr2 := Nat.mod_lt (r * 4294967296 + x) hd0
      have hq32 : (r * 4294967296 + x) / d < 4294967296 := by rw [Nat.div_lt_iff_lt_mul hd0]; have := Nat.mul_le_mul_right 4294967296 (show r + 1 ≤ d from hr); omega
      generalize (r * 4294967296 + x) / d = q at *
      generalize (r * 4294967296 + x) % d = r2 at *
      go_wp2_with (go_at_call 105; (with_reducible refine (k3 _).mono ?_); clear k3; rintro e6 w6 ⟨rfl, hb6⟩; have hown6 := own_keep hown hb6; clear hown; have hcO6 := hown6.cellAt i (by omega); rw [cv_get hx] at hcO6; have hfO6 := hown6.frozenAt i)
      have hst := (hown6.stored i (.int .u32 (q : Int))).1
      go_roundg i
      case rel => exact ⟨r2, o.set i q, rfl, by go_num, by omega, by rw [List.length_set]; exact hol, by rw [cv_set]; exact hst, hoO.set _ _ hq32, by
          rw [List.take_set_of_le (Nat.le_refl _)]
          have h1 : (o.take (i + 1)).take i = ((tl l).take (i + 1)).take i := by rw [hot]
          rwa [List.take_take, List.take_take, Nat.min_eq_left (by omega)] at h1, hr2, by
          rw [nv_drop hx2, hov]
          have h1 : nv ((o.set i q).drop i) = q + 4294967296 * nv (o.drop (i + 1)) := by
            rw [nv_drop (List.getElem?_set_self (by omega)), List.drop_set_of_lt (by omega)]
          rw [h1, Nat.mul_add, Nat.mul_add, ← Nat.mul_assoc d, Nat.mul_comm d 4294967296, Nat.mul_assoc]
          omega, (below_step hb hb6).setCell (p := ⟨g, i, none⟩) (own_lo hown6 g rfl) _⟩
      case measure => omega
end Go.Proofs.YtffncomekbfihaaGreatDoor.Nat
