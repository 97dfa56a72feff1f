/- nat.take, nat.Sub. -/
import Derived.Test.YtffncomekbfihaaGreatDoorFdec1
namespace Go.Proofs.YtffncomekbfihaaGreatDoor.Nat
open Go.RowKit Go.Shelf
set_option linter.unusedVariables false
set_option linter.unusedSimpArgs false
theorem take_val (old borrow y : Nat) (h2 : old < 4294967296) (h3 : borrow ≤ 1) (h4 : y < 4294967296) : ∃ x' b' : Nat, IntKind.u64.wrap (IntKind.u64.wrap ((old : Int) - (borrow : Int)) - (y : Int)) % 4294967296 = (x' : Int) ∧
    IntKind.u64.wrap (IntKind.u64.wrap ((old : Int) - (borrow : Int)) - (y : Int)) / 9223372036854775808 = (b' : Int) ∧ b' ≤ 1 ∧ x' < 4294967296 ∧ old + b' * 4294967296 = borrow + y + x' := by
  rw [IntKind.wrap_u64, IntKind.wrap_u64]
  rcases Nat.lt_or_ge old (borrow + y) with h | h
  · exact ⟨old + 4294967296 - borrow - y, 1, by omega, by omega, by omega, by omega, by omega⟩
  · exact ⟨old - borrow - y, 0, by omega, by omega, by omega, by omega, by omega⟩
theorem take_val0 (old borrow : Nat) (h2 : old < 4294967296) (h3 : borrow ≤ 1) : ∃ x' b' : Nat, IntKind.u64.wrap ((old : Int) - (borrow : Int)) % 4294967296 = (x' : Int) ∧
    IntKind.u64.wrap ((old : Int) - (borrow : Int)) / 9223372036854775808 = (b' : Int) ∧ b' ≤ 1 ∧ x' < 4294967296 ∧ old + b' * 4294967296 = borrow + x' := by
  rw [IntKind.wrap_u64]
  rcases Nat.lt_or_ge old borrow with h | h
  · exact ⟨old + 4294967296 - borrow, 1, by omega, by omega, by omega, by omega, by omega⟩
  · exact ⟨old - borrow, 0, by omega, by omega, by omega, by omega, by omega⟩
theorem take_step {N L B0 S E old y borrow b' x' : Nat} (h : N + L = B0 + borrow * E) (hs : S + E * old = N + E * x') (hb : old + b' * 4294967296 = borrow + y + x') : S + (L + E * y) = B0 + b' * (E * 4294967296) := by
  have h1 : E * (old + b' * 4294967296) = E * (borrow + y + x') := by rw [hb]
  rw [Nat.mul_add, Nat.mul_add, Nat.mul_add] at h1
  have h2 : E * (b' * 4294967296) = b' * (E * 4294967296) := by rw [Nat.mul_left_comm]
  have h3 : E * borrow = borrow * E := Nat.mul_comm _ _
  omega
set_option maxHeartbeats 8000000 in
set_option maxRecDepth 100000 in
theorem take_calls (Ao : Option Addr) (co : Nat) (o : List Nat) (A' : Option Addr) (l' : List Nat) (c' : Nat) (w0 w : World) (hG' : Good w0 (A', l', c')) (hb : Below w0.heap.size w0 w)
    (hown : w.ownsRow w0.heap.size 53 1 (.slice Ao o.length co) o.length (cv o)) (hO : Ok o) (hO' : Ok l') (hn : o.length ≤ 4096) (hl' : l'.length ≤ o.length) (hle : nv l' ≤ nv o) :
    Calls Tryz.prog 89 #[.slice Ao o.length co, .slice A' l'.length c'] w fun e w' => e = .returned (.tuple #[]) ∧ ∃ o', o'.length = o.length ∧ Ok o' ∧ nv o' = nv o - nv l' ∧ w'.ownsRow w0.heap.size 53 1 (.slice Ao o.length co) o.length (cv o') ∧ Below w0.heap.size w0 w' := by
  obtain ⟨n, hnn⟩ : ∃ n, o.length = n := ⟨_, rfl⟩
  rw [hnn] at hown hn hl' ⊢
  go_enter Tryz.func89, Tryz.ntmps89
  go_wp2
  go_loopg [4, 9] n (fun kq v4 v9 wr => ∃ (i borrow : Nat) (o2 : List Nat), v9 = .int .i64 i ∧ v4 = .int .u64 borrow ∧ i + kq = n ∧ borrow ≤ 1 ∧ o2.length = n ∧ wr.ownsRow w0.heap.size 53 1 (.slice Ao n co) n (cv o2) ∧ Ok o2 ∧ Hid (nv o2 + nv (l'.take i) = nv o + borrow * 4294967296 ^ i) ∧ Below w0.heap.size w0 wr)
  case atStart => exact ⟨0, 0, o, rfl, rfl, by omega, by decide, hnn, hown, hO, Lib.hid (by rw [List.take_zero]; simp [nv]), hb⟩
  case round =>
    clear hown hb
    obtain ⟨i, borrow, o2, rfl, rfl, hi, hbo, hol, hown, hO2, HV, hb⟩ := hrel
    cases gk with
    | zero =>
      obtain rfl : i = n := by omega
      have hv := HV.out
      rw [List.take_of_length_le hl'] at hv
      have h1 := nv_lt hO2
      rw [hol] at h1
      have hb0 : borrow = 0 := by
        rcases Nat.eq_zero_or_pos borrow with q | q
        · exact q
        · exfalso
          obtain rfl : borrow = 1 := by omega
          rw [Nat.one_mul] at hv
          omega
      subst hb0
      have HF : Hid _ := Lib.hid (show nv o2 = nv o - nv l' by omega)
      clear hv h1 HV
      go_wp2
      go_end0
      exact ⟨rfl, o2, hol, hO2, HF.out, hown, hb⟩
    | succ d =>
      obtain ⟨g, co2, e2⟩ := own_form hown (by omega)
      cases e2
      obtain ⟨old, hold⟩ : ∃ old, o2[i]? = some old := ⟨_, List.getElem?_eq_getElem (by omega)⟩
      have hold32 := hO2.get hold
      have hcO := hown.cellAt i (by omega)
      rw [cv_get hold] at hcO
      have hfO := hown.frozenAt i
      have him : (i : Int) < (n : Int) := by omega
      by_cases hix : i < l'.length
      · obtain ⟨ad', y, rfl, hy, hcell'⟩ := hG'.1.at (j := i) (by dsimp only; omega)
        dsimp only at hy
        have hy32 := hO'.get hy
        have y' := (hb.cell (World.block_lt_of_cell? _ _ hcell')).trans hcell'
        have hixI : (i : Int) < (l'.length : Int) := by omega
        obtain ⟨x', b', s1, s2, s3, s4, s5⟩ := take_val old borrow y hold32 hbo hy32
        have hst := (hown.stored i (.int .u32 (x' : Int))).1
        have hs := nv_set x' hold
        have hnew := take_step HV.out hs s5
        rw [← nv_take_succ hy, ← Nat.pow_succ] at hnew
        have HN : Hid _ := Lib.hid hnew
        clear hs hnew HV s5 hcell' hy hold
        go_wp2
        go_roundg d
        case rel => exact ⟨i + 1, b', o2.set i x', by go_num, rfl, by omega, s3, by rw [List.length_set]; exact hol, by rw [cv_set]; exact hst, hO2.set _ _ s4, HN, hb.setCell (p := ⟨g, i, none⟩) (own_lo hown g rfl) _⟩
        case measure => omega
      · have hixI : ¬ (i : Int) < (l'.length : Int) := by omega
        obtain ⟨x', b', s1, s2, s3, s4, s5⟩ := take_val0 old borrow hold32 hbo
        have hst := (hown.stored i (.int .u32 (x' : Int))).1
        have hs := nv_set x' hold
        have hnew := take_step (y := 0) HV.out hs (by omega)
        rw [Nat.mul_zero, Nat.add_zero, ← Nat.pow_succ, List.take_of_length_le (by omega)] at hnew
        have HN : Hid (nv (o2.set i x') + nv (l'.take (i + 1)) = nv o + b' * 4294967296 ^ (i + 1)) := Lib.hid (by rw [List.take_of_length_le (by omega)]; exact hnew)
        clear hs hnew HV s5 hold
        go_wp2
        go_roundg d
        case rel => exact ⟨i + 1, b', o2.set i x', by go_num, rfl, by omega, s3, by rw [List.length_set]; exact hol, by rw [cv_set]; exact hst, hO2.set _ _ s4, HN, hb.setCell (p := ⟨g, i, none⟩) (own_lo hown g rfl) _⟩
        case measure => omega
set_option maxHeartbeats 8000000 in
set_option maxRecDepth 100000 in
theorem sub_a {w : World} {V1 V2 : Value} {a b : Nat} (h1 : NatA w V1 a) (h2 : NatA w V2 b) (hl : (limbs a).length ≤ 4096) (hab : b ≤ a) :
    Calls Tryz.prog 40 #[V1, V2] w fun e w' => ∃ v', e = .returned (.tuple #[v', .int .i64 0]) ∧ NatV w' v' (a - b) ∧ Below w.heap.size w w' := by
  have kcmp := fun W (hb : Below w.heap.size w W) => cmp_a (h1.below hb) (h2.below hb)
  obtain ⟨A, l, c, rfl, hG, hO, rfl⟩ := h1
  obtain ⟨A', l', c', rfl, hG', hO', rfl⟩ := h2
  have hll := limbs_len_mono hab
  have t1 : tn l ≤ 4096 := by rw [tn_eq hO]; exact hl
  have t2 : tn l' ≤ 4096 := by rw [tn_eq hO']; omega
  have hle := tn_le l
  have hle' := tn_le l'
  have htt : tn l' ≤ tn l := by rw [tn_eq hO, tn_eq hO']; exact hll
  have hl4 := hG.2.2
  dsimp only at hl4
  have hcn : ¬ cmpI (nv l) (nv l') < 0 := by
    unfold cmpI
    rw [if_neg (by omega)]
    split <;> decide
  have hb0 := below_alloc w (.cells #[.slice A l.length c, .slice A' l'.length c'] 50)
  have k0 := fits_calls (some ⟨w.heap.size, 0, none⟩) [(A, l, c), (A', l', c')] 2 _ (two_slat w A l c A' l' c' 50) (fun q hq => by
    simp at hq
    rcases hq with rfl | rfl
    · exact hG.below hb0
    · exact hG'.below hb0) (by simp)
  rw [show ([(A, l, c), (A', l', c')].all (fun q : Option Addr × List Nat × Nat => decide (tn q.2.1 ≤ 4096))) = true by simp [t1, t2]] at k0
  simp only [List.length_cons, List.length_nil, Nat.zero_add] at k0
  have k1 := fun W (hb : Below w.heap.size w W) => trim_calls A l c W (hG.1.below hb) hG.2.1 hG.2.2
  have k2 := fun W (hb : Below w.heap.size w W) => trim_calls A' l' c' W (hG'.1.below hb) hG'.2.1 hG'.2.2
  have k3 := fun W (hb : Below w.heap.size w W) => clone_calls A (tl l) c W ((hG.1.below hb).take _) (by rw [tl_length]; exact Nat.le_trans hle hG.2.1) (by rw [tl_length]; exact Nat.le_trans hle hG.2.2)
  simp only [tl_length] at k3
  have hGt : Good w (A', tl l', c') := ⟨hG'.1.take _, by rw [tl_length]; exact Nat.le_trans hle' hG'.2.1, by rw [tl_length]; exact Nat.le_trans hle' hG'.2.2⟩
  have kt : ∀ Ao co W, Below w.heap.size w W → W.ownsRow w.heap.size 53 1 (.slice Ao (tn l) co) (tn l) (cv (tl l)) → Calls Tryz.prog 89 #[.slice Ao (tn l) co, .slice A' (tn l') c'] W fun e w' => e = .returned (.tuple #[]) ∧ ∃ o', o'.length = tn l ∧ Ok o' ∧ nv o' = nv l - nv l' ∧ w'.ownsRow w.heap.size 53 1 (.slice Ao (tn l) co) (tn l) (cv o') ∧ Below w.heap.size w w' := fun Ao co W hb hown => by
    have h := take_calls Ao co (tl l) A' (tl l') c' w W hGt hb (by rw [tl_length]; exact hown) (ok_tl hO) (ok_tl hO') (by rw [tl_length]; exact t1) (by rw [tl_length, tl_length]; exact htt) (by rw [nv_tl hO, nv_tl hO']; exact hab)
    rw [tl_length, tl_length, nv_tl hO, nv_tl hO'] at h
    exact h
  have HT1 : Hid _ := Lib.hid t1
  clear hll hab hl t1 t2 hle hle' htt hl4 hG hG' hO hO' hGt
  go_enter Tryz.func40, Tryz.ntmps40
  go_wp2_with (first
    | (go_at_call 56; (with_reducible refine k0.mono ?_); clear k0; rintro e1 w1 ⟨rfl, hb1⟩; have hb2 := below_step hb0 hb1)
    | (go_at_call 23; (with_reducible refine (kcmp _ hb2).mono ?_); clear kcmp; rintro e2 w2 ⟨rfl, hb3⟩; have hb4 := below_step hb2 hb3)
    | (go_at_call 58; (with_reducible refine (k1 _ hb4).mono ?_); clear k1; rintro e3 w3 ⟨rfl, hb5⟩; have hb6 := below_step hb4 hb5)
    | (go_at_call 57; (with_reducible refine (k3 _ hb6).mono ?_); clear k3; rintro e4 w4 ⟨v0, rfl, hown, hb7⟩; have hb8 := below_step hb6 hb7; have hown1 := own_le hown hb6.size; clear hown; obtain ⟨Ao, co, rfl, -⟩ := own_rn hown1)
    | (go_at_call 58; (with_reducible refine (k2 _ hb8).mono ?_); clear k2; rintro e5 w5 ⟨rfl, hb9⟩; have hb10 := below_step hb8 hb9; have hown2 := own_keep hown1 hb9)
    | (go_at_call 89; (with_reducible refine (kt _ _ _ hb10 hown2).mono ?_); clear kt; rintro e6 w6 ⟨rfl, o', ho1, ho2, ho3, ho4, hb11⟩; have hgd := own_good (l := o') ho4 (by have := HT1.out; omega); have k9 := told_calls Ao o' co w6 hgd.1 ho2 (Nat.le_trans (tn_le o') (by have := HT1.out; omega)); rw [ho1, ho3] at k9; clear ho1 ho3 ho2 hgd)
    | (go_at_call 62; (with_reducible refine k9.mono ?_); clear k9; rintro e7 w7 ⟨v', rfl, hv, hb12⟩))
  go_ret2
  exact ⟨v', rfl, hv, below_step hb11 hb12⟩
end Go.Proofs.YtffncomekbfihaaGreatDoor.Nat
