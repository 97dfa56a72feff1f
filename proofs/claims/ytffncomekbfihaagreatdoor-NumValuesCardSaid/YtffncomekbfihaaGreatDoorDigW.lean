/- nat.Digits. -/
import Derived.Test.YtffncomekbfihaaGreatDoorRev
import Derived.Test.YtffncomekbfihaaGreatDoorDecPure
import Derived.Test.YtffncomekbfihaaGreatDoorDivO
namespace Go.Proofs.YtffncomekbfihaaGreatDoor.Nat
open Go.RowKit Go.Shelf
set_option linter.unusedVariables false
/-- a step of the digits -/
theorem lo_step {q r i : Nat} (hi : i < 9) (h : 0 < r ∨ q ≠ 0) : lo (q * 10 ^ (9 - i) + r) = (48 + r % 10) :: lo (q * 10 ^ (9 - (i + 1)) + r / 10) := by
  have e : 10 ^ (9 - i) = 10 ^ (9 - (i + 1)) * 10 := by rw [← Nat.pow_succ]; congr 1; omega
  have hp := Nat.pow_pos (n := 9 - (i + 1)) (show 0 < 10 by decide)
  rw [e, ← Nat.mul_assoc]
  generalize 10 ^ (9 - (i + 1)) = p at *
  have hne : q * p * 10 + r ≠ 0 := by
    rcases h with h | h
    · omega
    · have := Nat.mul_pos (Nat.pos_of_ne_zero h) hp
      omega
  rw [lo_pos hne]
  congr 2 <;> omega
theorem lo_nil {v : Nat} : lo v = [] ↔ v = 0 := by
  constructor
  · intro h
    rcases Nat.eq_zero_or_pos v with q | q
    · exact q
    · rw [lo_pos (by omega)] at h; cases h
  · rintro rfl; exact lo_zero
def bv (l : List Nat) : List Value := l.map (fun x : Nat => Value.int .u8 (x : Int))
theorem bv_length (l : List Nat) : (bv l).length = l.length := by simp [bv]
theorem bv_append (a b : List Nat) : bv (a ++ b) = bv a ++ bv b := by simp [bv]
theorem bv_get {a : List Nat} {i x : Nat} (h : a[i]? = some x) : (bv a)[i]? = some (.int .u8 (x : Int)) := by simp [bv, h]
theorem one_u8 (x : Int) : ∀ u ∈ [Value.int .u8 x], u.oneCell' = true := fun u hu => by simp at hu; subst hu; rfl
theorem info5 : (Tryz.prog.info? 5).map (fun i => (i.zero, i.size, i.bytes)) = some (some (.int .u8 0), 1, 1) := by kernel_rfl
theorem rb_own {w : World} {B g cap n : Nat} {O : List Nat} (h : w.ownsRow B 5 1 (.slice (some ⟨g, 0, none⟩) n cap) n (bv O)) (hn : O.length = n) : RB w g O := fun j c hc => by
  have hj := (List.getElem?_eq_some_iff.1 hc).1
  refine ⟨?_, h.frozenAt j⟩
  rw [h.cellAt j (by omega)]
  exact bv_get hc
theorem lo_len {v : Nat} (h : (limbs v).length ≤ 4096) : (lo v).length ≤ 131072 := by
  have h1 := lt_limbs v
  have h2 : (4294967296 : Nat) ^ (limbs v).length ≤ 10 ^ (10 * (limbs v).length) := by
    rw [Nat.pow_mul]
    exact Nat.pow_le_pow_left (by decide) _
  exact Nat.le_trans (lo_length (Nat.lt_of_lt_of_le h1 h2)) (by omega)
theorem bits_lt (v : Nat) : v < 2 ^ (32 * (limbs v).length) := by
  have h := lt_limbs v
  rwa [pow32] at h
theorem own_sl {w : World} {B T n : Nat} {v : Value} {xs : List Value} (h : w.ownsRow B T 1 v n xs) : ∃ A c, v = .slice A n c := by
  rcases h.2 with ⟨rfl, h0⟩ | ⟨g, cap, cur, rfl, _⟩
  · exact ⟨none, 0, by rw [h0]⟩
  · exact ⟨_, cap, rfl⟩
set_option maxHeartbeats 8000000 in
set_option maxRecDepth 100000 in
theorem digits_calls (V : Value) (v : Nat) (w : World) (hA : NatA w V v) (hl : (limbs v).length ≤ 4096) :
    Calls Tryz.prog 22 #[V] w fun e w' => ∃ s, e = .returned (.tuple #[.string s, .int .i64 0]) ∧ bts s = dec v ∧ Below w.heap.size w w' := by
  obtain ⟨A, l, c, rfl, hG, hO, hv⟩ := hA
  have h4 : tn l ≤ 4096 := by rw [tn_eq hO, hv]; exact hl
  have hle := tn_le l
  have hll := hG.2.2
  dsimp only at hll
  obtain ⟨i0, hi, hz0, hz1, hz2⟩ := info_parts info5
  have hb0 := below_alloc w (.cells #[.slice A l.length c] 50)
  have k0 := fits_calls (some ⟨w.heap.size, 0, none⟩) [(A, l, c)] 1 _ (one_slat w A l c 50) (fun q hq => by simp at hq; subst hq; exact hG.below hb0) (by simp)
  rw [show ([(A, l, c)].all (fun q : Option Addr × List Nat × Nat => decide (tn q.2.1 ≤ 4096))) = true by simpa using h4] at k0
  simp only [List.length_cons, List.length_nil, Nat.zero_add] at k0
  have k1 := fun W (hb : Below w.heap.size w W) => trim_calls A l c W (hG.1.below hb) hG.2.1 hG.2.2
  have k3 := fun W (hb : Below w.heap.size w W) => clone_calls A (tl l) c W ((hG.1.below hb).take _) (by rw [tl_length]; exact Nat.le_trans hle hG.2.1) (by rw [tl_length]; exact Nat.le_trans hle hG.2.2)
  simp only [tl_length] at k3
  have hlo := lo_len hl
  have HO : Hid _ := Lib.hid (And.intro hO hv)
  have Hlo : Hid _ := Lib.hid hlo
  clear hle hll hv hlo h4 hG hO
  go_enter Tryz.func22, Tryz.ntmps22
  go_wp2_with (first | (go_at_call 56; (with_reducible refine k0.mono ?_); clear k0; rintro e1 w1 ⟨rfl, hb1⟩; have hb4 := below_step hb0 hb1) | (go_at_call 58; (with_reducible refine (k1 _ hb4).mono ?_); clear k1; rintro e2 w3 ⟨rfl, hb5⟩; have hb6 := below_step hb4 hb5) | (go_at_call 57; (with_reducible refine (k3 _ hb6).mono ?_); clear k3; rintro e3 w4 ⟨v0, rfl, hown, hb7⟩; have hb8 := below_step hb6 hb7; have hnv := own_ownn HO.out.1 hown; rw [HO.out.2] at hnv; clear hown hb7 hb6 hb5 hb4 hb1 hb0 HO))
  obtain ⟨K, hK⟩ : ∃ K, K = 131072 := ⟨_, rfl⟩
  have hvK : v < 2 ^ K := Nat.lt_of_lt_of_le (bits_lt v) (Nat.pow_le_pow_right (by decide) (by omega))
  clear hK
  go_loopg [4, 5] K (fun kq v4 v5 wr => ∃ (vc : Nat) (O : List Nat), OwnN wr v4 vc ∧ wr.ownsRow w.heap.size 5 1 v5 O.length (bv O) ∧ lo v = O ++ lo vc ∧ (limbs vc).length ≤ 4096 ∧ vc < 2 ^ kq ∧ Below w.heap.size w wr)
  case atStart => exact ⟨v, [], hnv, World.ownsRow_nil _ _ _ _, rfl, hl, hvK, hb8⟩
  case round =>
    clear hnv hb8 hl hvK
    obtain ⟨vc, O, hV, hown, hlov, hl, hvk, hb⟩ := hrel
    obtain ⟨A2, c2, rfl, hc2, hR2⟩ := hV.natv
    by_cases h0 : vc = 0
    · have hz : (limbs vc).length = 0 := limbs_len_zero.2 h0
      clear hV
      rw [hz]
      subst h0
      rw [lo_zero, List.append_nil] at hlov
      have hOl : O.length ≤ 131072 := by rw [← hlov]; exact Hlo.out
      clear Hlo hl hvk hR2 hc2 hz
      by_cases hO0 : O.length = 0
      · obtain ⟨A5, c5, rfl⟩ := own_sl hown
        have hd : dec v = [48] := by
          have : O = [] := List.length_eq_zero_iff.1 hO0
          rw [this] at hlov
          rw [lo_nil.1 hlov]
          rfl
        rw [hO0]
        clear hown hlov hOl
        go_wp2
        go_ret2
        exact ⟨_, rfl, by rw [hd]; rfl, hb⟩
      · obtain ⟨g5, c5, rfl⟩ := own_form hown (by omega)
        have hg : w.heap.size ≤ g5 := own_lo hown g5 rfl
        have hRB := rb_own hown rfl
        have hvne : v ≠ 0 := fun q => hO0 (by rw [← hlov, q, lo_zero]; rfl)
        have hd : dec v = O.reverse := by unfold dec; rw [if_neg hvne, hlov]
        have kr := rev_calls g5 c5 w.heap.size O wr hg hRB (by omega)
        have hdg : Dgs O := hlov ▸ dgs_lo v
        have hlt : ∀ c ∈ O.reverse, c < 256 := fun c hc => by have := hdg c (List.mem_reverse.1 hc); omega
        have kc := fun W (h : RB W g5 O.reverse) => rb_string (P := Tryz.prog) (cap := c5) (src := 73) (dst := 9) Tryz.underlying73 Tryz.underlying5 Tryz.underlying9 h hlt
        rw [List.length_reverse] at kc
        have hbt : bts (ofB O.reverse) = dec v := by rw [bts_ofB hlt, hd]
        generalize ofB O.reverse = Z at *
        have HZ : Hid _ := Lib.hid hbt
        have hOI : ¬ (O.length : Int) = 0 := by omega
        clear hown hlov hRB hd hdg hlt hbt hvne
        go_wp2_with (go_at_call 60; (with_reducible refine kr.mono ?_); clear kr; rintro e5 w5 ⟨rfl, hR5, hb5⟩; have kc5 := kc _ hR5; clear kc)
        go_ret2
        exact ⟨Z, rfl, HZ.out, hb.trans hb5⟩
    · cases gk with
      | zero => exfalso; rw [Nat.pow_zero] at hvk; omega
      | succ d =>
        have hz : (limbs vc).length ≠ 0 := fun q => h0 (limbs_len_zero.1 q)
        have hzI : (0 : Int) < ((limbs vc).length : Int) := by omega
        have k5 := divs_o (w := wr) (V := .slice A2 (limbs vc).length c2) (d := 1000000000) (NatV.a (⟨A2, c2, rfl, hc2, hR2⟩ : NatV wr (.slice A2 (limbs vc).length c2) vc) hl) hl (by decide) (by decide)
        rw [show ((1000000000 : Nat) : Int) = 1000000000 from rfl] at k5
        have hq4 : (limbs (vc / 1000000000)).length ≤ 4096 := Nat.le_trans (limbs_len_mono (Nat.div_le_self _ _)) hl
        have hqd : vc / 1000000000 < 2 ^ d := by rw [Nat.pow_succ] at hvk; omega
        have hvq : lo v = O ++ lo (vc / 1000000000 * 10 ^ 9 + vc % 1000000000) := by rw [hlov]; congr 2; omega
        have hr9 : vc % 1000000000 < 10 ^ 9 := by omega
        generalize vc / 1000000000 = q at *
        generalize vc % 1000000000 = r at *
        have HQ : Hid _ := Lib.hid (And.intro hq4 (And.intro hqd (And.intro hvq hr9)))
        clear hlov hvk hq4 hqd hvq hr9 hl hz hc2 hR2 hV
        go_wp2_with (go_at_call 59; (with_reducible refine k5.mono ?_); clear k5; rintro e5 w5 ⟨v5, rfl, hv5, hb5⟩; have hown5 := own_keep hown hb5; have hbB := below_step hb hb5; clear hown hb hb5)
        obtain ⟨A6, c6, rfl⟩ := own_sl hv5
        have hR6 : OwnN w5 (.slice A6 (limbs q).length c6) q := hv5
        clear hv5
        go_loopg [5, 6, 7] 9 (fun kq v5 v6 v7 wr2 => ∃ (i rc : Nat) (O2 : List Nat), v7 = .int .i64 i ∧ v6 = .int .u32 rc ∧ i + kq = 9 ∧ rc < 10 ^ kq ∧ OwnN wr2 (.slice A6 (limbs q).length c6) q ∧ wr2.ownsRow w.heap.size 5 1 v5 O2.length (bv O2) ∧ lo v = O2 ++ lo (q * 10 ^ (9 - i) + rc) ∧ Below w.heap.size w wr2)
        case atStart => exact ⟨0, r, O, rfl, rfl, rfl, HQ.out.2.2.2, hR6, hown5, HQ.out.2.2.1, hbB⟩
        case round =>
          clear hR6 hown5 hbB
          obtain ⟨i, rc, O2, rfl, rfl, hik, hrc, hR7, hown, hlo2, hb⟩ := hrel
          have HQ4 : Hid _ := Lib.hid HQ.out.1
          have HQd : Hid _ := Lib.hid HQ.out.2.1
          clear HQ
          cases gk with
          | zero =>
            obtain rfl : i = 9 := by omega
            have hr0 : rc = 0 := by rw [Nat.pow_zero] at hrc; omega
            subst hr0
            rw [Nat.sub_self, Nat.pow_zero, Nat.mul_one, Nat.add_zero] at hlo2
            go_wp2
            go_roundg d
            case rel => exact ⟨q, O2, hR7, hown, hlo2, HQ4.out, HQd.out, hb⟩
            case measure => omega
          | succ k2 =>
            have hi9 : (i : Int) < 9 := by omega
            by_cases hdone : rc = 0 ∧ q = 0
            · obtain ⟨rfl, rfl⟩ := hdone
              have hz : (limbs 0).length = 0 := limbs_len_zero.2 rfl
              rw [Nat.zero_mul] at hlo2
              rw [hz] at hR7 ⊢
              go_wp2
              go_roundg d
              case rel => exact ⟨0, O2, hR7, hown, hlo2, HQ4.out, HQd.out, hb⟩
              case measure => omega
            · have hgo : 0 < rc ∨ q ≠ 0 := by omega
              rw [lo_step (by omega) hgo] at hlo2
              have hlen : O2.length ≤ 131072 := by have := Hlo.out; rw [hlo2, List.length_append] at this; omega
              obtain ⟨C, hC⟩ : ∃ C, 48 + rc % 10 = C := ⟨_, rfl⟩
              obtain ⟨D, hD⟩ : ∃ D, rc / 10 = D := ⟨_, rfl⟩
              have hrc32 : rc < 4294967296 := Nat.lt_of_lt_of_le hrc (Nat.le_trans (Nat.pow_le_pow_right (n := 10) (j := 9) (by decide) (by omega)) (by decide))
              have hc1 : IntKind.u32.wrap (48 + (rc : Int) % 10) = (C : Int) := by rw [IntKind.wrap_u32]; omega
              have hc2 : IntKind.u8.wrap (C : Int) = (C : Int) := by rw [IntKind.wrap_u8]; omega
              have hdt : Int.tdiv (rc : Int) 10 = (D : Int) := by rw [Int.tdiv_eq_ediv_of_nonneg (by omega)]; omega
              have hwD : IntKind.u32.wrap (D : Int) = (D : Int) := by rw [IntKind.wrap_u32]; omega
              have hDk : D < 10 ^ k2 := by rw [Nat.pow_succ] at hrc; omega
              rw [hC, hD] at hlo2
              have H2 : Hid _ := Lib.hid (And.intro hlo2 hDk)
              have hsz := hb.size
              have hown2 := hown.alloc (.cells #[.int .u8 (C : Int)] 5)
              have hx2 := World.ownsRow.alloc hR7 (.cells #[.int .u8 (C : Int)] 5)
              have hap := own_apart hx2 hown2 (by decide)
              clear hlo2 hDk hrc Hlo
              by_cases hr0 : rc = 0
              · have hq0 : q ≠ 0 := by omega
                subst hr0
                have hC48 : C = 48 := by omega
                have hD0 : D = 0 := by omega
                subst hC48 hD0
                clear hc1 hdt
                have hql : (0 : Int) < ((limbs q).length : Int) := by have : (limbs q).length ≠ 0 := fun z => hq0 (limbs_len_zero.1 z); omega
                clear hown2 hx2 hap
                have hown2 := hown.alloc (.cells #[.int .u8 48] 5)
                have hx2 := World.ownsRow.alloc hR7 (.cells #[.int .u8 48] 5)
                have hap := own_apart hx2 hown2 (by decide)
                clear hC hD
                go_wp2_with (at_builtin; refine wpList_append_own _ rfl _ _ 73 rfl w.heap.size 5 i0 (.int .u8 0) 1 1 Tryz.underlying73 hi hz0 hz1 hz2 rfl (by decide) _ _ _ rfl hown2 ⟨wr.heap.size, 0, none⟩ 1 1 [.int .u8 48] rfl rfl (cell_one_new _ _ _) (one_u8 48) (by unfold maxLen; omega) (by omega) (by rw [World.size_alloc]; omega) ?_; intro v' w9 hown5 hgrow5 _; have hb9 := (hb.alloc hsz (.cells #[.int .u8 48] 5)).grown hgrow5 (by rw [World.size_alloc]; omega) (own_lo hown2); have hx9 : OwnN w9 (.slice A6 (limbs q).length c6) q := hx2.kept hgrow5 hap)
                obtain ⟨g5, cap5, rfl⟩ := own_form hown5 (by omega)
                go_roundg k2
                case rel => exact ⟨i + 1, 0, O2 ++ [48], by go_num, rfl, by omega, H2.out.2, hx9, by rw [bv_append, List.length_append]; exact hown5, by rw [List.append_assoc]; exact H2.out.1, hb9⟩
                case measure => omega
              · have hr0I : (0 : Int) < (rc : Int) := by omega
                clear hC hD
                go_wp2_with (at_builtin; refine wpList_append_own _ rfl _ _ 73 rfl w.heap.size 5 i0 (.int .u8 0) 1 1 Tryz.underlying73 hi hz0 hz1 hz2 rfl (by decide) _ _ _ rfl hown2 ⟨wr.heap.size, 0, none⟩ 1 1 [.int .u8 (C : Int)] rfl rfl (cell_one_new _ _ _) (one_u8 C) (by unfold maxLen; omega) (by omega) (by rw [World.size_alloc]; omega) ?_; intro v' w9 hown5 hgrow5 _; have hb9 := (hb.alloc hsz (.cells #[.int .u8 (C : Int)] 5)).grown hgrow5 (by rw [World.size_alloc]; omega) (own_lo hown2); have hx9 : OwnN w9 (.slice A6 (limbs q).length c6) q := hx2.kept hgrow5 hap)
                obtain ⟨g5, cap5, rfl⟩ := own_form hown5 (by omega)
                go_roundg k2
                case rel => exact ⟨i + 1, D, O2 ++ [C], by go_num, rfl, by omega, H2.out.2, hx9, by rw [bv_append, List.length_append]; exact hown5, by rw [List.append_assoc]; exact H2.out.1, hb9⟩
                case measure => omega
end Go.Proofs.YtffncomekbfihaaGreatDoor.Nat
