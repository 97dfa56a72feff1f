/- glossatorref01: Trim, Cmp, at, sum. glossatorref01: Times. glossatorref01: less, long, Sub, Power; glossatorref06.two. glossatorref01: long, Sub, Bits; glossatorref06: quot, over. -/
import Derived.Test.YtffncomekbfihaaGreatDoorDivO
import Derived.Deep.RegionHeld
import Derived.Test.YtffncomekbfihaaGreatDoorNatSub
import Derived.Test.YtffncomekbfihaaGreatDoorFdec3
import Derived.Test.YtffncomekbfihaaGreatDoorNearMore
namespace Go.Proofs.YtffncomekbfihaaGreatDoor.Nat
open Go.RowKit Go.Shelf
set_option linter.unusedVariables false
set_option linter.unusedSimpArgs false
theorem cv_tl {l : List Nat} {j : Nat} {u : Value} (h : (cv (tl l))[j]? = some u) : (cv l)[j]? = some u := by
  unfold cv at *
  rw [List.getElem?_map] at *
  obtain ⟨x, hx, rfl⟩ := Option.map_eq_some_iff.1 h
  have hj := (List.getElem?_eq_some_iff.1 hx).1
  rw [tl_length] at hj
  rw [tl_get hj] at hx
  rw [hx]
  rfl
theorem one_cv' (l : List Nat) : ∀ u ∈ cv l, u.oneCell' = true := fun u hu => by
  obtain ⟨x, _, rfl⟩ := List.mem_map.1 hu
  rfl
set_option maxHeartbeats 8000000 in
set_option maxRecDepth 100000 in
theorem rtrim_calls (A : Option Addr) (l : List Nat) (c : Nat) (w : World) (hR : Rd w A l) (hc : l.length ≤ c) (hl : l.length ≤ 1099511627776) :
    Calls Tryz.prog 109 #[.slice A l.length c] w fun e w' => ∃ v', e = .returned v' ∧ w'.ownsRow w.heap.size 53 1 v' (tn l) (cv (tl l)) ∧ Below w.heap.size w w' := by
  obtain ⟨i0, hi, hz0, hz1, hz2⟩ := info_parts info40
  have hb0 := Below.refl w.heap.size w
  go_enter Tryz.func109, Tryz.ntmps109
  go_wp2
  go_loopg [3] l.length (fun kq v3 wr => v3 = .int .i64 kq ∧ kq ≤ l.length ∧ (∀ (j x : Nat), kq ≤ j → l[j]? = some x → x = 0) ∧ wr = w)
  case atStart => exact ⟨rfl, Nat.le_refl _, (fun j x hj hx => (by have := (List.getElem?_eq_some_iff.1 hx).1; omega)), rfl⟩
  case round =>
    obtain ⟨rfl, hk, hz, rfl⟩ := hrel
    have hcells : ∀ (ad : Addr), A = some ad → ∀ (i : Nat) (u : Value), (cv l)[i]? = some u → wr.cell? (ad.add i) = some u := fun ad e i u hu => by
      unfold cv at hu
      rw [List.getElem?_map] at hu
      obtain ⟨x, hx, rfl⟩ := Option.map_eq_some_iff.1 hu
      obtain ⟨ad2, e2, hcx⟩ := hR i x hx
      rw [e] at e2
      cases e2; exact hcx
    have HC : Hid _ := Lib.hid hcells
    clear hcells
    have hmade : (wr.alloc (.cells #[] 53)).ownsRow wr.heap.size 53 1 (.slice (some ⟨wr.heap.size, 0, none⟩) 0 0) 0 [] := World.ownsRow_made wr #[] 0 (Nat.le_refl _) (Nat.zero_le _) rfl
    cases gk with
    | zero =>
      have e : tn l = 0 := tn_of (Nat.zero_le _) hz (.inl rfl)
      have et : tl l = [] := by unfold tl; rw [e]; rfl
      have HE : Hid _ := Lib.hid (And.intro e et)
      clear e et hz
      cases A with
      | none =>
        go_wp2
        go_ret
        exact ⟨_, rfl, by rw [HE.out.1, HE.out.2]; exact hmade, below_alloc wr _⟩
      | some ad =>
        go_wp2_with (at_builtin; refine wpList_append_own _ rfl _ _ 50 rfl wr.heap.size 53 i0 (.int .u32 0) 1 4 Tryz.underlying50 hi hz0 hz1 hz2 rfl (by decide) _ _ _ rfl hmade ad 0 c (cv (tl l)) rfl (by rw [cv_length, tl_length]; have := HE.out.1; omega) (fun j u hj => Lib.cell?_alloc_some _ (HC.out ad rfl j u (cv_tl hj))) (one_cv' _) (by unfold maxLen; omega) (by omega) (by simp) ?_; intro v' w9 hown9 hgrow9 _; have hb9 := ((Below.refl wr.heap.size wr).alloc (Nat.le_refl _) (.cells #[] 53)).grown hgrow9 (by simp) (own_lo hmade))
        go_ret
        exact ⟨v', rfl, by rw [HE.out.1]; simpa using hown9, hb9⟩
    | succ d =>
      obtain ⟨ad, x, rfl, hx, hcell⟩ := hR.at (j := d) (by omega)
      by_cases h0 : x = 0
      · subst h0
        go_wp2
        go_roundg d
        case rel => exact ⟨rfl, by omega, (fun j x hj hx2 => by
          rcases Nat.lt_or_ge d j with h | h
          · exact hz j x h hx2
          · obtain rfl : j = d := by omega
            rw [hx] at hx2; cases hx2; rfl), rfl⟩
        case measure => omega
      · have e : tn l = d + 1 := tn_of hk hz (.inr ⟨x, by simpa using hx, h0⟩)
        have HE : Hid _ := Lib.hid e
        have hxI : ¬ (x : Int) = 0 := by omega
        clear e hz h0
        go_wp2_with (at_builtin; refine wpList_append_own _ rfl _ _ 50 rfl wr.heap.size 53 i0 (.int .u32 0) 1 4 Tryz.underlying50 hi hz0 hz1 hz2 rfl (by decide) _ _ _ rfl hmade ad (d + 1) c (cv (tl l)) rfl (by rw [cv_length, tl_length]; have := HE.out; omega) (fun j u hj => Lib.cell?_alloc_some _ (HC.out ad rfl j u (cv_tl hj))) (one_cv' _) (by unfold maxLen; omega) (by omega) (by simp) ?_; intro v' w9 hown9 hgrow9 _; have hb9 := ((Below.refl wr.heap.size wr).alloc (Nat.le_refl _) (.cells #[] 53)).grown hgrow9 (by simp) (own_lo hmade))
        go_ret
        exact ⟨v', rfl, by rw [HE.out]; simpa using hown9, hb9⟩
theorem rtrim_a {w : World} {V : Value} {a : Nat} (h : NatA w V a) :
    Calls Tryz.prog 109 #[V] w fun e w' => ∃ v', e = .returned v' ∧ OwnN w' v' a ∧ Below w.heap.size w w' := by
  obtain ⟨A, l, c, rfl, hG, hO, rfl⟩ := h
  refine (rtrim_calls A l c w hG.1 hG.2.1 hG.2.2).mono ?_
  rintro e w' ⟨v', rfl, hown, hb⟩
  exact ⟨v', rfl, own_ownn hO hown, hb⟩
set_option maxHeartbeats 8000000 in
set_option maxRecDepth 100000 in
theorem rcmp_a {w : World} {V1 V2 : Value} {a b : Nat} (h1 : NatA w V1 a) (h2 : NatA w V2 b) :
    Calls Tryz.prog 70 #[V1, V2] w fun e w' => e = .returned (.int .i64 (cmpI a b)) ∧ Below w.heap.size w w' := by
  have k1 := rtrim_a h1
  have k2 := fun W (hb : Below w.heap.size w W) => rtrim_a (h2.below hb)
  obtain ⟨A0, l0, c0, rfl, hG0, hO0, hv0⟩ := h1
  obtain ⟨B0, m0, d0, rfl, hG1, _⟩ := h2
  have hla : (limbs a).length ≤ 1099511627776 := by rw [← hv0, ← tn_eq hO0]; exact Nat.le_trans (tn_le l0) hG0.2.2
  clear hG0 hG1 hO0 hv0
  go_enter Tryz.func70, Tryz.ntmps70
  go_wp2_with (first | (go_at_call 109; (with_reducible refine k1.mono ?_); clear k1; rintro e1 w1 ⟨v1, rfl, hv1, hb1⟩; obtain ⟨A, c, rfl, hc, hR⟩ := hv1.natv) | (go_at_call 109; (with_reducible refine (k2 _ hb1).mono ?_); clear k2; rintro e2 w2 ⟨v2, rfl, hv2, hb2⟩; obtain ⟨A', c', rfl, hc', hR'⟩ := hv2.natv; have hb3 := below_step hb1 hb2; have hR2 := hR.below hb2; have hO := ok_limbs a; have hO' := ok_limbs b; have hva := nv_limbs a; have hvb := nv_limbs b))
  · rename_i h
    go_ret
    refine ⟨?_, hb3⟩
    have h1 := cmp_len (a := a) (b := b) h
    rw [show cmpI a b = -1 by unfold cmpI; rw [if_pos h1]]
    rfl
  · rename_i h0 h
    go_ret
    refine ⟨?_, hb3⟩
    have h2 : (limbs b).length < (limbs a).length := by
      have h3 : ((limbs a).length : Int) ≠ ((limbs b).length : Int) := by simpa using h0
      omega
    have h1 := cmp_len (a := b) (b := a) h2
    rw [show cmpI a b = 1 by unfold cmpI; rw [if_neg (by omega), if_pos h1]]
    rfl
  · have hlen : (limbs a).length = (limbs b).length := by
      have h3 : ((limbs a).length : Int) = ((limbs b).length : Int) := by simpa using ‹(((limbs a).length : Int) != ((limbs b).length : Int)) = false›
      omega
    clear hv1 hv2 hR
    generalize limbs a = l at *
    generalize limbs b = l' at *
    subst hva
    subst hvb
    go_loopg [7] l.length (fun kq v7 wr => v7 = .int .i64 ((kq : Int) - 1) ∧ kq ≤ l.length ∧ l.drop kq = l'.drop kq ∧ Below w2.heap.size w2 wr)
    case atStart => exact ⟨rfl, Nat.le_refl _, (by rw [List.drop_of_length_le (by omega), List.drop_of_length_le (by omega)]), Below.refl _ _⟩
    case round =>
      obtain ⟨rfl, hk, hd, hb⟩ := hrel
      cases gk with
      | zero =>
        rw [show ((0 : Nat) : Int) - 1 = -1 from rfl]
        rw [List.drop_zero, List.drop_zero] at hd
        have h1 : nv l = nv l' := by rw [hd]
        have Hq : Hid _ := Lib.hid h1
        clear h1 hd
        go_wp2
        go_ret
        refine ⟨?_, hb3.trans (hb.mono hb3.size)⟩
        have h1 := Hq.out
        rw [show cmpI (nv l) (nv l') = 0 by unfold cmpI; rw [if_neg (by omega), if_neg (by omega)]]
        rfl
      | succ d =>
        rw [show ((d + 1 : Nat) : Int) - 1 = (d : Int) by omega]
        obtain ⟨ad, x, rfl, hx, hcell⟩ := hR2.at (j := d) (by omega)
        obtain ⟨ad', x', rfl, hx', hcell'⟩ := hR'.at (j := d) (by omega)
        have y := (hb.cell (World.block_lt_of_cell? _ _ hcell)).trans hcell
        have y' := (hb.cell (World.block_lt_of_cell? _ _ hcell')).trans hcell'
        have hd0 : (0 : Int) ≤ (d : Int) := by omega
        have hd1 : (d : Int) < (l.length : Int) := by omega
        have hd2 : (d : Int) < (l'.length : Int) := by omega
        clear hcell hcell'
        rcases Nat.lt_trichotomy x x' with hlt | rfl | hgt
        · have h1 := cmp_at hO hO' hlen hx hx' hd hlt
          have q : (x : Int) < (x' : Int) := by omega
          have H1 : Hid _ := Lib.hid h1
          clear h1 hd
          go_wp2_with fail
          go_quiet (fail)
          go_wp2_with fail
          go_ret
          refine ⟨?_, below_dr (hb3.trans (hb.mono hb3.size)) _⟩
          rw [show cmpI (nv l) (nv l') = -1 by unfold cmpI; rw [if_pos H1.out]]
          rfl
        · have Hd : Hid _ := Lib.hid hd
          clear hd
          go_wp2_with fail
          go_quiet (fail)
          go_wp2_with fail
          go_quiet (fail)
          go_wp2_with fail
          go_roundg d
          case rel => exact ⟨rfl, by omega, (by
            have e1 := List.drop_eq_getElem_cons (l := l) (i := d) (by omega)
            have e2 := List.drop_eq_getElem_cons (l := l') (i := d) (by omega)
            rw [e1, e2, Hd.out, (List.getElem?_eq_some_iff.1 hx).2, (List.getElem?_eq_some_iff.1 hx').2]), by first | exact below_dr (below_dr hb _) _ | exact below_dr hb _⟩
          case measure => omega
        · have h1 := cmp_at hO' hO hlen.symm hx' hx hd.symm hgt
          have q : (x' : Int) < (x : Int) := by omega
          have q2 : ¬ (x : Int) < (x' : Int) := by omega
          have H1 : Hid _ := Lib.hid h1
          clear h1 hd
          go_wp2_with fail
          go_quiet (fail)
          go_wp2_with fail
          go_quiet (fail)
          go_wp2_with fail
          go_ret
          refine ⟨?_, by first | exact below_dr (below_dr (hb3.trans (hb.mono hb3.size)) _) _ | exact below_dr (hb3.trans (hb.mono hb3.size)) _⟩
          have h1 := H1.out
          rw [show cmpI (nv l) (nv l') = 1 by unfold cmpI; rw [if_neg (by omega), if_pos h1]]
          rfl
set_option maxHeartbeats 4000000 in
theorem at_calls (A : Option Addr) (l : List Nat) (c i : Nat) (w : World) (hR : Rd w A l) (hO : Ok l) :
    Calls Tryz.prog 108 #[.slice A l.length c, .int .i64 (i : Int)] w fun e w' => e = .returned (.int .u64 ((l.getD i 0 : Nat) : Int)) ∧ w' = w := by
  by_cases hi : i < l.length
  · obtain ⟨ad, x, rfl, hx, hcell⟩ := hR.at hi
    have hg : l.getD i 0 = x := by rw [List.getD_eq_getElem?_getD, hx]; rfl
    rw [hg]
    have hx32 := hO.get hx
    have hw : IntKind.u64.wrap (x : Int) = (x : Int) := by rw [IntKind.wrap_u64]; omega
    have h0 : ¬ (i : Int) < 0 := by omega
    have h1 : ¬ (l.length : Int) ≤ (i : Int) := by omega
    have h2 : (i : Int) < (l.length : Int) := by omega
    clear hg hx
    go_enter Tryz.func108, Tryz.ntmps108
    go_wp2
    go_ret
    exact ⟨rfl, rfl⟩
  · have hg : l.getD i 0 = 0 := by rw [List.getD_eq_getElem?_getD, List.getElem?_eq_none (by omega)]; rfl
    rw [hg]
    have h0 : ¬ (i : Int) < 0 := by omega
    have h1 : (l.length : Int) ≤ (i : Int) := by omega
    clear hg
    go_enter Tryz.func108, Tryz.ntmps108
    go_wp2
    go_ret
    exact ⟨rfl, rfl⟩
theorem sum_step {N E L1 L2 x y c : Nat} (h : N + E * c = L1 + L2) : (N + E * ((c + x + y) % 4294967296)) + E * 4294967296 * ((c + x + y) / 4294967296) = (L1 + E * x) + (L2 + E * y) := by
  have h1 := Nat.div_add_mod (c + x + y) 4294967296
  have h2 : E * (4294967296 * ((c + x + y) / 4294967296) + (c + x + y) % 4294967296) = E * (c + x + y) := by rw [h1]
  rw [Nat.mul_add, Nat.mul_add, Nat.mul_add, ← Nat.mul_assoc] at h2
  omega
theorem take_getD {l : List Nat} {i : Nat} : nv (l.take (i + 1)) = nv (l.take i) + 4294967296 ^ i * l.getD i 0 := by
  by_cases hi : i < l.length
  · have hx : l[i]? = some l[i] := List.getElem?_eq_getElem hi
    rw [nv_take_succ hx, List.getD_eq_getElem?_getD, hx]
    rfl
  · rw [List.getD_eq_getElem?_getD, List.getElem?_eq_none (by omega), List.take_of_length_le (by omega), List.take_of_length_le (by omega)]
    simp
theorem getD_lt {l : List Nat} (h : Ok l) (i : Nat) : l.getD i 0 < 4294967296 := by
  by_cases hi : i < l.length
  · have hx : l[i]? = some l[i] := List.getElem?_eq_getElem hi
    rw [List.getD_eq_getElem?_getD, hx]
    exact h.get hx
  · rw [List.getD_eq_getElem?_getD, List.getElem?_eq_none (by omega)]
    decide
theorem getD_zero {l : List Nat} {i : Nat} (h : l.length ≤ i) : l.getD i 0 = 0 := by
  rw [List.getD_eq_getElem?_getD, List.getElem?_eq_none h]; rfl
set_option maxHeartbeats 8000000 in
set_option maxRecDepth 100000 in
theorem rsum_calls (A : Option Addr) (l : List Nat) (c : Nat) (A' : Option Addr) (l' : List Nat) (c' : Nat) (w : World) (hG : Good w (A, l, c)) (hG' : Good w (A', l', c')) (hO : Ok l) (hO' : Ok l') (h1 : l.length ≤ 10000) (h2 : l'.length ≤ 10000) :
    Calls Tryz.prog 95 #[.slice A l.length c, .slice A' l'.length c'] w fun e w' => ∃ v', e = .returned v' ∧ OwnN w' v' (nv l + nv l') ∧ Below w.heap.size w w' := by
  obtain ⟨i0, hi, hz0, hz1, hz2⟩ := info_parts info40
  obtain ⟨M, hM⟩ : ∃ M, max l.length l'.length = M := ⟨_, rfl⟩
  have hM1 : l.length ≤ M := by omega
  have hM2 : l'.length ≤ M := by omega
  have hM4 : M ≤ 10000 := by omega
  have hMI : max (l.length : Int) (l'.length : Int) = (M : Int) := by omega
  have ka := fun i W (hb : Below w.heap.size w W) => at_calls A l c i W (hG.1.below hb) hO
  have kb := fun i W (hb : Below w.heap.size w W) => at_calls A' l' c' i W (hG'.1.below hb) hO'
  have hb0 := Below.refl w.heap.size w
  have HO : Hid _ := Lib.hid (And.intro hO hO')
  clear hM hG hG' hO hO'
  go_enter Tryz.func95, Tryz.ntmps95
  go_wp2
  go_loopg [5, 6, 7] (M + 1) (fun kq v5 v6 v7 wr => ∃ (i ca : Nat) (o : List Nat), v7 = .int .i64 i ∧ v6 = .int .u64 ca ∧ i + kq = M + 1 ∧ ca ≤ 1 ∧ (M < i → ca = 0) ∧ o.length = i ∧ Ok o ∧ Hid (nv o + 4294967296 ^ i * ca = nv (l.take i) + nv (l'.take i)) ∧ wr.ownsRow w.heap.size 53 1 v5 i (cv o) ∧ Below w.heap.size w wr)
  case atStart => exact ⟨0, 0, [], rfl, rfl, by omega, by decide, (fun _ => rfl), rfl, ok_nil, Lib.hid rfl, World.ownsRow_nil _ _ _ _, hb0⟩
  case round =>
    clear hb0
    obtain ⟨i, ca, o, rfl, rfl, hik, hca, hcz, hol, hoO, HV, hown, hb⟩ := hrel
    cases gk with
    | zero =>
      have hc0 := hcz (by omega)
      subst hc0
      have hv := HV.out
      rw [List.take_of_length_le (by omega), List.take_of_length_le (by omega), Nat.mul_zero, Nat.add_zero] at hv
      obtain ⟨A5, c5, e5, en5, hc5, hR5⟩ := own_rn hown
      subst e5
      have kt := rtrim_calls A5 o c5 wr hR5 (by omega) (by omega)
      rw [hol] at kt
      have Hv : Hid _ := Lib.hid (And.intro hv hoO)
      have hiM : ¬ (i : Int) ≤ (M : Int) := by omega
      clear hv HV hcz hown hR5 hol en5
      go_wp2_with (go_at_call 109; (with_reducible refine kt.mono ?_); clear kt; rintro e1 w1 ⟨v1, rfl, hown1, hb1⟩)
      go_ret
      exact ⟨v1, rfl, by rw [← Hv.out.1]; exact own_ownn Hv.out.2 hown1, below_step hb hb1⟩
    | succ d =>
      have hiM : (i : Int) ≤ (M : Int) := by omega
      have hx := getD_lt HO.out.1 i
      have hy := getD_lt HO.out.2 i
      have hst := sum_step (x := l.getD i 0) (y := l'.getD i 0) HV.out
      rw [← take_getD, ← take_getD, ← Nat.pow_succ] at hst
      have ka1 := ka i wr hb
      have kb1 := kb i wr hb
      have hzx : M ≤ i → l.getD i 0 = 0 := fun q => getD_zero (by omega)
      have hzy : M ≤ i → l'.getD i 0 = 0 := fun q => getD_zero (by omega)
      generalize l.getD i 0 = x at *
      generalize l'.getD i 0 = y at *
      obtain ⟨S, hS⟩ : ∃ S, ca + x + y = S := ⟨_, rfl⟩
      obtain ⟨s1, hs1⟩ : ∃ s1, S % 4294967296 = s1 := ⟨_, rfl⟩
      obtain ⟨s2, hs2⟩ : ∃ s2, S / 4294967296 = s2 := ⟨_, rfl⟩
      rw [hS, hs1, hs2] at hst
      have hw1 : IntKind.u64.wrap ((ca : Int) + (x : Int)) = (ca : Int) + (x : Int) := by rw [IntKind.wrap_u64]; omega
      have hw2 : IntKind.u64.wrap ((ca : Int) + (x : Int) + (y : Int)) = (S : Int) := by rw [IntKind.wrap_u64]; omega
      have hw3 : IntKind.u32.wrap (S : Int) = (s1 : Int) := by rw [IntKind.wrap_u32]; omega
      have hw4 : (S : Int) / 4294967296 = (s2 : Int) := by omega
      have hs1l : s1 < 4294967296 := by omega
      have hs2l : s2 ≤ 1 := by omega
      have hs2z : M < i + 1 → s2 = 0 := fun q => by have h1 := hzx (by omega); have h2 := hzy (by omega); omega
      have hnew : nv (o ++ [s1]) + 4294967296 ^ (i + 1) * s2 = nv (l.take (i + 1)) + nv (l'.take (i + 1)) := by rw [nv_snoc, hol]; exact hst
      have HN : Hid _ := Lib.hid (And.intro hnew hs2z)
      have hsz := hb.size
      have hown2 := hown.alloc (.cells #[.int .u32 (s1 : Int)] 53)
      clear hst hS hs1 hs2 hnew hs2z hzx hzy HV hcz
      go_wp2_with (first
        | (go_at_call 108; (with_reducible refine ka1.mono ?_); clear ka1; rintro e1 w1 ⟨rfl, rfl⟩)
        | (go_at_call 108; (with_reducible refine kb1.mono ?_); clear kb1; rintro e2 w2 ⟨rfl, rfl⟩)
        | (at_builtin; refine wpList_append_own _ rfl _ _ 50 rfl w.heap.size 53 i0 (.int .u32 0) 1 4 Tryz.underlying50 hi hz0 hz1 hz2 rfl (by decide) _ _ _ rfl hown2 ⟨_, 0, none⟩ 1 1 [.int .u32 (s1 : Int)] rfl rfl (cell_one_new _ _ _) (one_u32 s1) (by unfold maxLen; omega) (by omega) (by rw [World.size_alloc]; omega) ?_; intro v' w9 hown9 hgrow9 _; have hb9 := (hb.alloc hsz (.cells #[.int .u32 (s1 : Int)] 53)).grown hgrow9 (by rw [World.size_alloc]; omega) (own_lo hown2)))
      go_roundg d
      case rel => exact ⟨i + 1, s2, o ++ [s1], by go_num, rfl, by omega, hs2l, HN.out.2, by rw [List.length_append, hol]; rfl, hoO.append (ok_one hs1l), Lib.hid HN.out.1, by rw [cv_append]; exact hown9, hb9⟩
      case measure => omega
end Go.Proofs.YtffncomekbfihaaGreatDoor.Nat
namespace Go.Proofs.YtffncomekbfihaaGreatDoor.Nat
open Go.RowKit Go.Shelf
set_option linter.unusedVariables false
set_option linter.unusedSimpArgs false
theorem rmul_step {N P c T Q y x old S' : Nat} (h : N + P * c = T + Q) (hset : S' + P * old = N + P * ((c + old + x * y) % 4294967296)) :
    S' + P * 4294967296 * ((c + old + x * y) / 4294967296) = T + (Q + P * (x * y)) := by
  have h1 := Nat.div_add_mod (c + old + x * y) 4294967296
  have h2 : P * (4294967296 * ((c + old + x * y) / 4294967296) + (c + old + x * y) % 4294967296) = P * (c + old + x * y) := by rw [h1]
  rw [Nat.mul_add, Nat.mul_add, Nat.mul_add, ← Nat.mul_assoc] at h2
  omega
set_option maxHeartbeats 16000000 in
set_option maxRecDepth 100000 in
theorem rtimes_calls (A : Option Addr) (l : List Nat) (c : Nat) (A' : Option Addr) (l' : List Nat) (c' : Nat) (w : World) (hG : Good w (A, l, c)) (hG' : Good w (A', l', c')) (hO : Ok l) (hO' : Ok l') (h1 : l.length ≤ 10000) (h2 : l'.length ≤ 10000) :
    Calls Tryz.prog 66 #[.slice A l.length c, .slice A' l'.length c'] w fun e w' => ∃ v', e = .returned v' ∧ OwnN w' v' (nv l * nv l') ∧ Below w.heap.size w w' := by
  obtain ⟨i0, hi, hz0, hz1, hz2⟩ := info_parts info40
  have ka := fun i W (hb : Below w.heap.size w W) => at_calls A l c i W (hG.1.below hb) hO
  have kb := fun i W (hb : Below w.heap.size w W) => at_calls A' l' c' i W (hG'.1.below hb) hO'
  have hb0 := Below.refl w.heap.size w
  have HO : Hid _ := Lib.hid (And.intro hO hO')
  clear hG hG' hO hO'
  obtain ⟨n, hn⟩ : ∃ n, l.length + l'.length + 1 = n := ⟨_, rfl⟩
  obtain ⟨w4, hmk, hown, hgr⟩ := run_make_full (P := Tryz.prog) w w.heap.size 50 53 i0 (.int .u32 0) 1 Tryz.underlying50 hi hz0 hz1 .i64 .i64 n (by rw [hz2]; omega) (by unfold maxLen; omega) (Nat.le_refl _)
  rw [show (Value.int .u32 0).cells = #[Value.int .u32 0] from rfl, Nat.mul_one, toList_madeCells_one, ← cv_replicate] at hown
  have hnI : (l.length : Int) + (l'.length : Int) + 1 = (n : Int) := by omega
  have hb7 := hb0.grown hgr (Nat.le_refl _) (fun k hk => by cases hk)
  generalize w.heap.size = g at *
  go_enter Tryz.func66, Tryz.ntmps66
  go_wp2
  clear hmk hgr hi hz0 hz1 hz2
  have own0 : w4.ownsRow g 53 1 (.slice (some ⟨g, 0, none⟩) n n) n (cv (List.replicate n 0)) := hown
  go_loopg [6] l.length (fun kq v6 wr => ∃ (i : Nat) (o : List Nat), v6 = .int .i64 i ∧ i + kq = l.length ∧ wr.ownsRow g 53 1 (.slice (some ⟨g, 0, none⟩) n n) n (cv o) ∧ o.length = n ∧ Ok o ∧ Hid (nv o = nv (l.take i) * nv l') ∧ Below g w wr)
  case atStart => exact ⟨0, _, rfl, by omega, own0, by simp, ok_replicate n, Lib.hid (by rw [nv_replicate]; simp [nv]), hb7⟩
  case round =>
    clear own0 hown hb7
    obtain ⟨i, o, rfl, hi, hown, hol, hoO, HV, hb⟩ := hrel
    cases gk with
    | zero =>
      obtain rfl : i = l.length := by omega
      have hv := HV.out
      rw [List.take_length] at hv
      obtain ⟨A2, c2, e2, en2, hc2, hR2⟩ := own_rn hown
      have hR3 : Rd wr (some ⟨g, 0, none⟩) o := by cases e2; exact hR2
      have kt := rtrim_calls (some ⟨g, 0, none⟩) o n wr hR3 (by omega) (by omega)
      rw [hol] at kt
      have Hv : Hid _ := Lib.hid (And.intro hv hoO)
      have hgl := (hown.lt g rfl).2
      clear hv HV hown hR2 hR3 hol en2 e2
      go_wp2_with (go_at_call 109; (with_reducible refine kt.mono ?_); clear kt; rintro e1 w1 ⟨v1, rfl, hown1, hb1⟩)
      go_ret
      exact ⟨v1, rfl, by rw [← Hv.out.1]; exact own_ownn Hv.out.2 hown1, hb.trans (hb1.mono (Nat.le_of_lt hgl))⟩
    | succ d =>
      have hi1 : (i : Int) < (l.length : Int) := by omega
      go_wp2
      go_loopg [7, 8] (l'.length + 1) (fun kq v7 v8 wr2 => ∃ (k ca : Nat) (o2 : List Nat), v8 = .int .i64 k ∧ v7 = .int .u64 ca ∧ k + kq = l'.length + 1 ∧ ca < 4294967296 ∧ (l'.length < k → ca = 0) ∧ wr2.ownsRow g 53 1 (.slice (some ⟨g, 0, none⟩) n n) n (cv o2) ∧ o2.length = n ∧ Ok o2 ∧
        Hid (nv o2 + 4294967296 ^ (i + k) * ca = nv (l.take i) * nv l' + 4294967296 ^ i * l.getD i 0 * nv (l'.take k)) ∧ Below g w wr2)
      case atStart => exact ⟨0, 0, o, rfl, rfl, by omega, by omega, (fun _ => rfl), hown, hol, hoO, Lib.hid (by rw [HV.out]; simp [nv]), hb⟩
      case round =>
        clear hown hol hoO HV hb
        obtain ⟨k, ca, o2, rfl, rfl, hk, hca, hcz, hown, hol, hoO, HV, hb⟩ := hrel
        by_cases hgo : k < l'.length ∨ 0 < ca
        · cases gk with
          | zero => exfalso; have := hcz (by omega); omega
          | succ d2 =>
            have hik : i + k < n := by omega
            obtain ⟨old, hold⟩ : ∃ old, o2[i + k]? = some old := ⟨_, List.getElem?_eq_getElem (by omega)⟩
            have hold32 := hoO.get hold
            have hcO := hown.cellAt (i + k) (by omega)
            rw [cv_get hold] at hcO
            have hfO := hown.frozenAt (i + k)
            have hin : (i : Int) + (k : Int) < (n : Int) := by omega
            have hwik : IntKind.i64.wrap ((i : Int) + (k : Int)) = ((i + k : Nat) : Int) := by rw [IntKind.wrap_i64]; omega
            have hx := getD_lt HO.out.1 i
            have hy := getD_lt HO.out.2 k
            have ka1 := fun W hb => ka i W hb
            have kb1 := fun W hb => kb k W hb
            have htk := take_getD (l := l') (i := k)
            have hti := take_getD (l := l) (i := i)
            have hlt := nv_lt (HO.out.1.take (i + 1))
            have hlt' := nv_lt HO.out.2
            have hll : (l.take (i + 1)).length ≤ i + 1 := List.length_take_le _ _
            generalize l.getD i 0 = x at *
            generalize l'.getD k 0 = y at *
            have hxx : x * y ≤ 18446744065119617025 := Nat.mul_le_mul (show x ≤ 4294967295 by omega) (show y ≤ 4294967295 by omega)
            obtain ⟨S, hS⟩ : ∃ S, ca + old + x * y = S := ⟨_, rfl⟩
            obtain ⟨s1, hs1⟩ : ∃ s1, S % 4294967296 = s1 := ⟨_, rfl⟩
            obtain ⟨s2, hs2⟩ : ∃ s2, S / 4294967296 = s2 := ⟨_, rfl⟩
            have hset := nv_set s1 hold
            have hst := rmul_step (x := x) (y := y) (old := old) HV.out (by rw [hS, hs1]; exact hset)
            rw [hS, hs2] at hst
            have e1 : 4294967296 ^ (i + k) * (x * y) = 4294967296 ^ i * x * (4294967296 ^ k * y) := by rw [Nat.pow_add]; simp only [Nat.mul_assoc, Nat.mul_comm, Nat.mul_left_comm]
            have e9 : 4294967296 ^ (i + k) * 4294967296 = 4294967296 ^ (i + k + 1) := rfl
            rw [e1, ← Nat.mul_add, ← htk, e9] at hst
            have hz2 : l'.length < k + 1 → s2 = 0 := fun q => by
              rcases Nat.eq_zero_or_pos s2 with z | z
              · exact z
              · exfalso
                rw [show l'.take (k + 1) = l' from List.take_of_length_le (by omega)] at hst
                have q1 : nv (l.take i) * nv l' + 4294967296 ^ i * x * nv l' = nv (l.take (i + 1)) * nv l' := by rw [hti, Nat.add_mul]
                rw [q1] at hst
                have q2 : nv (l.take (i + 1)) * nv l' < 4294967296 ^ (i + 1) * 4294967296 ^ l'.length := by
                  have q3 : 4294967296 ^ (l.take (i + 1)).length ≤ 4294967296 ^ (i + 1) := Nat.pow_le_pow_right (by decide) hll
                  have q4 : nv (l.take (i + 1)) * nv l' ≤ nv (l.take (i + 1)) * 4294967296 ^ l'.length := Nat.mul_le_mul_left _ (Nat.le_of_lt hlt')
                  have q5 : nv (l.take (i + 1)) * 4294967296 ^ l'.length < 4294967296 ^ (i + 1) * 4294967296 ^ l'.length := Nat.mul_lt_mul_of_pos_right (by omega) (Nat.pow_pos (by decide))
                  omega
                rw [← Nat.pow_add] at q2
                have q6 : 4294967296 ^ (i + 1 + l'.length) ≤ 4294967296 ^ (i + k + 1) := Nat.pow_le_pow_right (by decide) (by omega)
                have q7 : 4294967296 ^ (i + k + 1) ≤ 4294967296 ^ (i + k + 1) * s2 := Nat.le_mul_of_pos_right _ z
                omega
            have HN : Hid _ := Lib.hid (And.intro hst hz2)
            obtain ⟨XY, hXY⟩ : ∃ XY, x * y = XY := ⟨_, rfl⟩
            rw [hXY] at hxx hS
            have hXYI : (x : Int) * (y : Int) = (XY : Int) := by rw [← hXY, Int.natCast_mul]
            have hw1 : IntKind.u64.wrap (XY : Int) = (XY : Int) := by rw [IntKind.wrap_u64]; omega
            have hw2 : IntKind.u64.wrap ((ca : Int) + (old : Int)) = (ca : Int) + (old : Int) := by rw [IntKind.wrap_u64]; omega
            have hw3 : IntKind.u64.wrap ((ca : Int) + (old : Int) + (XY : Int)) = (S : Int) := by rw [IntKind.wrap_u64]; omega
            have hw4 : IntKind.u32.wrap (S : Int) = (s1 : Int) := by rw [IntKind.wrap_u32]; omega
            have hw5 : (S : Int) / 4294967296 = (s2 : Int) := by omega
            have hw6 : IntKind.u64.wrap (old : Int) = (old : Int) := by rw [IntKind.wrap_u64]; omega
            have hs1l : s1 < 4294967296 := by omega
            have hs2l : s2 < 4294967296 := by omega
            have hgoI : (decide ((k : Int) < (l'.length : Int)) || decide ((0 : Int) < (ca : Int))) = true := by
              rcases hgo with q | q
              · rw [decide_eq_true (by omega : (k : Int) < (l'.length : Int))]; rfl
              · rw [decide_eq_true (by omega : (0 : Int) < (ca : Int))]; simp
            have hbd := hb.drew
            clear hset hst hz2 hxx hS hs1 hs2 hXY htk hti hlt hlt' hll e1 HV hcz hold ka kb
            have hst2 := (World.ownsRow.stored (World.ownsRow.drew hown) (i + k) (.int .u32 (s1 : Int))).1
            clear e9
            by_cases hkl : k < l'.length
            · have hklI : (k : Int) < (l'.length : Int) := by omega
              go_wp2_with fail
              first | (go_region_held (fun w' => w'.cell? ⟨g, i + k, none⟩ = some (.int .u32 (old : Int))) (go_keep) (first
                | (go_simp; go_at_call 108; (with_reducible refine (ka1 _ (by first | exact hbd | exact hb)).mono ?_); rintro e1 w1 ⟨rfl, rfl⟩)
                | (go_simp; go_at_call 108; (with_reducible refine (kb1 _ (by first | exact hbd | exact hb)).mono ?_); rintro e2 w2 ⟨rfl, rfl⟩))) | fail
              all_goals
                go_wp2
                go_roundg d2
                case rel => exact ⟨k + 1, s2, o2.set (i + k) s1, by go_num, rfl, by omega, hs2l, HN.out.2, by rw [cv_set]; exact hst2, by rw [List.length_set]; exact hol, hoO.set _ _ hs1l, Lib.hid HN.out.1, hbd.setCell (p := ⟨g, i + k, none⟩) (Nat.le_refl _) _⟩
                case measure => omega
            · have hklI : ¬ (k : Int) < (l'.length : Int) := by omega
              have hcaI : (0 : Int) < (ca : Int) := by omega
              go_wp2_with fail
              first | (go_region_held (fun w' => w'.cell? ⟨g, i + k, none⟩ = some (.int .u32 (old : Int))) (go_keep) (first
                | (go_simp; go_at_call 108; (with_reducible refine (ka1 _ (by first | exact hbd | exact hb)).mono ?_); rintro e1 w1 ⟨rfl, rfl⟩)
                | (go_simp; go_at_call 108; (with_reducible refine (kb1 _ (by first | exact hbd | exact hb)).mono ?_); rintro e2 w2 ⟨rfl, rfl⟩))) | fail
              all_goals
                go_wp2
                go_roundg d2
                case rel => exact ⟨k + 1, s2, o2.set (i + k) s1, by go_num, rfl, by omega, hs2l, HN.out.2, by rw [cv_set]; exact hst2, by rw [List.length_set]; exact hol, hoO.set _ _ hs1l, Lib.hid HN.out.1, hbd.setCell (p := ⟨g, i + k, none⟩) (Nat.le_refl _) _⟩
                case measure => omega
        · have hca0 : ca = 0 := by omega
          have hkl : l'.length ≤ k := by omega
          subst hca0
          have hv := HV.out
          rw [Nat.mul_zero, Nat.add_zero, List.take_of_length_le hkl] at hv
          have hnew : nv o2 = nv (l.take (i + 1)) * nv l' := by rw [hv, take_getD, Nat.add_mul]
          have HN : Hid _ := Lib.hid hnew
          have hkI : ¬ (k : Int) < (l'.length : Int) := by omega
          clear hv hnew HV hcz
          go_wp2
          go_roundg d
          case rel => exact ⟨i + 1, o2, by go_num, by omega, hown, hol, hoO, HN, hb⟩
          case measure => omega
end Go.Proofs.YtffncomekbfihaaGreatDoor.Nat
namespace Go.Proofs.YtffncomekbfihaaGreatDoor.Nat
open Go.RowKit Go.Shelf
set_option linter.unusedVariables false
set_option linter.unusedSimpArgs false
/-- a value that is a slice of a number's limbs, trimmed or not, and not too long -/
def NatB (w : World) (V : Value) (v : Nat) : Prop := ∃ A l c, V = .slice A l.length c ∧ Good w (A, l, c) ∧ Ok l ∧ nv l = v ∧ l.length ≤ 10000
theorem NatB.below {w w' : World} {V : Value} {v : Nat} (h : NatB w V v) (hb : Below w.heap.size w w') : NatB w' V v := by
  obtain ⟨A, l, c, e, hG, hO, hv, hl⟩ := h
  exact ⟨A, l, c, e, hG.below hb, hO, hv, hl⟩
theorem NatB.a {w : World} {V : Value} {v : Nat} (h : NatB w V v) : NatA w V v := by
  obtain ⟨A, l, c, e, hG, hO, hv, hl⟩ := h
  exact ⟨A, l, c, e, hG, hO, hv⟩
theorem NatV.b {w : World} {V : Value} {v : Nat} (h : NatV w V v) (hl : (limbs v).length ≤ 10000) : NatB w V v := by
  obtain ⟨A, c, e, hc, hR⟩ := h
  exact ⟨A, limbs v, c, e, ⟨hR, hc, by dsimp only; omega⟩, ok_limbs v, nv_limbs v, hl⟩
theorem OwnN.b {w : World} {V : Value} {v : Nat} (h : OwnN w V v) (hl : (limbs v).length ≤ 10000) : NatB w V v := h.natv.b hl
theorem natb_one (w : World) (x : Nat) (hx : x < 4294967296) : NatB (w.alloc (.cells #[.int .u32 (x : Int)] 53)) (.slice (some ⟨w.heap.size, 0, none⟩) 1 1) x := ⟨_, [x], 1, rfl, good_one w x, ok_one hx, by simp [nv], by simp⟩
theorem rsum_b {w : World} {V1 V2 : Value} {a b : Nat} (h1 : NatB w V1 a) (h2 : NatB w V2 b) :
    Calls Tryz.prog 95 #[V1, V2] w fun e w' => ∃ v', e = .returned v' ∧ OwnN w' v' (a + b) ∧ Below w.heap.size w w' := by
  obtain ⟨A, l, c, rfl, hG, hO, rfl, hl⟩ := h1
  obtain ⟨A', l', c', rfl, hG', hO', rfl, hl'⟩ := h2
  exact rsum_calls A l c A' l' c' w hG hG' hO hO' hl hl'
theorem rtimes_b {w : World} {V1 V2 : Value} {a b : Nat} (h1 : NatB w V1 a) (h2 : NatB w V2 b) :
    Calls Tryz.prog 66 #[V1, V2] w fun e w' => ∃ v', e = .returned v' ∧ OwnN w' v' (a * b) ∧ Below w.heap.size w w' := by
  obtain ⟨A, l, c, rfl, hG, hO, rfl, hl⟩ := h1
  obtain ⟨A', l', c', rfl, hG', hO', rfl, hl'⟩ := h2
  exact rtimes_calls A l c A' l' c' w hG hG' hO hO' hl hl'
theorem nv_two (q r : Nat) : nv (List.replicate q 0 ++ [2 ^ r]) = 2 ^ (32 * q + r) := by
  rw [nv_append, nv_replicate, List.length_replicate, pow32, Nat.pow_add]
  simp [nv]
set_option maxHeartbeats 8000000 in
set_option maxRecDepth 100000 in
theorem two_calls (n : Nat) (w : World) (hn : n ≤ 200000) :
    Calls Tryz.prog 67 #[.int .i64 (n : Int)] w fun e w' => ∃ v', e = .returned v' ∧ NatB w' v' (2 ^ n) ∧ Below w.heap.size w w' := by
  obtain ⟨i0, hi, hz0, hz1, hz2⟩ := info_parts info40
  obtain ⟨q, hq⟩ : ∃ q, n / 32 = q := ⟨_, rfl⟩
  obtain ⟨r, hr⟩ : ∃ r, n % 32 = r := ⟨_, rfl⟩
  have hqI : Int.tdiv (n : Int) 32 = (q : Int) := by rw [Int.tdiv_eq_ediv_of_nonneg (by omega)]; omega
  have hrI : Int.tmod (n : Int) 32 = (r : Int) := by rw [Int.tmod_eq_emod_of_nonneg (by omega)]; omega
  have hqI2 : (n : Int) / 32 = (q : Int) := by omega
  have hrI2 : (n : Int) % 32 = (r : Int) := by omega
  have hr32 : r < 32 := by omega
  have hpw : 2 ^ r < 4294967296 := Nat.lt_of_lt_of_eq (Nat.pow_lt_pow_right (by decide) hr32) (by decide)
  have hnv := nv_two q r
  rw [show 32 * q + r = n from by omega] at hnv
  obtain ⟨N1, hN1⟩ : ∃ N1, q + 1 = N1 := ⟨_, rfl⟩
  obtain ⟨w4, hmk, hown, hgr⟩ := run_make_full (P := Tryz.prog) w w.heap.size 50 53 i0 (.int .u32 0) 1 Tryz.underlying50 hi hz0 hz1 .i64 .i64 N1 (by rw [hz2]; omega) (by unfold maxLen; omega) (Nat.le_refl _)
  rw [show (Value.int .u32 0).cells = #[Value.int .u32 0] from rfl, Nat.mul_one, toList_madeCells_one, ← cv_replicate] at hown
  have hb7 := (Below.refl w.heap.size w).grown hgr (Nat.le_refl _) (fun k hk => by cases hk)
  have hnI : (q : Int) + 1 = (N1 : Int) := by omega
  have hwI : IntKind.i64.wrap (N1 : Int) = (N1 : Int) := by rw [IntKind.wrap_i64]; omega
  have hz : (List.replicate N1 0)[q]? = some 0 := by rw [List.getElem?_replicate, if_pos (by omega)]
  have hcO := hown.cellAt q (by omega)
  rw [cv_get hz] at hcO
  have hset : (List.replicate N1 0).set q (2 ^ r) = List.replicate q 0 ++ [2 ^ r] := by
    rw [← hN1, List.replicate_succ', List.set_append, if_neg (by rw [List.length_replicate]; omega), List.length_replicate, Nat.sub_self]
    rfl
  have hst := (hown.stored q (.int .u32 ((2 ^ r : Nat) : Int))).1
  rw [← cv_set, hset] at hst
  have hO : Ok (List.replicate q 0 ++ [2 ^ r]) := (ok_replicate q).append (ok_one hpw)
  have hlen : (List.replicate q 0 ++ [2 ^ r]).length = N1 := by rw [List.length_append, List.length_replicate]; exact hN1
  have hpI : (2 : Int) ^ r % 4294967296 = ((2 ^ r : Nat) : Int) := by
    have h : (((2 : Nat) ^ r : Nat) : Int) = (2 : Int) ^ r := by rw [Int.natCast_pow]; rfl
    rw [← h]
    exact Int.emod_eq_of_lt (Int.natCast_nonneg _) (Int.ofNat_lt.2 hpw)
  have hfO := hown.frozenAt q
  have hqN : (q : Int) < (N1 : Int) := by omega
  have HN : Hid _ := Lib.hid hnv
  have Hst : Hid _ := Lib.hid hst
  generalize hPP : 2 ^ r = PP at *
  clear hq hr hnv hi hz0 hz1 hz2 hgr hst hset hz hPP
  go_enter Tryz.func67, Tryz.ntmps67
  go_wp2
  go_ret
  have hgd := own_good (l := List.replicate q 0 ++ [PP]) Hst.out (by omega)
  exact ⟨_, rfl, ⟨some ⟨w.heap.size, 0, none⟩, List.replicate q 0 ++ [PP], N1, by rw [hlen]; rfl, hgd.1, hO, HN.out, by omega⟩, hb7.setCell (p := ⟨w.heap.size, q, none⟩) (Nat.le_refl _) _⟩
set_option maxHeartbeats 8000000 in
set_option maxRecDepth 100000 in
theorem power10_calls (n : Nat) (w : World) (hn : n ≤ 2000) :
    Calls Tryz.prog 110 #[.int .i64 (n : Int)] w fun e w' => ∃ v', e = .returned v' ∧ NatB w' v' (10 ^ n) ∧ Below w.heap.size w w' := by
  have hx0 : NatB (w.alloc (.cells #[.int .u32 1] 53)) (.slice (some ⟨w.heap.size, 0, none⟩) 1 1) 1 := natb_one w 1 (by decide)
  have hb0 := below_alloc w (.cells #[.int .u32 1] 53)
  have hnI : (n : Int) ≤ 2000 := by omega
  go_enter Tryz.func110, Tryz.ntmps110
  go_wp2
  go_loopg [3, 4] n (fun kq v3 v4 wr => ∃ i : Nat, v4 = .int .i64 i ∧ i + kq = n ∧ NatB wr v3 (10 ^ i) ∧ Below w.heap.size w wr)
  case atStart => exact ⟨0, rfl, by omega, hx0, hb0⟩
  case round =>
    clear hx0 hb0
    obtain ⟨i, rfl, hi, hx, hb⟩ := hrel
    cases gk with
    | zero =>
      obtain rfl : i = n := by omega
      go_wp2
      go_ret
      exact ⟨_, rfl, hx, hb⟩
    | succ d =>
      have hi1 : (i : Int) < (n : Int) := by omega
      have ht : NatB (wr.alloc (.cells #[.int .u32 10] 53)) (.slice (some ⟨wr.heap.size, 0, none⟩) 1 1) 10 := natb_one wr 10 (by decide)
      have k1 := rtimes_b (hx.below (below_alloc wr (.cells #[.int .u32 10] 53))) ht
      rw [show 10 ^ i * 10 = 10 ^ (i + 1) from rfl] at k1
      have hl : (limbs (10 ^ (i + 1))).length ≤ 251 := limbs_ten (by omega)
      have HL : Hid _ := Lib.hid hl
      clear hl hx ht
      go_wp2_with (go_at_call 66; (with_reducible refine k1.mono ?_); clear k1; rintro e1 w1 ⟨v1, rfl, hv1, hb1⟩)
      go_roundg d
      case rel => exact ⟨i + 1, by go_num, by omega, hv1.b (by have := HL.out; omega), below_step hb (below_step (below_alloc _ _) hb1)⟩
      case measure => omega
theorem less_val (x y c : Nat) (hx : x < 4294967296) (hy : y < 4294967296) (hc : c ≤ 1) : ∃ X s1 q b : Nat, (x : Int) + 4294967296 - (y : Int) - (c : Int) = (X : Int) ∧ (X : Int) % 4294967296 = (s1 : Int) ∧
    (X : Int) / 4294967296 = (q : Int) ∧ 1 - (q : Int) = (b : Int) ∧ b ≤ 1 ∧ s1 < 4294967296 ∧ x + b * 4294967296 = c + y + s1 ∧ X < 18446744073709551616 := by
  rcases Nat.lt_or_ge x (y + c) with h | h
  · exact ⟨x + 4294967296 - y - c, x + 4294967296 - y - c, 0, 1, by omega, by omega, by omega, by omega, by omega, by omega, by omega, by omega⟩
  · exact ⟨x + 4294967296 - y - c, x - y - c, 1, 0, by omega, by omega, by omega, by omega, by omega, by omega, by omega, by omega⟩
theorem less_step {N E L1 L2 x y c b s1 : Nat} (h : N + L2 = L1 + c * E) (hb : x + b * 4294967296 = c + y + s1) : (N + E * s1) + (L2 + E * y) = (L1 + E * x) + b * (E * 4294967296) := by
  have h1 : E * (x + b * 4294967296) = E * (c + y + s1) := by rw [hb]
  rw [Nat.mul_add, Nat.mul_add, Nat.mul_add] at h1
  have h2 : E * (b * 4294967296) = b * (E * 4294967296) := by rw [Nat.mul_left_comm]
  have h3 : E * c = c * E := Nat.mul_comm _ _
  omega
set_option maxHeartbeats 8000000 in
set_option maxRecDepth 100000 in
theorem rless_calls (A : Option Addr) (l : List Nat) (c : Nat) (A' : Option Addr) (l' : List Nat) (c' : Nat) (w : World) (hG : Good w (A, l, c)) (hG' : Good w (A', l', c')) (hO : Ok l) (hO' : Ok l') (h1 : l.length ≤ 10000) (h2 : l'.length ≤ l.length) (hle : nv l' ≤ nv l) :
    Calls Tryz.prog 126 #[.slice A l.length c, .slice A' l'.length c'] w fun e w' => ∃ v', e = .returned v' ∧ OwnN w' v' (nv l - nv l') ∧ Below w.heap.size w w' := by
  obtain ⟨i0, hi, hz0, hz1, hz2⟩ := info_parts info40
  have ka := fun i W (hb : Below w.heap.size w W) => at_calls A l c i W (hG.1.below hb) hO
  have kb := fun i W (hb : Below w.heap.size w W) => at_calls A' l' c' i W (hG'.1.below hb) hO'
  have hb0 := Below.refl w.heap.size w
  have HO : Hid _ := Lib.hid (And.intro hO (And.intro hO' hle))
  clear hG hG' hO hO' hle
  go_enter Tryz.func126, Tryz.ntmps126
  go_wp2
  go_loopg [5, 6, 7] l.length (fun kq v5 v6 v7 wr => ∃ (i ca : Nat) (o : List Nat), v7 = .int .i64 i ∧ v6 = .int .u64 ca ∧ i + kq = l.length ∧ ca ≤ 1 ∧ o.length = i ∧ Ok o ∧ Hid (nv o + nv (l'.take i) = nv (l.take i) + ca * 4294967296 ^ i) ∧ wr.ownsRow w.heap.size 53 1 v5 i (cv o) ∧ Below w.heap.size w wr)
  case atStart => exact ⟨0, 0, [], rfl, rfl, by omega, by decide, rfl, ok_nil, Lib.hid (by simp [nv]), World.ownsRow_nil _ _ _ _, hb0⟩
  case round =>
    clear hb0
    obtain ⟨i, ca, o, rfl, rfl, hik, hca, hol, hoO, HV, hown, hb⟩ := hrel
    cases gk with
    | zero =>
      obtain rfl : i = l.length := by omega
      have hv := HV.out
      rw [List.take_length, List.take_of_length_le h2] at hv
      have hlt := nv_lt hoO
      rw [hol] at hlt
      have hc0 : ca = 0 := by
        rcases Nat.eq_zero_or_pos ca with q | q
        · exact q
        · exfalso
          obtain rfl : ca = 1 := by omega
          rw [Nat.one_mul] at hv
          have := HO.out.2.2
          omega
      subst hc0
      obtain ⟨A5, c5, e5, en5, hc5, hR5⟩ := own_rn hown
      subst e5
      have kt := rtrim_calls A5 o c5 wr hR5 (by omega) (by omega)
      rw [hol] at kt
      have Hv : Hid (nv o = nv l - nv l' ∧ Ok o) := Lib.hid ⟨by omega, hoO⟩
      clear hv HV hown hR5 hol en5 hlt
      go_wp2_with (go_at_call 109; (with_reducible refine kt.mono ?_); clear kt; rintro e1 w1 ⟨v1, rfl, hown1, hb1⟩)
      go_ret
      exact ⟨v1, rfl, by rw [← Hv.out.1]; exact own_ownn Hv.out.2 hown1, below_step hb hb1⟩
    | succ d =>
      have hiM : (i : Int) < (l.length : Int) := by omega
      have hx := getD_lt HO.out.1 i
      have hy := getD_lt HO.out.2.1 i
      have ka1 := ka i wr hb
      have kb1 := kb i wr hb
      have htx := take_getD (l := l) (i := i)
      have hty := take_getD (l := l') (i := i)
      generalize l.getD i 0 = x at *
      generalize l'.getD i 0 = y at *
      obtain ⟨X, s1, q, b, e0, e1, e1b, e2, e3, e4, e5, e6⟩ := less_val x y ca hx hy hca
      have hst := less_step HV.out e5
      rw [← htx, ← hty] at hst
      have hnew : nv (o ++ [s1]) + nv (l'.take (i + 1)) = nv (l.take (i + 1)) + b * 4294967296 ^ (i + 1) := by rw [nv_snoc, hol]; exact hst
      have HN : Hid _ := Lib.hid hnew
      have hwx : IntKind.u64.wrap ((x : Int) + 4294967296) = (x : Int) + 4294967296 := by rw [IntKind.wrap_u64]; omega
      have hwy : IntKind.u64.wrap ((x : Int) + 4294967296 - (y : Int)) = (x : Int) + 4294967296 - (y : Int) := by rw [IntKind.wrap_u64]; omega
      have hwz : IntKind.u64.wrap ((X : Int)) = (X : Int) := by rw [IntKind.wrap_u64]; omega
      have hww : IntKind.u64.wrap ((b : Int)) = (b : Int) := by rw [IntKind.wrap_u64]; omega
      have hwu : IntKind.u32.wrap (X : Int) = (s1 : Int) := by rw [IntKind.wrap_u32]; exact e1
      have hsz := hb.size
      have hown2 := hown.alloc (.cells #[.int .u32 (s1 : Int)] 53)
      clear hst e5 hnew htx hty HV
      go_wp2_with (first
        | (go_at_call 108; (with_reducible refine ka1.mono ?_); clear ka1; rintro e1 w1 ⟨rfl, rfl⟩)
        | (go_at_call 108; (with_reducible refine kb1.mono ?_); clear kb1; rintro e2 w2 ⟨rfl, rfl⟩)
        | (at_builtin; refine wpList_append_own _ rfl _ _ 50 rfl w.heap.size 53 i0 (.int .u32 0) 1 4 Tryz.underlying50 hi hz0 hz1 hz2 rfl (by decide) _ _ _ rfl hown2 ⟨_, 0, none⟩ 1 1 [.int .u32 (s1 : Int)] rfl rfl (cell_one_new _ _ _) (one_u32 s1) (by unfold maxLen; omega) (by omega) (by rw [World.size_alloc]; omega) ?_; intro v' w9 hown9 hgrow9 _; have hb9 := (hb.alloc hsz (.cells #[.int .u32 (s1 : Int)] 53)).grown hgrow9 (by rw [World.size_alloc]; omega) (own_lo hown2)))
      go_roundg d
      case rel => exact ⟨i + 1, b, o ++ [s1], by go_num, rfl, by omega, e3, by rw [List.length_append, hol]; rfl, hoO.append (ok_one e4), Lib.hid HN.out, by rw [cv_append]; exact hown9, hb9⟩
      case measure => omega
end Go.Proofs.YtffncomekbfihaaGreatDoor.Nat
namespace Go.Proofs.YtffncomekbfihaaGreatDoor.Nat
open Go.RowKit Go.Shelf
set_option linter.unusedVariables false
set_option linter.unusedSimpArgs false
theorem own_sl' {w : World} {B T n : Nat} {v : Value} {xs : List Value} (h : w.ownsRow B T 1 v n xs) : ∃ A c, v = .slice A n c := by
  rcases h.2 with ⟨rfl, h0⟩ | ⟨g, cap, cur, rfl, _⟩
  · exact ⟨none, 0, by rw [h0]⟩
  · exact ⟨_, cap, rfl⟩
set_option maxHeartbeats 8000000 in
set_option maxRecDepth 100000 in
theorem long_calls (Al : Option Addr) (ls : List (Option Addr × List Nat × Nat)) (cl : Nat) (w : World) (hL : SlAt w Al ls) (hG : ∀ q ∈ ls, Good w q ∧ tn q.2.1 ≤ 4096) (hn : ls.length ≤ 1000) :
    Calls Tryz.prog 119 #[.slice Al ls.length cl] w fun e w' => e = .returned (.bool false) ∧ Below w.heap.size w w' := by
  have HB0 := Below.refl w.heap.size w
  go_enter Tryz.func119, Tryz.ntmps119
  go_wp2
  go_loopg [3] ls.length (fun kq v3 wr => ∃ j : Nat, v3 = .int .i64 j ∧ j + kq = ls.length ∧ Below w.heap.size w wr)
  case atStart => exact ⟨0, rfl, by omega, HB0⟩
  case round =>
    clear HB0
    obtain ⟨j, rfl, hj, hb⟩ := hrel
    cases gk with
    | zero =>
      obtain rfl : j = ls.length := by omega
      go_wp2
      go_ret
      exact ⟨rfl, hb⟩
    | succ d =>
      have hlt : (j : Int) < (ls.length : Int) := by omega
      obtain ⟨q, hq⟩ : ∃ q, ls[j]? = some q := ⟨_, List.getElem?_eq_getElem (by omega)⟩
      have hqm := List.mem_of_getElem? hq
      obtain ⟨ad, rfl, hcell⟩ := hL j q hq
      have hcell2 := (hb.cell (World.block_lt_of_cell? _ _ hcell)).trans hcell
      obtain ⟨hg, ht⟩ := hG q hqm
      obtain ⟨A, l, c⟩ := q
      dsimp only at hcell hcell2 ht
      have hk := rtrim_calls A l c wr (hg.1.below hb) hg.2.1 hg.2.2
      have HL : Hid _ := Lib.hid hL
      have HG : Hid _ := Lib.hid hG
      clear hL hG hq hqm hcell
      have h1 : ¬ (4096 : Int) < (tn l : Int) := by omega
      go_wp2_with (go_at_call 109; (with_reducible refine hk.mono ?_); clear hk; rintro e1 w1 ⟨v1, rfl, hown, hb1⟩; obtain ⟨A1, c1, rfl⟩ := own_sl' hown)
      go_roundg d
      case rel => exact ⟨j + 1, by go_num, by omega, below_step hb hb1⟩
      case measure => omega
set_option maxHeartbeats 8000000 in
set_option maxRecDepth 100000 in
theorem rsub_v {w : World} {V1 V2 : Value} {a b : Nat} (h1 : NatV w V1 a) (h2 : NatV w V2 b) (hl : (limbs a).length ≤ 4096) (hab : b ≤ a) :
    Calls Tryz.prog 96 #[V1, V2] w fun e w' => ∃ v', e = .returned (.tuple #[v', .int .i64 0]) ∧ OwnN w' v' (a - b) ∧ Below w.heap.size w w' := by
  have hll := limbs_len_mono hab
  have kcmp := fun W (hb : Below w.heap.size w W) => rcmp_a ((h1.a hl).below hb) ((h2.a (by omega)).below hb)
  obtain ⟨A, c, rfl, hc, hR⟩ := h1
  obtain ⟨A', c', rfl, hc', hR'⟩ := h2
  have hcn : ¬ cmpI a b < 0 := by
    unfold cmpI
    rw [if_neg (by omega)]
    split <;> decide
  have hG : Good w (A, limbs a, c) := ⟨hR, hc, by dsimp only; omega⟩
  have hG' : Good w (A', limbs b, c') := ⟨hR', hc', by dsimp only; omega⟩
  have hb0 := below_alloc w (.cells #[.slice A (limbs a).length c, .slice A' (limbs b).length c'] 50)
  have k0 := long_calls (some ⟨w.heap.size, 0, none⟩) [(A, limbs a, c), (A', limbs b, c')] 2 _ (two_slat w A (limbs a) c A' (limbs b) c' 50) (fun q hq => by
    simp at hq
    rcases hq with rfl | rfl
    · exact ⟨hG.below hb0, by dsimp only; rw [tn_limbs]; omega⟩
    · exact ⟨hG'.below hb0, by dsimp only; rw [tn_limbs]; omega⟩) (by simp)
  simp only [List.length_cons, List.length_nil, Nat.zero_add] at k0
  have kl := fun W (hb : Below w.heap.size w W) => rless_calls A (limbs a) c A' (limbs b) c' W (hG.below hb) (hG'.below hb) (ok_limbs a) (ok_limbs b) (by omega) hll (by rw [nv_limbs, nv_limbs]; exact hab)
  rw [nv_limbs, nv_limbs] at kl
  clear hG hG' hR hR' hc hc' hll hl
  generalize (limbs a).length = n1 at *
  generalize (limbs b).length = n2 at *
  go_enter Tryz.func96, Tryz.ntmps96
  go_wp2_with (first
    | (go_at_call 119; (with_reducible refine k0.mono ?_); clear k0; rintro e1 w1 ⟨rfl, hb1⟩; have hb2 := below_step hb0 hb1)
    | (go_at_call 70; (with_reducible refine (kcmp _ hb2).mono ?_); clear kcmp; rintro e2 w2 ⟨rfl, hb3⟩; have hb4 := below_step hb2 hb3)
    | (go_at_call 126; (with_reducible refine (kl _ hb4).mono ?_); clear kl; rintro e3 w3 ⟨v3, rfl, hv3, hb5⟩))
  go_ret2
  exact ⟨v3, rfl, hv3, below_step hb4 hb5⟩
theorem bl_half {t : Nat} (h : t ≠ 0) : bl t = bl (t / 2) + 1 := by
  by_cases h1 : t / 2 = 0
  · obtain rfl : t = 1 := by omega
    decide +kernel
  · obtain ⟨b1, b2, b3⟩ := bl_bounds h1
    refine bl_of ?_ ?_
    · have e : 2 ^ bl (t / 2) = 2 * 2 ^ (bl (t / 2) - 1) := by rw [← Nat.pow_succ']; congr 1; omega
      omega
    · rw [Nat.pow_succ]; omega
set_option maxHeartbeats 8000000 in
set_option maxRecDepth 100000 in
theorem rbits_a {w : World} {V : Value} {a : Nat} (h : NatA w V a) (hl : (limbs a).length ≤ 10000) :
    Calls Tryz.prog 68 #[V] w fun e w' => e = .returned (.int .i64 (bl a : Nat)) ∧ Below w.heap.size w w' := by
  have k1 := rtrim_a h
  obtain ⟨A0, l0, c0, rfl, _, _⟩ := h
  go_enter Tryz.func68, Tryz.ntmps68
  by_cases h0 : a = 0
  · have hz : (limbs a).length = 0 := limbs_len_zero.2 h0
    subst h0
    go_wp2_with (go_at_call 109; (with_reducible refine k1.mono ?_); clear k1; rintro e1 w1 ⟨v1, rfl, hv1, hb1⟩; obtain ⟨A, c, rfl, hc, hR⟩ := hv1.natv; rw [hz])
    go_ret
    exact ⟨rfl, hb1⟩
  · obtain ⟨n, hn⟩ : ∃ n, (limbs a).length = n + 1 := ⟨(limbs a).length - 1, by have : (limbs a).length ≠ 0 := fun z => h0 (limbs_len_zero.1 z); omega⟩
    obtain ⟨x, hx⟩ : ∃ x, (limbs a)[n]? = some x := ⟨_, List.getElem?_eq_getElem (by omega)⟩
    have hx32 := (ok_limbs a).get hx
    obtain ⟨hx0, hbl⟩ := bl_top (ok_limbs a) (by rw [tn_limbs]; exact hn) hx
    rw [nv_limbs] at hbl
    have hbx := bl_le (x := x) (k := 32) hx32
    have HX : Hid _ := Lib.hid (And.intro hx (And.intro hn hbl))
    have hn1 : n ≤ 10000 := by omega
    rw [hn] at hl
    clear hx hbl
    go_wp2_with (go_at_call 109; (with_reducible refine k1.mono ?_); clear k1; rintro e1 w1 ⟨v1, rfl, hv1, hb1⟩; obtain ⟨A, c, rfl, hc, hR⟩ := hv1.natv; obtain ⟨ad, rfl, hcell⟩ := hR n x HX.out.1; rw [hn]; clear hR hv1 hc hn)
    go_loopg [4, 5] (bl x) (fun kq v4 v5 wr => ∃ t : Nat, v5 = .int .u32 t ∧ v4 = .int .i64 ((32 * n + (bl x - kq) : Nat) : Int) ∧ kq ≤ bl x ∧ Hid (bl t = kq) ∧ t < 4294967296 ∧ wr = w1)
    case atStart => exact ⟨x, rfl, by go_num, Nat.le_refl _, Lib.hid rfl, hx32, rfl⟩
    case round =>
      obtain ⟨t, rfl, rfl, hk, HT, ht32, rfl⟩ := hrel
      cases gk with
      | zero =>
        have ht0 : t = 0 := by
          rcases Nat.eq_zero_or_pos t with q | q
          · exact q
          · exfalso; have := (bl_bounds (v := t) (by omega)).1; have := HT.out; omega
        subst ht0
        go_wp2
        go_ret
        exact ⟨by rw [HX.out.2.2]; rfl, hb1⟩
      | succ d =>
        have ht0 : t ≠ 0 := fun q => by
          have h1 := HT.out
          rw [q] at h1
          have : bl 0 = 0 := by decide +kernel
          omega
        have h2 := bl_half ht0
        rw [HT.out] at h2
        have htI : (0 : Int) < (t : Int) := by omega
        obtain ⟨T2, hT2⟩ : ∃ T2, t / 2 = T2 := ⟨_, rfl⟩
        have htI2 : (t : Int) / 2 = (T2 : Int) := by omega
        have HN : Hid (bl T2 = d) := Lib.hid (by rw [← hT2]; omega)
        have hT32 : T2 < 4294967296 := by omega
        obtain ⟨M, hM⟩ : ∃ M, 32 * n + (bl x - (d + 1)) = M := ⟨_, rfl⟩
        have hM2 : 32 * n + (bl x - d) = M + 1 := by omega
        rw [hM]
        clear h2 hT2
        go_wp2
        go_roundg d
        case rel => exact ⟨T2, rfl, by rw [hM2]; go_num, by omega, HN, hT32, rfl⟩
        case measure => omega
end Go.Proofs.YtffncomekbfihaaGreatDoor.Nat
