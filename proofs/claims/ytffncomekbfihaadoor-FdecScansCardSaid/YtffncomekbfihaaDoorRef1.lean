/- glossatorref01: Trim, Cmp, at, sum. -/
import Derived.Test.YtffncomekbfihaaDoorDivO
namespace Go.Proofs.YtffncomekbfihaaDoor.Nat
open Go.RowKit Go.Shelf
set_option linter.unusedVariables false
set_option linter.unusedSimpArgs false
theorem cv_tl {l : List Nat} {j : Nat} {u : Value} (h : (cv (tl l))[j]? = some u) : (cv l)[j]? = some u := by
  unfold cv at *
  rw [List.getElem?_map] at *
  obtain ⟨x, hx, rfl⟩ := Option.map_eq_some_iff.1 h
  have hj := (List.getElem?_eq_some_iff.1 hx).1
  rw [tl_length] at hj
  rw [tl_get hj] at hx
  rw [hx]
  rfl
theorem one_cv' (l : List Nat) : ∀ u ∈ cv l, u.oneCell' = true := fun u hu => by
  obtain ⟨x, _, rfl⟩ := List.mem_map.1 hu
  rfl
set_option maxHeartbeats 8000000 in
set_option maxRecDepth 100000 in
theorem rtrim_calls (A : Option Addr) (l : List Nat) (c : Nat) (w : World) (hR : Rd w A l) (hc : l.length ≤ c) (hl : l.length ≤ 1099511627776) :
    Calls Tryd.prog 106 #[.slice A l.length c] w fun e w' => ∃ v', e = .returned v' ∧ w'.ownsRow w.heap.size 62 1 v' (tn l) (cv (tl l)) ∧ Below w.heap.size w w' := by
  obtain ⟨i0, hi, hz0, hz1, hz2⟩ := info_parts info40
  have hb0 := Below.refl w.heap.size w
  go_enter Tryd.func106, Tryd.ntmps106
  go_wp2
  go_loopg [3] l.length (fun kq v3 wr => v3 = .int .i64 kq ∧ kq ≤ l.length ∧ (∀ (j x : Nat), kq ≤ j → l[j]? = some x → x = 0) ∧ wr = w)
  case atStart => exact ⟨rfl, Nat.le_refl _, (fun j x hj hx => (by have := (List.getElem?_eq_some_iff.1 hx).1; omega)), rfl⟩
  case round =>
    obtain ⟨rfl, hk, hz, rfl⟩ := hrel
    have hcells : ∀ (ad : Addr), A = some ad → ∀ (i : Nat) (u : Value), (cv l)[i]? = some u → wr.cell? (ad.add i) = some u := fun ad e i u hu => by
      unfold cv at hu
      rw [List.getElem?_map] at hu
      obtain ⟨x, hx, rfl⟩ := Option.map_eq_some_iff.1 hu
      obtain ⟨ad2, e2, hcx⟩ := hR i x hx
      rw [e] at e2
      cases e2; exact hcx
    have HC : Hid _ := Lib.hid hcells
    clear hcells
    have hmade : (wr.alloc (.cells #[] 62)).ownsRow wr.heap.size 62 1 (.slice (some ⟨wr.heap.size, 0, none⟩) 0 0) 0 [] := World.ownsRow_made wr #[] 0 (Nat.le_refl _) (Nat.zero_le _) rfl
    cases gk with
    | zero =>
      have e : tn l = 0 := tn_of (Nat.zero_le _) hz (.inl rfl)
      have et : tl l = [] := by unfold tl; rw [e]; rfl
      have HE : Hid _ := Lib.hid (And.intro e et)
      clear e et hz
      cases A with
      | none =>
        go_wp2
        go_ret
        exact ⟨_, rfl, by rw [HE.out.1, HE.out.2]; exact hmade, below_alloc wr _⟩
      | some ad =>
        go_wp2_with (at_builtin; refine wpList_append_own _ rfl _ _ 55 rfl wr.heap.size 62 i0 (.int .u32 0) 1 4 Tryd.underlying55 hi hz0 hz1 hz2 rfl (by decide) _ _ _ rfl hmade ad 0 c (cv (tl l)) rfl (by rw [cv_length, tl_length]; have := HE.out.1; omega) (fun j u hj => Lib.cell?_alloc_some _ (HC.out ad rfl j u (cv_tl hj))) (one_cv' _) (by unfold maxLen; omega) (by omega) (by simp) ?_; intro v' w9 hown9 hgrow9 _; have hb9 := ((Below.refl wr.heap.size wr).alloc (Nat.le_refl _) (.cells #[] 62)).grown hgrow9 (by simp) (own_lo hmade))
        go_ret
        exact ⟨v', rfl, by rw [HE.out.1]; simpa using hown9, hb9⟩
    | succ d =>
      obtain ⟨ad, x, rfl, hx, hcell⟩ := hR.at (j := d) (by omega)
      by_cases h0 : x = 0
      · subst h0
        go_wp2
        go_roundg d
        case rel => exact ⟨rfl, by omega, (fun j x hj hx2 => by
          rcases Nat.lt_or_ge d j with h | h
          · exact hz j x h hx2
          · obtain rfl : j = d := by omega
            rw [hx] at hx2; cases hx2; rfl), rfl⟩
        case measure => omega
      · have e : tn l = d + 1 := tn_of hk hz (.inr ⟨x, by simpa using hx, h0⟩)
        have HE : Hid _ := Lib.hid e
        have hxI : ¬ (x : Int) = 0 := by omega
        clear e hz h0
        go_wp2_with (at_builtin; refine wpList_append_own _ rfl _ _ 55 rfl wr.heap.size 62 i0 (.int .u32 0) 1 4 Tryd.underlying55 hi hz0 hz1 hz2 rfl (by decide) _ _ _ rfl hmade ad (d + 1) c (cv (tl l)) rfl (by rw [cv_length, tl_length]; have := HE.out; omega) (fun j u hj => Lib.cell?_alloc_some _ (HC.out ad rfl j u (cv_tl hj))) (one_cv' _) (by unfold maxLen; omega) (by omega) (by simp) ?_; intro v' w9 hown9 hgrow9 _; have hb9 := ((Below.refl wr.heap.size wr).alloc (Nat.le_refl _) (.cells #[] 62)).grown hgrow9 (by simp) (own_lo hmade))
        go_ret
        exact ⟨v', rfl, by rw [HE.out]; simpa using hown9, hb9⟩
theorem rtrim_a {w : World} {V : Value} {a : Nat} (h : NatA w V a) :
    Calls Tryd.prog 106 #[V] w fun e w' => ∃ v', e = .returned v' ∧ OwnN w' v' a ∧ Below w.heap.size w w' := by
  obtain ⟨A, l, c, rfl, hG, hO, rfl⟩ := h
  refine (rtrim_calls A l c w hG.1 hG.2.1 hG.2.2).mono ?_
  rintro e w' ⟨v', rfl, hown, hb⟩
  exact ⟨v', rfl, own_ownn hO hown, hb⟩
set_option maxHeartbeats 8000000 in
set_option maxRecDepth 100000 in
theorem rcmp_a {w : World} {V1 V2 : Value} {a b : Nat} (h1 : NatA w V1 a) (h2 : NatA w V2 b) :
    Calls Tryd.prog 111 #[V1, V2] w fun e w' => e = .returned (.int .i64 (cmpI a b)) ∧ Below w.heap.size w w' := by
  have k1 := rtrim_a h1
  have k2 := fun W (hb : Below w.heap.size w W) => rtrim_a (h2.below hb)
  obtain ⟨A0, l0, c0, rfl, hG0, hO0, hv0⟩ := h1
  obtain ⟨B0, m0, d0, rfl, hG1, _⟩ := h2
  have hla : (limbs a).length ≤ 1099511627776 := by rw [← hv0, ← tn_eq hO0]; exact Nat.le_trans (tn_le l0) hG0.2.2
  clear hG0 hG1 hO0 hv0
  go_enter Tryd.func111, Tryd.ntmps111
  go_wp2_with (first | (go_at_call 106; (with_reducible refine k1.mono ?_); clear k1; rintro e1 w1 ⟨v1, rfl, hv1, hb1⟩; obtain ⟨A, c, rfl, hc, hR⟩ := hv1.natv) | (go_at_call 106; (with_reducible refine (k2 _ hb1).mono ?_); clear k2; rintro e2 w2 ⟨v2, rfl, hv2, hb2⟩; obtain ⟨A', c', rfl, hc', hR'⟩ := hv2.natv; have hb3 := below_step hb1 hb2; have hR2 := hR.below hb2; have hO := ok_limbs a; have hO' := ok_limbs b; have hva := nv_limbs a; have hvb := nv_limbs b))
  · rename_i h
    go_ret
    refine ⟨?_, hb3⟩
    have h1 := cmp_len (a := a) (b := b) h
    rw [show cmpI a b = -1 by unfold cmpI; rw [if_pos h1]]
    rfl
  · rename_i h0 h
    go_ret
    refine ⟨?_, hb3⟩
    have h2 : (limbs b).length < (limbs a).length := by
      have h3 : ((limbs a).length : Int) ≠ ((limbs b).length : Int) := by simpa using h0
      omega
    have h1 := cmp_len (a := b) (b := a) h2
    rw [show cmpI a b = 1 by unfold cmpI; rw [if_neg (by omega), if_pos h1]]
    rfl
  · have hlen : (limbs a).length = (limbs b).length := by
      have h3 : ((limbs a).length : Int) = ((limbs b).length : Int) := by simpa using ‹(((limbs a).length : Int) != ((limbs b).length : Int)) = false›
      omega
    clear hv1 hv2 hR
    generalize limbs a = l at *
    generalize limbs b = l' at *
    subst hva
    subst hvb
    go_loopg [7] l.length (fun kq v7 wr => v7 = .int .i64 ((kq : Int) - 1) ∧ kq ≤ l.length ∧ l.drop kq = l'.drop kq ∧ Below w2.heap.size w2 wr)
    case atStart => exact ⟨rfl, Nat.le_refl _, (by rw [List.drop_of_length_le (by omega), List.drop_of_length_le (by omega)]), Below.refl _ _⟩
    case round =>
      obtain ⟨rfl, hk, hd, hb⟩ := hrel
      cases gk with
      | zero =>
        rw [show ((0 : Nat) : Int) - 1 = -1 from rfl]
        rw [List.drop_zero, List.drop_zero] at hd
        have h1 : nv l = nv l' := by rw [hd]
        have Hq : Hid _ := Lib.hid h1
        clear h1 hd
        go_wp2
        go_ret
        refine ⟨?_, hb3.trans (hb.mono hb3.size)⟩
        have h1 := Hq.out
        rw [show cmpI (nv l) (nv l') = 0 by unfold cmpI; rw [if_neg (by omega), if_neg (by omega)]]
        rfl
      | succ d =>
        rw [show ((d + 1 : Nat) : Int) - 1 = (d : Int) by omega]
        obtain ⟨ad, x, rfl, hx, hcell⟩ := hR2.at (j := d) (by omega)
        obtain ⟨ad', x', rfl, hx', hcell'⟩ := hR'.at (j := d) (by omega)
        have y := (hb.cell (World.block_lt_of_cell? _ _ hcell)).trans hcell
        have y' := (hb.cell (World.block_lt_of_cell? _ _ hcell')).trans hcell'
        have hd0 : (0 : Int) ≤ (d : Int) := by omega
        have hd1 : (d : Int) < (l.length : Int) := by omega
        have hd2 : (d : Int) < (l'.length : Int) := by omega
        clear hcell hcell'
        rcases Nat.lt_trichotomy x x' with hlt | rfl | hgt
        · have h1 := cmp_at hO hO' hlen hx hx' hd hlt
          have q : (x : Int) < (x' : Int) := by omega
          have H1 : Hid _ := Lib.hid h1
          clear h1 hd
          go_wp2_with fail
          go_quiet (fail)
          go_wp2_with fail
          go_ret
          refine ⟨?_, below_dr (hb3.trans (hb.mono hb3.size)) _⟩
          rw [show cmpI (nv l) (nv l') = -1 by unfold cmpI; rw [if_pos H1.out]]
          rfl
        · have Hd : Hid _ := Lib.hid hd
          clear hd
          go_wp2_with fail
          go_quiet (fail)
          go_wp2_with fail
          go_quiet (fail)
          go_wp2_with fail
          go_roundg d
          case rel => exact ⟨rfl, by omega, (by
            have e1 := List.drop_eq_getElem_cons (l := l) (i := d) (by omega)
            have e2 := List.drop_eq_getElem_cons (l := l') (i := d) (by omega)
            rw [e1, e2, Hd.out, (List.getElem?_eq_some_iff.1 hx).2, (List.getElem?_eq_some_iff.1 hx').2]), by first | exact below_dr (below_dr hb _) _ | exact below_dr hb _⟩
          case measure => omega
        · have h1 := cmp_at hO' hO hlen.symm hx' hx hd.symm hgt
          have q : (x' : Int) < (x : Int) := by omega
          have q2 : ¬ (x : Int) < (x' : Int) := by omega
          have H1 : Hid _ := Lib.hid h1
          clear h1 hd
          go_wp2_with fail
          go_quiet (fail)
          go_wp2_with fail
          go_quiet (fail)
          go_wp2_with fail
          go_ret
          refine ⟨?_, by first | exact below_dr (below_dr (hb3.trans (hb.mono hb3.size)) _) _ | exact below_dr (hb3.trans (hb.mono hb3.size)) _⟩
          have h1 := H1.out
          rw [show cmpI (nv l) (nv l') = 1 by unfold cmpI; rw [if_neg (by omega), if_pos h1]]
          rfl
set_option maxHeartbeats 4000000 in
theorem at_calls (A : Option Addr) (l : List Nat) (c i : Nat) (w : World) (hR : Rd w A l) (hO : Ok l) :
    Calls Tryd.prog 105 #[.slice A l.length c, .int .i64 (i : Int)] w fun e w' => e = .returned (.int .u64 ((l.getD i 0 : Nat) : Int)) ∧ w' = w := by
  by_cases hi : i < l.length
  · obtain ⟨ad, x, rfl, hx, hcell⟩ := hR.at hi
    have hg : l.getD i 0 = x := by rw [List.getD_eq_getElem?_getD, hx]; rfl
    rw [hg]
    have hx32 := hO.get hx
    have hw : IntKind.u64.wrap (x : Int) = (x : Int) := by rw [IntKind.wrap_u64]; omega
    have h0 : ¬ (i : Int) < 0 := by omega
    have h1 : ¬ (l.length : Int) ≤ (i : Int) := by omega
    have h2 : (i : Int) < (l.length : Int) := by omega
    clear hg hx
    go_enter Tryd.func105, Tryd.ntmps105
    go_wp2
    go_ret
    exact ⟨rfl, rfl⟩
  · have hg : l.getD i 0 = 0 := by rw [List.getD_eq_getElem?_getD, List.getElem?_eq_none (by omega)]; rfl
    rw [hg]
    have h0 : ¬ (i : Int) < 0 := by omega
    have h1 : (l.length : Int) ≤ (i : Int) := by omega
    clear hg
    go_enter Tryd.func105, Tryd.ntmps105
    go_wp2
    go_ret
    exact ⟨rfl, rfl⟩
theorem sum_step {N E L1 L2 x y c : Nat} (h : N + E * c = L1 + L2) : (N + E * ((c + x + y) % 4294967296)) + E * 4294967296 * ((c + x + y) / 4294967296) = (L1 + E * x) + (L2 + E * y) := by
  have h1 := Nat.div_add_mod (c + x + y) 4294967296
  have h2 : E * (4294967296 * ((c + x + y) / 4294967296) + (c + x + y) % 4294967296) = E * (c + x + y) := by rw [h1]
  rw [Nat.mul_add, Nat.mul_add, Nat.mul_add, ← Nat.mul_assoc] at h2
  omega
theorem take_getD {l : List Nat} {i : Nat} : nv (l.take (i + 1)) = nv (l.take i) + 4294967296 ^ i * l.getD i 0 := by
  by_cases hi : i < l.length
  · have hx : l[i]? = some l[i] := List.getElem?_eq_getElem hi
    rw [nv_take_succ hx, List.getD_eq_getElem?_getD, hx]
    rfl
  · rw [List.getD_eq_getElem?_getD, List.getElem?_eq_none (by omega), List.take_of_length_le (by omega), List.take_of_length_le (by omega)]
    simp
theorem getD_lt {l : List Nat} (h : Ok l) (i : Nat) : l.getD i 0 < 4294967296 := by
  by_cases hi : i < l.length
  · have hx : l[i]? = some l[i] := List.getElem?_eq_getElem hi
    rw [List.getD_eq_getElem?_getD, hx]
    exact h.get hx
  · rw [List.getD_eq_getElem?_getD, List.getElem?_eq_none (by omega)]
    decide
theorem getD_zero {l : List Nat} {i : Nat} (h : l.length ≤ i) : l.getD i 0 = 0 := by
  rw [List.getD_eq_getElem?_getD, List.getElem?_eq_none h]; rfl
set_option maxHeartbeats 8000000 in
set_option maxRecDepth 100000 in
theorem rsum_calls (A : Option Addr) (l : List Nat) (c : Nat) (A' : Option Addr) (l' : List Nat) (c' : Nat) (w : World) (hG : Good w (A, l, c)) (hG' : Good w (A', l', c')) (hO : Ok l) (hO' : Ok l') (h1 : l.length ≤ 10000) (h2 : l'.length ≤ 10000) :
    Calls Tryd.prog 104 #[.slice A l.length c, .slice A' l'.length c'] w fun e w' => ∃ v', e = .returned v' ∧ OwnN w' v' (nv l + nv l') ∧ Below w.heap.size w w' := by
  obtain ⟨i0, hi, hz0, hz1, hz2⟩ := info_parts info40
  obtain ⟨M, hM⟩ : ∃ M, max l.length l'.length = M := ⟨_, rfl⟩
  have hM1 : l.length ≤ M := by omega
  have hM2 : l'.length ≤ M := by omega
  have hM4 : M ≤ 10000 := by omega
  have hMI : max (l.length : Int) (l'.length : Int) = (M : Int) := by omega
  have ka := fun i W (hb : Below w.heap.size w W) => at_calls A l c i W (hG.1.below hb) hO
  have kb := fun i W (hb : Below w.heap.size w W) => at_calls A' l' c' i W (hG'.1.below hb) hO'
  have hb0 := Below.refl w.heap.size w
  have HO : Hid _ := Lib.hid (And.intro hO hO')
  clear hM hG hG' hO hO'
  go_enter Tryd.func104, Tryd.ntmps104
  go_wp2
  go_loopg [5, 6, 7] (M + 1) (fun kq v5 v6 v7 wr => ∃ (i ca : Nat) (o : List Nat), v7 = .int .i64 i ∧ v6 = .int .u64 ca ∧ i + kq = M + 1 ∧ ca ≤ 1 ∧ (M < i → ca = 0) ∧ o.length = i ∧ Ok o ∧ Hid (nv o + 4294967296 ^ i * ca = nv (l.take i) + nv (l'.take i)) ∧ wr.ownsRow w.heap.size 62 1 v5 i (cv o) ∧ Below w.heap.size w wr)
  case atStart => exact ⟨0, 0, [], rfl, rfl, by omega, by decide, (fun _ => rfl), rfl, ok_nil, Lib.hid rfl, World.ownsRow_nil _ _ _ _, hb0⟩
  case round =>
    clear hb0
    obtain ⟨i, ca, o, rfl, rfl, hik, hca, hcz, hol, hoO, HV, hown, hb⟩ := hrel
    cases gk with
    | zero =>
      have hc0 := hcz (by omega)
      subst hc0
      have hv := HV.out
      rw [List.take_of_length_le (by omega), List.take_of_length_le (by omega), Nat.mul_zero, Nat.add_zero] at hv
      obtain ⟨A5, c5, e5, en5, hc5, hR5⟩ := own_rn hown
      subst e5
      have kt := rtrim_calls A5 o c5 wr hR5 (by omega) (by omega)
      rw [hol] at kt
      have Hv : Hid _ := Lib.hid (And.intro hv hoO)
      have hiM : ¬ (i : Int) ≤ (M : Int) := by omega
      clear hv HV hcz hown hR5 hol en5
      go_wp2_with (go_at_call 106; (with_reducible refine kt.mono ?_); clear kt; rintro e1 w1 ⟨v1, rfl, hown1, hb1⟩)
      go_ret
      exact ⟨v1, rfl, by rw [← Hv.out.1]; exact own_ownn Hv.out.2 hown1, below_step hb hb1⟩
    | succ d =>
      have hiM : (i : Int) ≤ (M : Int) := by omega
      have hx := getD_lt HO.out.1 i
      have hy := getD_lt HO.out.2 i
      have hst := sum_step (x := l.getD i 0) (y := l'.getD i 0) HV.out
      rw [← take_getD, ← take_getD, ← Nat.pow_succ] at hst
      have ka1 := ka i wr hb
      have kb1 := kb i wr hb
      have hzx : M ≤ i → l.getD i 0 = 0 := fun q => getD_zero (by omega)
      have hzy : M ≤ i → l'.getD i 0 = 0 := fun q => getD_zero (by omega)
      generalize l.getD i 0 = x at *
      generalize l'.getD i 0 = y at *
      obtain ⟨S, hS⟩ : ∃ S, ca + x + y = S := ⟨_, rfl⟩
      obtain ⟨s1, hs1⟩ : ∃ s1, S % 4294967296 = s1 := ⟨_, rfl⟩
      obtain ⟨s2, hs2⟩ : ∃ s2, S / 4294967296 = s2 := ⟨_, rfl⟩
      rw [hS, hs1, hs2] at hst
      have hw1 : IntKind.u64.wrap ((ca : Int) + (x : Int)) = (ca : Int) + (x : Int) := by rw [IntKind.wrap_u64]; omega
      have hw2 : IntKind.u64.wrap ((ca : Int) + (x : Int) + (y : Int)) = (S : Int) := by rw [IntKind.wrap_u64]; omega
      have hw3 : IntKind.u32.wrap (S : Int) = (s1 : Int) := by rw [IntKind.wrap_u32]; omega
      have hw4 : (S : Int) / 4294967296 = (s2 : Int) := by omega
      have hs1l : s1 < 4294967296 := by omega
      have hs2l : s2 ≤ 1 := by omega
      have hs2z : M < i + 1 → s2 = 0 := fun q => by have h1 := hzx (by omega); have h2 := hzy (by omega); omega
      have hnew : nv (o ++ [s1]) + 4294967296 ^ (i + 1) * s2 = nv (l.take (i + 1)) + nv (l'.take (i + 1)) := by rw [nv_snoc, hol]; exact hst
      have HN : Hid _ := Lib.hid (And.intro hnew hs2z)
      have hsz := hb.size
      have hown2 := hown.alloc (.cells #[.int .u32 (s1 : Int)] 62)
      clear hst hS hs1 hs2 hnew hs2z hzx hzy HV hcz
      go_wp2_with (first
        | (go_at_call 105; (with_reducible refine ka1.mono ?_); clear ka1; rintro e1 w1 ⟨rfl, rfl⟩)
        | (go_at_call 105; (with_reducible refine kb1.mono ?_); clear kb1; rintro e2 w2 ⟨rfl, rfl⟩)
        | (at_builtin; refine wpList_append_own _ rfl _ _ 55 rfl w.heap.size 62 i0 (.int .u32 0) 1 4 Tryd.underlying55 hi hz0 hz1 hz2 rfl (by decide) _ _ _ rfl hown2 ⟨_, 0, none⟩ 1 1 [.int .u32 (s1 : Int)] rfl rfl (cell_one_new _ _ _) (one_u32 s1) (by unfold maxLen; omega) (by omega) (by rw [World.size_alloc]; omega) ?_; intro v' w9 hown9 hgrow9 _; have hb9 := (hb.alloc hsz (.cells #[.int .u32 (s1 : Int)] 62)).grown hgrow9 (by rw [World.size_alloc]; omega) (own_lo hown2)))
      go_roundg d
      case rel => exact ⟨i + 1, s2, o ++ [s1], by go_num, rfl, by omega, hs2l, HN.out.2, by rw [List.length_append, hol]; rfl, hoO.append (ok_one hs1l), Lib.hid HN.out.1, by rw [cv_append]; exact hown9, hb9⟩
      case measure => omega
end Go.Proofs.YtffncomekbfihaaDoor.Nat
