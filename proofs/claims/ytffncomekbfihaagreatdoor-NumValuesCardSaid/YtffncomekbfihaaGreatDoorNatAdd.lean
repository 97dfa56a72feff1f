/- nat.Add of two numbers. -/
import Derived.Test.YtffncomekbfihaaGreatDoorNatMul
namespace Go.Proofs.YtffncomekbfihaaGreatDoor.Nat
open Go.RowKit Go.Shelf
set_option linter.unusedVariables false
theorem cell_one_new (w : World) (v : Value) (t : Nat) : ∀ (j : Nat) (u : Value), [v][j]? = some u → (w.alloc (.cells #[v] t)).cell? ((⟨w.heap.size, 0, none⟩ : Addr).add j) = some u := fun j u h => by
  have hj := (List.getElem?_eq_some_iff.1 h).1
  obtain rfl : j = 0 := by simpa using hj
  simp at h; subst h
  rw [Addr.add_lit, Lib.cell_of_heap (heap_alloc_new w _)]; rfl
theorem one_u32 (x : Int) : ∀ u ∈ [Value.int .u32 x], u.oneCell' = true := fun u hu => by simp at hu; subst hu; rfl
theorem set_step {o : List Nat} {i old : Nat} (s : Nat) (h : o[i]? = some old) : nv (o.set i (s % 4294967296)) + 4294967296 ^ (i + 1) * (s / 4294967296) + 4294967296 ^ i * old = nv o + 4294967296 ^ i * s := by
  have h1 := nv_set (s % 4294967296) h
  have h4 := Nat.mod_add_div s 4294967296
  rw [Nat.pow_succ, Nat.mul_assoc]
  generalize s % 4294967296 = s1 at *
  generalize s / 4294967296 = s2 at *
  generalize 4294967296 ^ i = E at *
  have h5 : E * (s1 + 4294967296 * s2) = E * s := by rw [h4]
  rw [Nat.mul_add] at h5
  omega
theorem nv_snoc (l : List Nat) (x : Nat) : nv (l ++ [x]) = nv l + 4294967296 ^ l.length * x := by rw [nv_append]; simp [nv]
theorem ok_one {x : Nat} (h : x < 4294967296) : Ok [x] := ok_cons h ok_nil
theorem own_le {w : World} {B B' T n : Nat} {v : Value} {xs : List Value} (h : w.ownsRow B T 1 v n xs) (hb : B' ≤ B) : w.ownsRow B' T 1 v n xs := ⟨h.1, h.2.imp id (fun ⟨g, cap, cur, a, b, c⟩ => ⟨g, cap, cur, a, Nat.le_trans hb b, c⟩)⟩
theorem own_lo {w : World} {B T n : Nat} {v : Value} {xs : List Value} (h : w.ownsRow B T 1 v n xs) : ∀ k, v.ownBlock = some k → B ≤ k := fun k hk => (h.lt k hk).1
theorem own_keep {w w' : World} {B T n : Nat} {v : Value} {xs : List Value} (h : w.ownsRow B T 1 v n xs) (hb : Below w.heap.size w w') : w'.ownsRow B T 1 v n xs :=
  ⟨h.1, h.2.imp id (fun ⟨g, cap, cur, a, b, c, d⟩ => ⟨g, cap, cur, a, b, (hb.block g (Array.getElem?_eq_some_iff.1 c).1).trans c, d⟩)⟩
theorem own_form {w : World} {B T n : Nat} {v : Value} {xs : List Value} (h : w.ownsRow B T 1 v n xs) (hn : 0 < n) : ∃ g cap, v = .slice (some ⟨g, 0, none⟩) n cap := by
  rcases h.2 with ⟨_, h0⟩ | ⟨g, cap, _, e, _⟩
  · omega
  · exact ⟨g, cap, e⟩
theorem own_good {w : World} {B T : Nat} {A : Option Addr} {n c m : Nat} {l : List Nat} (h : w.ownsRow B T 1 (.slice A n c) m (cv l)) (hl : l.length ≤ 1099511627776) : Good w (A, l, c) ∧ n = l.length := by
  obtain ⟨A2, c2, e2, e3, hc2, hR2⟩ := own_rd h
  cases e2
  exact ⟨⟨hR2, hc2, hl⟩, rfl⟩
set_option maxHeartbeats 8000000 in
set_option maxRecDepth 100000 in
theorem add_calls (A : Option Addr) (l : List Nat) (c : Nat) (Ab : Option Addr) (A' : Option Addr) (l' : List Nat) (c' cb : Nat) (w : World) (hG : Good w (A, l, c)) (hS : SlAt w Ab [(A', l', c')]) (hG' : Good w (A', l', c')) (hO : Ok l) (hO' : Ok l') (h4 : (limbs (nv l + nv l')).length ≤ 4096) :
    Calls Tryz.prog 24 #[.slice A l.length c, .slice Ab 1 cb] w fun e w' => ∃ v', e = .returned (.tuple #[v', .int .i64 0]) ∧ NatV w' v' (nv l + nv l') ∧ Below w.heap.size w w' := by
  have hle := tn_le l
  have hle' := tn_le l'
  have hl := hG.2.2
  have hl' := hG'.2.2
  dsimp only at hl hl'
  have t1 : tn l ≤ 4096 := by rw [tn_eq hO]; exact Nat.le_trans (limbs_len_mono (Nat.le_add_right _ _)) h4
  have t2 : tn l' ≤ 4096 := by rw [tn_eq hO']; exact Nat.le_trans (limbs_len_mono (Nat.le_add_left _ _)) h4
  obtain ⟨adb, rfl, hcb⟩ := hS 0 _ rfl
  dsimp only at hcb
  rw [Addr.add_zero'] at hcb
  have hb0 := below_alloc w (.cells #[.slice A l.length c] 50)
  have k0 := fits_calls (some ⟨w.heap.size, 0, none⟩) [(A, l, c)] 1 _ (one_slat w A l c 50) (fun q hq => by simp at hq; subst hq; exact hG.below hb0) (by simp)
  rw [show ([(A, l, c)].all (fun q : Option Addr × List Nat × Nat => decide (tn q.2.1 ≤ 4096))) = true by simpa using t1] at k0
  simp only [List.length_cons, List.length_nil, Nat.zero_add] at k0
  have k00 := fun W (hb : Below w.heap.size w W) => fits_calls (some adb) [(A', l', c')] cb W (fun j q hq => by
    obtain ⟨ad, e, h⟩ := hS j q hq
    exact ⟨ad, e, (hb.cell (World.block_lt_of_cell? _ _ h)).trans h⟩) (fun q hq => by simp at hq; subst hq; exact hG'.below hb) (by simp)
  rw [show ([(A', l', c')].all (fun q : Option Addr × List Nat × Nat => decide (tn q.2.1 ≤ 4096))) = true by simpa using t2] at k00
  simp only [List.length_cons, List.length_nil, Nat.zero_add] at k00
  have k1 := fun W (hb : Below w.heap.size w W) => trim_calls A l c W (hG.1.below hb) hG.2.1 hG.2.2
  have k2 := fun W (hb : Below w.heap.size w W) => trim_calls A' l' c' W (hG'.1.below hb) hG'.2.1 hG'.2.2
  have k3 := fun W (hb : Below w.heap.size w W) => clone_calls A (tl l) c W ((hG.1.below hb).take _) (by rw [tl_length]; exact Nat.le_trans hle hG.2.1) (by rw [tl_length]; exact Nat.le_trans hle hG.2.2)
  simp only [tl_length] at k3
  go_enter Tryz.func24, Tryz.ntmps24
  go_wp2_with (first | (go_at_call 56; (with_reducible refine k0.mono ?_); clear k0; rintro e1 w1 ⟨rfl, hb1⟩; have hb2 := below_step hb0 hb1) | (go_at_call 56; (with_reducible refine (k00 _ hb2).mono ?_); clear k00; rintro e1 w2 ⟨rfl, hb3⟩; have hb4 := below_step hb2 hb3) | (go_at_call 58; (with_reducible refine (k1 _ hb4).mono ?_); clear k1; rintro e2 w3 ⟨rfl, hb5⟩; have hb6 := below_step hb4 hb5) | (go_at_call 57; (with_reducible refine (k3 _ hb6).mono ?_); clear k3; rintro e3 w4 ⟨v0, rfl, hown, hb7⟩; have hb8 := below_step hb6 hb7; have hown1 := own_le hown hb6.size; clear hown; obtain ⟨Ao, co, rfl, _⟩ := own_rd hown1))
  have hown2 : w4.ownsRow w.heap.size 53 1 (.slice Ao (tl l).length co) (tl l).length (cv (tl l)) := by rw [tl_length] at hown1 ⊢; exact hown1
  clear hown1
  rw [tl_length] at *
  obtain ⟨i0, hi, hz0, hz1, hz2⟩ := info_parts info40
  clear hb0 hb1 hb2 hb3 hb4 hb5 hb6 hb7
  go_loopg [6, 8, 9, 10, 25] 1 (fun kq v6 v8 v9 v10 v25 wr => ∃ (Ao : Option Addr) (co m : Nat) (o : List Nat), v6 = .slice Ao m co ∧ o.length = m ∧ wr.ownsRow w.heap.size 53 1 (.slice Ao m co) m (cv o) ∧ Ok o ∧ Below w.heap.size w wr ∧ ((kq = 1 ∧ v25 = .int .i64 0 ∧ o = tl l ∧ m = tn l) ∨ (kq = 0 ∧ v25 = .int .i64 1 ∧ nv o = nv l + nv l' ∧ m ≤ 4097)))
  case atStart => exact ⟨Ao, co, tn l, tl l, rfl, tl_length l, hown2, ok_tl hO, hb8, .inl ⟨rfl, rfl, rfl, rfl⟩⟩
  case round =>
    clear hown2 hb8
    obtain ⟨Ao, co, m, o, rfl, hol, hown, hoO, hb, hcase⟩ := hrel
    cases gk with
    | zero =>
      obtain ⟨h0, _⟩ | ⟨_, rfl, hov, hm⟩ := hcase
      · cases h0
      have hgd := own_good (l := o) hown (by omega)
      rw [hol] at hgd
      have htn : tn o ≤ 4096 := by rw [tn_eq hoO, hov]; exact h4
      have k9 := told_calls Ao o co wr hgd.1 hoO htn
      rw [hov, hol] at k9
      go_wp2_with (go_at_call 62; (with_reducible refine k9.mono ?_); clear k9; rintro e5 w5 ⟨v', rfl, hv, hb8⟩)
      go_ret2
      exact ⟨v', rfl, hv, below_step hb hb8⟩
    | succ d =>
      obtain ⟨h0, rfl, rfl, rfl⟩ | ⟨h0, _⟩ := hcase
      case inr => cases h0
      obtain rfl : d = 0 := by omega
      have y := (hb.cell (World.block_lt_of_cell? _ _ hcb)).trans hcb
      have k2 := k2 wr hb
      go_wp2_with (go_at_call 58; (with_reducible refine k2.mono ?_); clear k2; rintro e2 w3 ⟨rfl, hb5⟩; have hb6 := below_step hb hb5)
      clear hb y
      obtain ⟨M, hM⟩ : ∃ M, max (tn l) (tn l') = M := ⟨_, rfl⟩
      have hM1 : tn l ≤ M := by omega
      have hM2 : tn l' ≤ M := by omega
      have hM4 : M ≤ 4096 := by omega
      have hX : Rd w A' (tl l') := hG'.1.take _
      go_loopg [6] (M - tn l) (fun kq v6 wr2 => ∃ (Ao : Option Addr) (co m : Nat) (o : List Nat), v6 = .slice Ao m co ∧ o.length = m ∧ wr2.ownsRow w.heap.size 53 1 (.slice Ao m co) m (cv o) ∧ Ok o ∧ nv o = nv l ∧ tn l ≤ m ∧ m + kq = M ∧ Below w.heap.size w wr2)
      case atStart => exact ⟨Ao, co, tn l, tl l, rfl, hol, own_keep hown hb5, hoO, nv_tl hO, Nat.le_refl _, by omega, hb6⟩
      case round =>
        clear hown hoO hol hb6 hb5
        obtain ⟨Ao, co, m, o, rfl, hol, hown, hoO, hov, hml, hm, hb⟩ := hrel
        cases gk with
        | zero =>
          obtain rfl : m = M := by omega
          have hnl : ¬ (m : Int) < (tn l' : Int) := by omega
          go_wp2
          clear hml hm hM hM1
          go_loopg [9, 10, 41] m (fun kq v9 v10 v41 wr3 => ∃ (i carry : Nat) (o3 : List Nat), v41 = .int .i64 i ∧ v9 = .int .u64 carry ∧ i + kq = m ∧ carry ≤ 1 ∧ o3.length = m ∧ wr3.ownsRow w.heap.size 53 1 (.slice Ao m co) m (cv o3) ∧ Ok o3 ∧ nv o3 + 4294967296 ^ i * carry = nv l + nv ((tl l').take i) ∧ Below w.heap.size w wr3)
          case atStart => exact ⟨0, 0, o, rfl, rfl, by omega, by omega, hol, hown, hoO, by rw [hov]; simp [nv], hb⟩
          case round =>
            clear hol hown hoO hov hb
            obtain ⟨i, carry, o3, rfl, rfl, hi2, hcar, hol, hown, hoO, hov, hb⟩ := hrel
            cases gk with
            | zero =>
              obtain rfl : i = m := by omega
              rw [List.take_of_length_le (l := tl l') (by rw [tl_length]; exact hM2), nv_tl hO'] at hov
              by_cases h0 : carry = 0
              · subst h0
                rw [Nat.mul_zero, Nat.add_zero] at hov
                go_wp2
                go_roundg 0
                case rel => exact ⟨Ao, co, i, o3, rfl, hol, hown, hoO, hb, .inr ⟨rfl, by go_num, hov, by omega⟩⟩
                case measure => omega
              · obtain rfl : carry = 1 := by omega
                have hsz := hb.size
                have hown2 := hown.alloc (.cells #[.int .u32 1] 53)
                go_wp2_with (at_builtin; refine wpList_append_own _ rfl _ _ 50 rfl w.heap.size 53 i0 (.int .u32 0) 1 4 Tryz.underlying50 hi hz0 hz1 hz2 rfl (by decide) _ _ _ rfl hown2 ⟨wr.heap.size, 0, none⟩ 1 1 [.int .u32 1] rfl rfl (cell_one_new _ _ _) (one_u32 1) (by unfold maxLen; omega) (by omega) (by rw [World.size_alloc]; omega) ?_; intro v' w5 hown5 hgrow5 _; have hb9 := (hb.alloc hsz (.cells #[.int .u32 1] 53)).grown hgrow5 (by rw [World.size_alloc]; omega) (own_lo hown2))
                obtain ⟨g5, cap5, rfl⟩ := own_form hown5 (by omega)
                go_roundg 0
                case rel => exact ⟨_, cap5, i + 1, o3 ++ [1], rfl, by rw [List.length_append, hol]; rfl, by rw [cv_append]; exact hown5, hoO.append (ok_one (by decide)), hb9, .inr ⟨rfl, by go_num, by rw [nv_snoc, hol]; exact hov, by omega⟩⟩
                case measure => omega
            | succ d3 =>
              obtain ⟨g, co2, e2⟩ := own_form hown (by omega)
              cases e2
              obtain ⟨old, hold⟩ : ∃ old, o3[i]? = some old := ⟨_, List.getElem?_eq_getElem (by omega)⟩
              have hold32 := hoO.get hold
              have hcO := hown.cellAt i (by omega)
              rw [cv_get hold] at hcO
              have hfO := hown.frozenAt i
              have him : (i : Int) < (m : Int) := by omega
              by_cases hix : i < tn l'
              · obtain ⟨ad', x', rfl, hx', hcell'⟩ := hG'.1.at (j := i) (by dsimp only; omega)
                dsimp only at hx'
                have hx32' := hO'.get hx'
                have y' := (hb.cell (World.block_lt_of_cell? _ _ hcell')).trans hcell'
                have hixI : (i : Int) < (tn l' : Int) := by omega
                have k3 := fun W => low_calls (carry + old + x') W (by omega)
                simp only [Int.natCast_add] at k3
                go_wp2_with (go_at_call 61; (with_reducible refine (k3 _).mono ?_); clear k3; rintro e6 w6 ⟨rfl, rfl⟩)
                have hs := set_step (carry + old + x') hold
                have hs1 : (carry + old + x') / 4294967296 ≤ 1 := by omega
                have es : ((carry : Int) + (old : Int) + (x' : Int)) % 4294967296 = (((carry + old + x') % 4294967296 : Nat) : Int) := by omega
                have es2 : ((carry : Int) + (old : Int) + (x' : Int)) / 4294967296 = (((carry + old + x') / 4294967296 : Nat) : Int) := by omega
                rw [es, es2]
                have hm := Nat.mod_lt (carry + old + x') (show 0 < 4294967296 by decide)
                rw [Nat.mul_add, Nat.mul_add] at hs
                generalize (carry + old + x') % 4294967296 = s1 at *
                generalize (carry + old + x') / 4294967296 = s2 at *
                have hst := (hown.stored i (.int .u32 (s1 : Int))).1
                go_roundg d3
                case rel => exact ⟨i + 1, s2, o3.set i s1, by go_num, rfl, by omega, hs1, by rw [List.length_set]; exact hol, by rw [cv_set]; exact hst, hoO.set _ _ hm, by
                  rw [nv_take_succ ((tl_get hix).trans hx')]
                  omega, hb.setCell (p := ⟨g, i, none⟩) (own_lo hown g rfl) _⟩
                case measure => omega
              · have hixI : ¬ (i : Int) < (tn l' : Int) := by omega
                have k3 := fun W => low_calls (carry + old) W (by omega)
                simp only [Int.natCast_add] at k3
                go_wp2_with (go_at_call 61; (with_reducible refine (k3 _).mono ?_); clear k3; rintro e6 w6 ⟨rfl, rfl⟩)
                have hs := set_step (carry + old) hold
                have hs1 : (carry + old) / 4294967296 ≤ 1 := by omega
                have es : ((carry : Int) + (old : Int)) % 4294967296 = (((carry + old) % 4294967296 : Nat) : Int) := by omega
                have es2 : ((carry : Int) + (old : Int)) / 4294967296 = (((carry + old) / 4294967296 : Nat) : Int) := by omega
                rw [es, es2]
                have hm := Nat.mod_lt (carry + old) (show 0 < 4294967296 by decide)
                rw [Nat.mul_add] at hs
                generalize (carry + old) % 4294967296 = s1 at *
                generalize (carry + old) / 4294967296 = s2 at *
                have hst := (hown.stored i (.int .u32 (s1 : Int))).1
                go_roundg d3
                case rel => exact ⟨i + 1, s2, o3.set i s1, by go_num, rfl, by omega, hs1, by rw [List.length_set]; exact hol, by rw [cv_set]; exact hst, hoO.set _ _ hm, by
                  rw [List.take_of_length_le (l := tl l') (i := i) (by rw [tl_length]; omega)] at hov
                  rw [List.take_of_length_le (l := tl l') (i := i + 1) (by rw [tl_length]; omega)]
                  omega, hb.setCell (p := ⟨g, i, none⟩) (own_lo hown g rfl) _⟩
                case measure => omega
        | succ d2 =>
          have hlt : (m : Int) < (tn l' : Int) := by omega
          have hsz := hb.size
          have hown2 := hown.alloc (.cells #[.int .u32 0] 53)
          go_wp2_with (at_builtin; refine wpList_append_own _ rfl _ _ 50 rfl w.heap.size 53 i0 (.int .u32 0) 1 4 Tryz.underlying50 hi hz0 hz1 hz2 rfl (by decide) _ _ _ rfl hown2 ⟨wr.heap.size, 0, none⟩ 1 1 [.int .u32 0] rfl rfl (cell_one_new _ _ _) (one_u32 0) (by unfold maxLen; omega) (by omega) (by rw [World.size_alloc]; omega) ?_; intro v' w5 hown5 hgrow5 _; have hb9 := (hb.alloc hsz (.cells #[.int .u32 0] 53)).grown hgrow5 (by rw [World.size_alloc]; omega) (own_lo hown2))
          obtain ⟨g5, cap5, rfl⟩ := own_form hown5 (by omega)
          go_roundg d2
          case rel => exact ⟨_, cap5, m + 1, o ++ [0], rfl, by rw [List.length_append, hol]; rfl, by rw [cv_append]; exact hown5, hoO.append (ok_one (by decide)), by rw [nv_snoc, hov, Nat.mul_zero, Nat.add_zero], by omega, by omega, hb9⟩
          case measure => omega
end Go.Proofs.YtffncomekbfihaaGreatDoor.Nat
