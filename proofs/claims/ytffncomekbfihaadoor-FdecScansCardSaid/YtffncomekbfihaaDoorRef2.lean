/- glossatorref01: Times. -/
import Derived.Test.YtffncomekbfihaaDoorRef1
import Derived.Deep.RegionHeld
namespace Go.Proofs.YtffncomekbfihaaDoor.Nat
open Go.RowKit Go.Shelf
set_option linter.unusedVariables false
set_option linter.unusedSimpArgs false
theorem rmul_step {N P c T Q y x old S' : Nat} (h : N + P * c = T + Q) (hset : S' + P * old = N + P * ((c + old + x * y) % 4294967296)) :
    S' + P * 4294967296 * ((c + old + x * y) / 4294967296) = T + (Q + P * (x * y)) := by
  have h1 := Nat.div_add_mod (c + old + x * y) 4294967296
  have h2 : P * (4294967296 * ((c + old + x * y) / 4294967296) + (c + old + x * y) % 4294967296) = P * (c + old + x * y) := by rw [h1]
  rw [Nat.mul_add, Nat.mul_add, Nat.mul_add, ← Nat.mul_assoc] at h2
  omega
set_option maxHeartbeats 16000000 in
set_option maxRecDepth 100000 in
theorem rtimes_calls (A : Option Addr) (l : List Nat) (c : Nat) (A' : Option Addr) (l' : List Nat) (c' : Nat) (w : World) (hG : Good w (A, l, c)) (hG' : Good w (A', l', c')) (hO : Ok l) (hO' : Ok l') (h1 : l.length ≤ 10000) (h2 : l'.length ≤ 10000) :
    Calls Tryd.prog 86 #[.slice A l.length c, .slice A' l'.length c'] w fun e w' => ∃ v', e = .returned v' ∧ OwnN w' v' (nv l * nv l') ∧ Below w.heap.size w w' := by
  obtain ⟨i0, hi, hz0, hz1, hz2⟩ := info_parts info40
  have ka := fun i W (hb : Below w.heap.size w W) => at_calls A l c i W (hG.1.below hb) hO
  have kb := fun i W (hb : Below w.heap.size w W) => at_calls A' l' c' i W (hG'.1.below hb) hO'
  have hb0 := Below.refl w.heap.size w
  have HO : Hid _ := Lib.hid (And.intro hO hO')
  clear hG hG' hO hO'
  obtain ⟨n, hn⟩ : ∃ n, l.length + l'.length + 1 = n := ⟨_, rfl⟩
  obtain ⟨w4, hmk, hown, hgr⟩ := run_make_full (P := Tryd.prog) w w.heap.size 55 62 i0 (.int .u32 0) 1 Tryd.underlying55 hi hz0 hz1 .i64 .i64 n (by rw [hz2]; omega) (by unfold maxLen; omega) (Nat.le_refl _)
  rw [show (Value.int .u32 0).cells = #[Value.int .u32 0] from rfl, Nat.mul_one, toList_madeCells_one, ← cv_replicate] at hown
  have hnI : (l.length : Int) + (l'.length : Int) + 1 = (n : Int) := by omega
  have hb7 := hb0.grown hgr (Nat.le_refl _) (fun k hk => by cases hk)
  generalize w.heap.size = g at *
  go_enter Tryd.func86, Tryd.ntmps86
  go_wp2
  clear hmk hgr hi hz0 hz1 hz2
  have own0 : w4.ownsRow g 62 1 (.slice (some ⟨g, 0, none⟩) n n) n (cv (List.replicate n 0)) := hown
  go_loopg [6] l.length (fun kq v6 wr => ∃ (i : Nat) (o : List Nat), v6 = .int .i64 i ∧ i + kq = l.length ∧ wr.ownsRow g 62 1 (.slice (some ⟨g, 0, none⟩) n n) n (cv o) ∧ o.length = n ∧ Ok o ∧ Hid (nv o = nv (l.take i) * nv l') ∧ Below g w wr)
  case atStart => exact ⟨0, _, rfl, by omega, own0, by simp, ok_replicate n, Lib.hid (by rw [nv_replicate]; simp [nv]), hb7⟩
  case round =>
    clear own0 hown hb7
    obtain ⟨i, o, rfl, hi, hown, hol, hoO, HV, hb⟩ := hrel
    cases gk with
    | zero =>
      obtain rfl : i = l.length := by omega
      have hv := HV.out
      rw [List.take_length] at hv
      obtain ⟨A2, c2, e2, en2, hc2, hR2⟩ := own_rn hown
      have hR3 : Rd wr (some ⟨g, 0, none⟩) o := by cases e2; exact hR2
      have kt := rtrim_calls (some ⟨g, 0, none⟩) o n wr hR3 (by omega) (by omega)
      rw [hol] at kt
      have Hv : Hid _ := Lib.hid (And.intro hv hoO)
      have hgl := (hown.lt g rfl).2
      clear hv HV hown hR2 hR3 hol en2 e2
      go_wp2_with (go_at_call 106; (with_reducible refine kt.mono ?_); clear kt; rintro e1 w1 ⟨v1, rfl, hown1, hb1⟩)
      go_ret
      exact ⟨v1, rfl, by rw [← Hv.out.1]; exact own_ownn Hv.out.2 hown1, hb.trans (hb1.mono (Nat.le_of_lt hgl))⟩
    | succ d =>
      have hi1 : (i : Int) < (l.length : Int) := by omega
      go_wp2
      go_loopg [7, 8] (l'.length + 1) (fun kq v7 v8 wr2 => ∃ (k ca : Nat) (o2 : List Nat), v8 = .int .i64 k ∧ v7 = .int .u64 ca ∧ k + kq = l'.length + 1 ∧ ca < 4294967296 ∧ (l'.length < k → ca = 0) ∧ wr2.ownsRow g 62 1 (.slice (some ⟨g, 0, none⟩) n n) n (cv o2) ∧ o2.length = n ∧ Ok o2 ∧
        Hid (nv o2 + 4294967296 ^ (i + k) * ca = nv (l.take i) * nv l' + 4294967296 ^ i * l.getD i 0 * nv (l'.take k)) ∧ Below g w wr2)
      case atStart => exact ⟨0, 0, o, rfl, rfl, by omega, by omega, (fun _ => rfl), hown, hol, hoO, Lib.hid (by rw [HV.out]; simp [nv]), hb⟩
      case round =>
        clear hown hol hoO HV hb
        obtain ⟨k, ca, o2, rfl, rfl, hk, hca, hcz, hown, hol, hoO, HV, hb⟩ := hrel
        by_cases hgo : k < l'.length ∨ 0 < ca
        · cases gk with
          | zero => exfalso; have := hcz (by omega); omega
          | succ d2 =>
            have hik : i + k < n := by omega
            obtain ⟨old, hold⟩ : ∃ old, o2[i + k]? = some old := ⟨_, List.getElem?_eq_getElem (by omega)⟩
            have hold32 := hoO.get hold
            have hcO := hown.cellAt (i + k) (by omega)
            rw [cv_get hold] at hcO
            have hfO := hown.frozenAt (i + k)
            have hin : (i : Int) + (k : Int) < (n : Int) := by omega
            have hwik : IntKind.i64.wrap ((i : Int) + (k : Int)) = ((i + k : Nat) : Int) := by rw [IntKind.wrap_i64]; omega
            have hx := getD_lt HO.out.1 i
            have hy := getD_lt HO.out.2 k
            have ka1 := fun W hb => ka i W hb
            have kb1 := fun W hb => kb k W hb
            have htk := take_getD (l := l') (i := k)
            have hti := take_getD (l := l) (i := i)
            have hlt := nv_lt (HO.out.1.take (i + 1))
            have hlt' := nv_lt HO.out.2
            have hll : (l.take (i + 1)).length ≤ i + 1 := List.length_take_le _ _
            generalize l.getD i 0 = x at *
            generalize l'.getD k 0 = y at *
            have hxx : x * y ≤ 18446744065119617025 := Nat.mul_le_mul (show x ≤ 4294967295 by omega) (show y ≤ 4294967295 by omega)
            obtain ⟨S, hS⟩ : ∃ S, ca + old + x * y = S := ⟨_, rfl⟩
            obtain ⟨s1, hs1⟩ : ∃ s1, S % 4294967296 = s1 := ⟨_, rfl⟩
            obtain ⟨s2, hs2⟩ : ∃ s2, S / 4294967296 = s2 := ⟨_, rfl⟩
            have hset := nv_set s1 hold
            have hst := rmul_step (x := x) (y := y) (old := old) HV.out (by rw [hS, hs1]; exact hset)
            rw [hS, hs2] at hst
            have e1 : 4294967296 ^ (i + k) * (x * y) = 4294967296 ^ i * x * (4294967296 ^ k * y) := by rw [Nat.pow_add]; simp only [Nat.mul_assoc, Nat.mul_comm, Nat.mul_left_comm]
            have e9 : 4294967296 ^ (i + k) * 4294967296 = 4294967296 ^ (i + k + 1) := rfl
            rw [e1, ← Nat.mul_add, ← htk, e9] at hst
            have hz2 : l'.length < k + 1 → s2 = 0 := fun q => by
              rcases Nat.eq_zero_or_pos s2 with z | z
              · exact z
              · exfalso
                rw [show l'.take (k + 1) = l' from List.take_of_length_le (by omega)] at hst
                have q1 : nv (l.take i) * nv l' + 4294967296 ^ i * x * nv l' = nv (l.take (i + 1)) * nv l' := by rw [hti, Nat.add_mul]
                rw [q1] at hst
                have q2 : nv (l.take (i + 1)) * nv l' < 4294967296 ^ (i + 1) * 4294967296 ^ l'.length := by
                  have q3 : 4294967296 ^ (l.take (i + 1)).length ≤ 4294967296 ^ (i + 1) := Nat.pow_le_pow_right (by decide) hll
                  have q4 : nv (l.take (i + 1)) * nv l' ≤ nv (l.take (i + 1)) * 4294967296 ^ l'.length := Nat.mul_le_mul_left _ (Nat.le_of_lt hlt')
                  have q5 : nv (l.take (i + 1)) * 4294967296 ^ l'.length < 4294967296 ^ (i + 1) * 4294967296 ^ l'.length := Nat.mul_lt_mul_of_pos_right (by omega) (Nat.pow_pos (by decide))
                  omega
                rw [← Nat.pow_add] at q2
                have q6 : 4294967296 ^ (i + 1 + l'.length) ≤ 4294967296 ^ (i + k + 1) := Nat.pow_le_pow_right (by decide) (by omega)
                have q7 : 4294967296 ^ (i + k + 1) ≤ 4294967296 ^ (i + k + 1) * s2 := Nat.le_mul_of_pos_right _ z
                omega
            have HN : Hid _ := Lib.hid (And.intro hst hz2)
            obtain ⟨XY, hXY⟩ : ∃ XY, x * y = XY := ⟨_, rfl⟩
            rw [hXY] at hxx hS
            have hXYI : (x : Int) * (y : Int) = (XY : Int) := by rw [← hXY, Int.natCast_mul]
            have hw1 : IntKind.u64.wrap (XY : Int) = (XY : Int) := by rw [IntKind.wrap_u64]; omega
            have hw2 : IntKind.u64.wrap ((ca : Int) + (old : Int)) = (ca : Int) + (old : Int) := by rw [IntKind.wrap_u64]; omega
            have hw3 : IntKind.u64.wrap ((ca : Int) + (old : Int) + (XY : Int)) = (S : Int) := by rw [IntKind.wrap_u64]; omega
            have hw4 : IntKind.u32.wrap (S : Int) = (s1 : Int) := by rw [IntKind.wrap_u32]; omega
            have hw5 : (S : Int) / 4294967296 = (s2 : Int) := by omega
            have hw6 : IntKind.u64.wrap (old : Int) = (old : Int) := by rw [IntKind.wrap_u64]; omega
            have hs1l : s1 < 4294967296 := by omega
            have hs2l : s2 < 4294967296 := by omega
            have hgoI : (decide ((k : Int) < (l'.length : Int)) || decide ((0 : Int) < (ca : Int))) = true := by
              rcases hgo with q | q
              · rw [decide_eq_true (by omega : (k : Int) < (l'.length : Int))]; rfl
              · rw [decide_eq_true (by omega : (0 : Int) < (ca : Int))]; simp
            have hbd := hb.drew
            clear hset hst hz2 hxx hS hs1 hs2 hXY htk hti hlt hlt' hll e1 HV hcz hold ka kb
            have hst2 := (World.ownsRow.stored (World.ownsRow.drew hown) (i + k) (.int .u32 (s1 : Int))).1
            clear e9
            by_cases hkl : k < l'.length
            · have hklI : (k : Int) < (l'.length : Int) := by omega
              go_wp2_with fail
              first | (go_region_held (fun w' => w'.cell? ⟨g, i + k, none⟩ = some (.int .u32 (old : Int))) (go_keep) (first
                | (go_simp; go_at_call 105; (with_reducible refine (ka1 _ (by first | exact hbd | exact hb)).mono ?_); rintro e1 w1 ⟨rfl, rfl⟩)
                | (go_simp; go_at_call 105; (with_reducible refine (kb1 _ (by first | exact hbd | exact hb)).mono ?_); rintro e2 w2 ⟨rfl, rfl⟩))) | fail
              all_goals
                go_wp2
                go_roundg d2
                case rel => exact ⟨k + 1, s2, o2.set (i + k) s1, by go_num, rfl, by omega, hs2l, HN.out.2, by rw [cv_set]; exact hst2, by rw [List.length_set]; exact hol, hoO.set _ _ hs1l, Lib.hid HN.out.1, hbd.setCell (p := ⟨g, i + k, none⟩) (Nat.le_refl _) _⟩
                case measure => omega
            · have hklI : ¬ (k : Int) < (l'.length : Int) := by omega
              have hcaI : (0 : Int) < (ca : Int) := by omega
              go_wp2_with fail
              first | (go_region_held (fun w' => w'.cell? ⟨g, i + k, none⟩ = some (.int .u32 (old : Int))) (go_keep) (first
                | (go_simp; go_at_call 105; (with_reducible refine (ka1 _ (by first | exact hbd | exact hb)).mono ?_); rintro e1 w1 ⟨rfl, rfl⟩)
                | (go_simp; go_at_call 105; (with_reducible refine (kb1 _ (by first | exact hbd | exact hb)).mono ?_); rintro e2 w2 ⟨rfl, rfl⟩))) | fail
              all_goals
                go_wp2
                go_roundg d2
                case rel => exact ⟨k + 1, s2, o2.set (i + k) s1, by go_num, rfl, by omega, hs2l, HN.out.2, by rw [cv_set]; exact hst2, by rw [List.length_set]; exact hol, hoO.set _ _ hs1l, Lib.hid HN.out.1, hbd.setCell (p := ⟨g, i + k, none⟩) (Nat.le_refl _) _⟩
                case measure => omega
        · have hca0 : ca = 0 := by omega
          have hkl : l'.length ≤ k := by omega
          subst hca0
          have hv := HV.out
          rw [Nat.mul_zero, Nat.add_zero, List.take_of_length_le hkl] at hv
          have hnew : nv o2 = nv (l.take (i + 1)) * nv l' := by rw [hv, take_getD, Nat.add_mul]
          have HN : Hid _ := Lib.hid hnew
          have hkI : ¬ (k : Int) < (l'.length : Int) := by omega
          clear hv hnew HV hcz
          go_wp2
          go_roundg d
          case rel => exact ⟨i + 1, o2, by go_num, by omega, hown, hol, hoO, HN, hb⟩
          case measure => omega
end Go.Proofs.YtffncomekbfihaaDoor.Nat
