/- glossatorref01: less, long, Sub, Power; glossatorref06.two. -/
import Derived.Test.YtffncomekbfihaaDoorRef2
import Derived.Test.YtffncomekbfihaaDoorNatSub
import Derived.Test.YtffncomekbfihaaDoorFdec3
namespace Go.Proofs.YtffncomekbfihaaDoor.Nat
open Go.RowKit Go.Shelf
set_option linter.unusedVariables false
set_option linter.unusedSimpArgs false
/-- a value that is a slice of a number's limbs, trimmed or not, and not too long -/
def NatB (w : World) (V : Value) (v : Nat) : Prop := ∃ A l c, V = .slice A l.length c ∧ Good w (A, l, c) ∧ Ok l ∧ nv l = v ∧ l.length ≤ 10000
theorem NatB.below {w w' : World} {V : Value} {v : Nat} (h : NatB w V v) (hb : Below w.heap.size w w') : NatB w' V v := by
  obtain ⟨A, l, c, e, hG, hO, hv, hl⟩ := h
  exact ⟨A, l, c, e, hG.below hb, hO, hv, hl⟩
theorem NatB.a {w : World} {V : Value} {v : Nat} (h : NatB w V v) : NatA w V v := by
  obtain ⟨A, l, c, e, hG, hO, hv, hl⟩ := h
  exact ⟨A, l, c, e, hG, hO, hv⟩
theorem NatV.b {w : World} {V : Value} {v : Nat} (h : NatV w V v) (hl : (limbs v).length ≤ 10000) : NatB w V v := by
  obtain ⟨A, c, e, hc, hR⟩ := h
  exact ⟨A, limbs v, c, e, ⟨hR, hc, by dsimp only; omega⟩, ok_limbs v, nv_limbs v, hl⟩
theorem OwnN.b {w : World} {V : Value} {v : Nat} (h : OwnN w V v) (hl : (limbs v).length ≤ 10000) : NatB w V v := h.natv.b hl
theorem natb_one (w : World) (x : Nat) (hx : x < 4294967296) : NatB (w.alloc (.cells #[.int .u32 (x : Int)] 62)) (.slice (some ⟨w.heap.size, 0, none⟩) 1 1) x := ⟨_, [x], 1, rfl, good_one w x, ok_one hx, by simp [nv], by simp⟩
theorem rsum_b {w : World} {V1 V2 : Value} {a b : Nat} (h1 : NatB w V1 a) (h2 : NatB w V2 b) :
    Calls Tryd.prog 104 #[V1, V2] w fun e w' => ∃ v', e = .returned v' ∧ OwnN w' v' (a + b) ∧ Below w.heap.size w w' := by
  obtain ⟨A, l, c, rfl, hG, hO, rfl, hl⟩ := h1
  obtain ⟨A', l', c', rfl, hG', hO', rfl, hl'⟩ := h2
  exact rsum_calls A l c A' l' c' w hG hG' hO hO' hl hl'
theorem rtimes_b {w : World} {V1 V2 : Value} {a b : Nat} (h1 : NatB w V1 a) (h2 : NatB w V2 b) :
    Calls Tryd.prog 86 #[V1, V2] w fun e w' => ∃ v', e = .returned v' ∧ OwnN w' v' (a * b) ∧ Below w.heap.size w w' := by
  obtain ⟨A, l, c, rfl, hG, hO, rfl, hl⟩ := h1
  obtain ⟨A', l', c', rfl, hG', hO', rfl, hl'⟩ := h2
  exact rtimes_calls A l c A' l' c' w hG hG' hO hO' hl hl'
theorem nv_two (q r : Nat) : nv (List.replicate q 0 ++ [2 ^ r]) = 2 ^ (32 * q + r) := by
  rw [nv_append, nv_replicate, List.length_replicate, pow32, Nat.pow_add]
  simp [nv]
set_option maxHeartbeats 8000000 in
set_option maxRecDepth 100000 in
theorem two_calls (n : Nat) (w : World) (hn : n ≤ 200000) :
    Calls Tryd.prog 109 #[.int .i64 (n : Int)] w fun e w' => ∃ v', e = .returned v' ∧ NatB w' v' (2 ^ n) ∧ Below w.heap.size w w' := by
  obtain ⟨i0, hi, hz0, hz1, hz2⟩ := info_parts info40
  obtain ⟨q, hq⟩ : ∃ q, n / 32 = q := ⟨_, rfl⟩
  obtain ⟨r, hr⟩ : ∃ r, n % 32 = r := ⟨_, rfl⟩
  have hqI : Int.tdiv (n : Int) 32 = (q : Int) := by rw [Int.tdiv_eq_ediv_of_nonneg (by omega)]; omega
  have hrI : Int.tmod (n : Int) 32 = (r : Int) := by rw [Int.tmod_eq_emod_of_nonneg (by omega)]; omega
  have hqI2 : (n : Int) / 32 = (q : Int) := by omega
  have hrI2 : (n : Int) % 32 = (r : Int) := by omega
  have hr32 : r < 32 := by omega
  have hpw : 2 ^ r < 4294967296 := Nat.lt_of_lt_of_eq (Nat.pow_lt_pow_right (by decide) hr32) (by decide)
  have hnv := nv_two q r
  rw [show 32 * q + r = n from by omega] at hnv
  obtain ⟨N1, hN1⟩ : ∃ N1, q + 1 = N1 := ⟨_, rfl⟩
  obtain ⟨w4, hmk, hown, hgr⟩ := run_make_full (P := Tryd.prog) w w.heap.size 55 62 i0 (.int .u32 0) 1 Tryd.underlying55 hi hz0 hz1 .i64 .i64 N1 (by rw [hz2]; omega) (by unfold maxLen; omega) (Nat.le_refl _)
  rw [show (Value.int .u32 0).cells = #[Value.int .u32 0] from rfl, Nat.mul_one, toList_madeCells_one, ← cv_replicate] at hown
  have hb7 := (Below.refl w.heap.size w).grown hgr (Nat.le_refl _) (fun k hk => by cases hk)
  have hnI : (q : Int) + 1 = (N1 : Int) := by omega
  have hwI : IntKind.i64.wrap (N1 : Int) = (N1 : Int) := by rw [IntKind.wrap_i64]; omega
  have hz : (List.replicate N1 0)[q]? = some 0 := by rw [List.getElem?_replicate, if_pos (by omega)]
  have hcO := hown.cellAt q (by omega)
  rw [cv_get hz] at hcO
  have hset : (List.replicate N1 0).set q (2 ^ r) = List.replicate q 0 ++ [2 ^ r] := by
    rw [← hN1, List.replicate_succ', List.set_append, if_neg (by rw [List.length_replicate]; omega), List.length_replicate, Nat.sub_self]
    rfl
  have hst := (hown.stored q (.int .u32 ((2 ^ r : Nat) : Int))).1
  rw [← cv_set, hset] at hst
  have hO : Ok (List.replicate q 0 ++ [2 ^ r]) := (ok_replicate q).append (ok_one hpw)
  have hlen : (List.replicate q 0 ++ [2 ^ r]).length = N1 := by rw [List.length_append, List.length_replicate]; exact hN1
  have hpI : (2 : Int) ^ r % 4294967296 = ((2 ^ r : Nat) : Int) := by
    have h : (((2 : Nat) ^ r : Nat) : Int) = (2 : Int) ^ r := by rw [Int.natCast_pow]; rfl
    rw [← h]
    exact Int.emod_eq_of_lt (Int.natCast_nonneg _) (Int.ofNat_lt.2 hpw)
  have hfO := hown.frozenAt q
  have hqN : (q : Int) < (N1 : Int) := by omega
  have HN : Hid _ := Lib.hid hnv
  have Hst : Hid _ := Lib.hid hst
  generalize hPP : 2 ^ r = PP at *
  clear hq hr hnv hi hz0 hz1 hz2 hgr hst hset hz hPP
  go_enter Tryd.func109, Tryd.ntmps109
  go_wp2
  go_ret
  have hgd := own_good (l := List.replicate q 0 ++ [PP]) Hst.out (by omega)
  exact ⟨_, rfl, ⟨some ⟨w.heap.size, 0, none⟩, List.replicate q 0 ++ [PP], N1, by rw [hlen]; rfl, hgd.1, hO, HN.out, by omega⟩, hb7.setCell (p := ⟨w.heap.size, q, none⟩) (Nat.le_refl _) _⟩
set_option maxHeartbeats 8000000 in
set_option maxRecDepth 100000 in
theorem power10_calls (n : Nat) (w : World) (hn : n ≤ 2000) :
    Calls Tryd.prog 87 #[.int .i64 (n : Int)] w fun e w' => ∃ v', e = .returned v' ∧ NatB w' v' (10 ^ n) ∧ Below w.heap.size w w' := by
  have hx0 : NatB (w.alloc (.cells #[.int .u32 1] 62)) (.slice (some ⟨w.heap.size, 0, none⟩) 1 1) 1 := natb_one w 1 (by decide)
  have hb0 := below_alloc w (.cells #[.int .u32 1] 62)
  have hnI : (n : Int) ≤ 2000 := by omega
  go_enter Tryd.func87, Tryd.ntmps87
  go_wp2
  go_loopg [3, 4] n (fun kq v3 v4 wr => ∃ i : Nat, v4 = .int .i64 i ∧ i + kq = n ∧ NatB wr v3 (10 ^ i) ∧ Below w.heap.size w wr)
  case atStart => exact ⟨0, rfl, by omega, hx0, hb0⟩
  case round =>
    clear hx0 hb0
    obtain ⟨i, rfl, hi, hx, hb⟩ := hrel
    cases gk with
    | zero =>
      obtain rfl : i = n := by omega
      go_wp2
      go_ret
      exact ⟨_, rfl, hx, hb⟩
    | succ d =>
      have hi1 : (i : Int) < (n : Int) := by omega
      have ht : NatB (wr.alloc (.cells #[.int .u32 10] 62)) (.slice (some ⟨wr.heap.size, 0, none⟩) 1 1) 10 := natb_one wr 10 (by decide)
      have k1 := rtimes_b (hx.below (below_alloc wr (.cells #[.int .u32 10] 62))) ht
      rw [show 10 ^ i * 10 = 10 ^ (i + 1) from rfl] at k1
      have hl : (limbs (10 ^ (i + 1))).length ≤ 251 := limbs_ten (by omega)
      have HL : Hid _ := Lib.hid hl
      clear hl hx ht
      go_wp2_with (go_at_call 86; (with_reducible refine k1.mono ?_); clear k1; rintro e1 w1 ⟨v1, rfl, hv1, hb1⟩)
      go_roundg d
      case rel => exact ⟨i + 1, by go_num, by omega, hv1.b (by have := HL.out; omega), below_step hb (below_step (below_alloc _ _) hb1)⟩
      case measure => omega
theorem less_val (x y c : Nat) (hx : x < 4294967296) (hy : y < 4294967296) (hc : c ≤ 1) : ∃ X s1 q b : Nat, (x : Int) + 4294967296 - (y : Int) - (c : Int) = (X : Int) ∧ (X : Int) % 4294967296 = (s1 : Int) ∧
    (X : Int) / 4294967296 = (q : Int) ∧ 1 - (q : Int) = (b : Int) ∧ b ≤ 1 ∧ s1 < 4294967296 ∧ x + b * 4294967296 = c + y + s1 ∧ X < 18446744073709551616 := by
  rcases Nat.lt_or_ge x (y + c) with h | h
  · exact ⟨x + 4294967296 - y - c, x + 4294967296 - y - c, 0, 1, by omega, by omega, by omega, by omega, by omega, by omega, by omega, by omega⟩
  · exact ⟨x + 4294967296 - y - c, x - y - c, 1, 0, by omega, by omega, by omega, by omega, by omega, by omega, by omega, by omega⟩
theorem less_step {N E L1 L2 x y c b s1 : Nat} (h : N + L2 = L1 + c * E) (hb : x + b * 4294967296 = c + y + s1) : (N + E * s1) + (L2 + E * y) = (L1 + E * x) + b * (E * 4294967296) := by
  have h1 : E * (x + b * 4294967296) = E * (c + y + s1) := by rw [hb]
  rw [Nat.mul_add, Nat.mul_add, Nat.mul_add] at h1
  have h2 : E * (b * 4294967296) = b * (E * 4294967296) := by rw [Nat.mul_left_comm]
  have h3 : E * c = c * E := Nat.mul_comm _ _
  omega
set_option maxHeartbeats 8000000 in
set_option maxRecDepth 100000 in
theorem rless_calls (A : Option Addr) (l : List Nat) (c : Nat) (A' : Option Addr) (l' : List Nat) (c' : Nat) (w : World) (hG : Good w (A, l, c)) (hG' : Good w (A', l', c')) (hO : Ok l) (hO' : Ok l') (h1 : l.length ≤ 10000) (h2 : l'.length ≤ l.length) (hle : nv l' ≤ nv l) :
    Calls Tryd.prog 126 #[.slice A l.length c, .slice A' l'.length c'] w fun e w' => ∃ v', e = .returned v' ∧ OwnN w' v' (nv l - nv l') ∧ Below w.heap.size w w' := by
  obtain ⟨i0, hi, hz0, hz1, hz2⟩ := info_parts info40
  have ka := fun i W (hb : Below w.heap.size w W) => at_calls A l c i W (hG.1.below hb) hO
  have kb := fun i W (hb : Below w.heap.size w W) => at_calls A' l' c' i W (hG'.1.below hb) hO'
  have hb0 := Below.refl w.heap.size w
  have HO : Hid _ := Lib.hid (And.intro hO (And.intro hO' hle))
  clear hG hG' hO hO' hle
  go_enter Tryd.func126, Tryd.ntmps126
  go_wp2
  go_loopg [5, 6, 7] l.length (fun kq v5 v6 v7 wr => ∃ (i ca : Nat) (o : List Nat), v7 = .int .i64 i ∧ v6 = .int .u64 ca ∧ i + kq = l.length ∧ ca ≤ 1 ∧ o.length = i ∧ Ok o ∧ Hid (nv o + nv (l'.take i) = nv (l.take i) + ca * 4294967296 ^ i) ∧ wr.ownsRow w.heap.size 62 1 v5 i (cv o) ∧ Below w.heap.size w wr)
  case atStart => exact ⟨0, 0, [], rfl, rfl, by omega, by decide, rfl, ok_nil, Lib.hid (by simp [nv]), World.ownsRow_nil _ _ _ _, hb0⟩
  case round =>
    clear hb0
    obtain ⟨i, ca, o, rfl, rfl, hik, hca, hol, hoO, HV, hown, hb⟩ := hrel
    cases gk with
    | zero =>
      obtain rfl : i = l.length := by omega
      have hv := HV.out
      rw [List.take_length, List.take_of_length_le h2] at hv
      have hlt := nv_lt hoO
      rw [hol] at hlt
      have hc0 : ca = 0 := by
        rcases Nat.eq_zero_or_pos ca with q | q
        · exact q
        · exfalso
          obtain rfl : ca = 1 := by omega
          rw [Nat.one_mul] at hv
          have := HO.out.2.2
          omega
      subst hc0
      obtain ⟨A5, c5, e5, en5, hc5, hR5⟩ := own_rn hown
      subst e5
      have kt := rtrim_calls A5 o c5 wr hR5 (by omega) (by omega)
      rw [hol] at kt
      have Hv : Hid (nv o = nv l - nv l' ∧ Ok o) := Lib.hid ⟨by omega, hoO⟩
      clear hv HV hown hR5 hol en5 hlt
      go_wp2_with (go_at_call 106; (with_reducible refine kt.mono ?_); clear kt; rintro e1 w1 ⟨v1, rfl, hown1, hb1⟩)
      go_ret
      exact ⟨v1, rfl, by rw [← Hv.out.1]; exact own_ownn Hv.out.2 hown1, below_step hb hb1⟩
    | succ d =>
      have hiM : (i : Int) < (l.length : Int) := by omega
      have hx := getD_lt HO.out.1 i
      have hy := getD_lt HO.out.2.1 i
      have ka1 := ka i wr hb
      have kb1 := kb i wr hb
      have htx := take_getD (l := l) (i := i)
      have hty := take_getD (l := l') (i := i)
      generalize l.getD i 0 = x at *
      generalize l'.getD i 0 = y at *
      obtain ⟨X, s1, q, b, e0, e1, e1b, e2, e3, e4, e5, e6⟩ := less_val x y ca hx hy hca
      have hst := less_step HV.out e5
      rw [← htx, ← hty] at hst
      have hnew : nv (o ++ [s1]) + nv (l'.take (i + 1)) = nv (l.take (i + 1)) + b * 4294967296 ^ (i + 1) := by rw [nv_snoc, hol]; exact hst
      have HN : Hid _ := Lib.hid hnew
      have hwx : IntKind.u64.wrap ((x : Int) + 4294967296) = (x : Int) + 4294967296 := by rw [IntKind.wrap_u64]; omega
      have hwy : IntKind.u64.wrap ((x : Int) + 4294967296 - (y : Int)) = (x : Int) + 4294967296 - (y : Int) := by rw [IntKind.wrap_u64]; omega
      have hwz : IntKind.u64.wrap ((X : Int)) = (X : Int) := by rw [IntKind.wrap_u64]; omega
      have hww : IntKind.u64.wrap ((b : Int)) = (b : Int) := by rw [IntKind.wrap_u64]; omega
      have hwu : IntKind.u32.wrap (X : Int) = (s1 : Int) := by rw [IntKind.wrap_u32]; exact e1
      have hsz := hb.size
      have hown2 := hown.alloc (.cells #[.int .u32 (s1 : Int)] 62)
      clear hst e5 hnew htx hty HV
      go_wp2_with (first
        | (go_at_call 105; (with_reducible refine ka1.mono ?_); clear ka1; rintro e1 w1 ⟨rfl, rfl⟩)
        | (go_at_call 105; (with_reducible refine kb1.mono ?_); clear kb1; rintro e2 w2 ⟨rfl, rfl⟩)
        | (at_builtin; refine wpList_append_own _ rfl _ _ 55 rfl w.heap.size 62 i0 (.int .u32 0) 1 4 Tryd.underlying55 hi hz0 hz1 hz2 rfl (by decide) _ _ _ rfl hown2 ⟨_, 0, none⟩ 1 1 [.int .u32 (s1 : Int)] rfl rfl (cell_one_new _ _ _) (one_u32 s1) (by unfold maxLen; omega) (by omega) (by rw [World.size_alloc]; omega) ?_; intro v' w9 hown9 hgrow9 _; have hb9 := (hb.alloc hsz (.cells #[.int .u32 (s1 : Int)] 62)).grown hgrow9 (by rw [World.size_alloc]; omega) (own_lo hown2)))
      go_roundg d
      case rel => exact ⟨i + 1, b, o ++ [s1], by go_num, rfl, by omega, e3, by rw [List.length_append, hol]; rfl, hoO.append (ok_one e4), Lib.hid HN.out, by rw [cv_append]; exact hown9, hb9⟩
      case measure => omega
end Go.Proofs.YtffncomekbfihaaDoor.Nat
