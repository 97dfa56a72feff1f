/- glossatorref01: long, Sub, Bits; glossatorref06: quot, over. -/
import Derived.Test.YtffncomekbfihaaDoorRef3
import Derived.Test.YtffncomekbfihaaDoorNearMore
namespace Go.Proofs.YtffncomekbfihaaDoor.Nat
open Go.RowKit Go.Shelf
set_option linter.unusedVariables false
set_option linter.unusedSimpArgs false
theorem own_sl' {w : World} {B T n : Nat} {v : Value} {xs : List Value} (h : w.ownsRow B T 1 v n xs) : ∃ A c, v = .slice A n c := by
  rcases h.2 with ⟨rfl, h0⟩ | ⟨g, cap, cur, rfl, _⟩
  · exact ⟨none, 0, by rw [h0]⟩
  · exact ⟨_, cap, rfl⟩
set_option maxHeartbeats 8000000 in
set_option maxRecDepth 100000 in
theorem long_calls (Al : Option Addr) (ls : List (Option Addr × List Nat × Nat)) (cl : Nat) (w : World) (hL : SlAt w Al ls) (hG : ∀ q ∈ ls, Good w q ∧ tn q.2.1 ≤ 4096) (hn : ls.length ≤ 1000) :
    Calls Tryd.prog 125 #[.slice Al ls.length cl] w fun e w' => e = .returned (.bool false) ∧ Below w.heap.size w w' := by
  have HB0 := Below.refl w.heap.size w
  go_enter Tryd.func125, Tryd.ntmps125
  go_wp2
  go_loopg [3] ls.length (fun kq v3 wr => ∃ j : Nat, v3 = .int .i64 j ∧ j + kq = ls.length ∧ Below w.heap.size w wr)
  case atStart => exact ⟨0, rfl, by omega, HB0⟩
  case round =>
    clear HB0
    obtain ⟨j, rfl, hj, hb⟩ := hrel
    cases gk with
    | zero =>
      obtain rfl : j = ls.length := by omega
      go_wp2
      go_ret
      exact ⟨rfl, hb⟩
    | succ d =>
      have hlt : (j : Int) < (ls.length : Int) := by omega
      obtain ⟨q, hq⟩ : ∃ q, ls[j]? = some q := ⟨_, List.getElem?_eq_getElem (by omega)⟩
      have hqm := List.mem_of_getElem? hq
      obtain ⟨ad, rfl, hcell⟩ := hL j q hq
      have hcell2 := (hb.cell (World.block_lt_of_cell? _ _ hcell)).trans hcell
      obtain ⟨hg, ht⟩ := hG q hqm
      obtain ⟨A, l, c⟩ := q
      dsimp only at hcell hcell2 ht
      have hk := rtrim_calls A l c wr (hg.1.below hb) hg.2.1 hg.2.2
      have HL : Hid _ := Lib.hid hL
      have HG : Hid _ := Lib.hid hG
      clear hL hG hq hqm hcell
      have h1 : ¬ (4096 : Int) < (tn l : Int) := by omega
      go_wp2_with (go_at_call 106; (with_reducible refine hk.mono ?_); clear hk; rintro e1 w1 ⟨v1, rfl, hown, hb1⟩; obtain ⟨A1, c1, rfl⟩ := own_sl' hown)
      go_roundg d
      case rel => exact ⟨j + 1, by go_num, by omega, below_step hb hb1⟩
      case measure => omega
set_option maxHeartbeats 8000000 in
set_option maxRecDepth 100000 in
theorem rsub_v {w : World} {V1 V2 : Value} {a b : Nat} (h1 : NatV w V1 a) (h2 : NatV w V2 b) (hl : (limbs a).length ≤ 4096) (hab : b ≤ a) :
    Calls Tryd.prog 120 #[V1, V2] w fun e w' => ∃ v', e = .returned (.tuple #[v', .int .i64 0]) ∧ OwnN w' v' (a - b) ∧ Below w.heap.size w w' := by
  have hll := limbs_len_mono hab
  have kcmp := fun W (hb : Below w.heap.size w W) => rcmp_a ((h1.a hl).below hb) ((h2.a (by omega)).below hb)
  obtain ⟨A, c, rfl, hc, hR⟩ := h1
  obtain ⟨A', c', rfl, hc', hR'⟩ := h2
  have hcn : ¬ cmpI a b < 0 := by
    unfold cmpI
    rw [if_neg (by omega)]
    split <;> decide
  have hG : Good w (A, limbs a, c) := ⟨hR, hc, by dsimp only; omega⟩
  have hG' : Good w (A', limbs b, c') := ⟨hR', hc', by dsimp only; omega⟩
  have hb0 := below_alloc w (.cells #[.slice A (limbs a).length c, .slice A' (limbs b).length c'] 55)
  have k0 := long_calls (some ⟨w.heap.size, 0, none⟩) [(A, limbs a, c), (A', limbs b, c')] 2 _ (two_slat w A (limbs a) c A' (limbs b) c' 55) (fun q hq => by
    simp at hq
    rcases hq with rfl | rfl
    · exact ⟨hG.below hb0, by dsimp only; rw [tn_limbs]; omega⟩
    · exact ⟨hG'.below hb0, by dsimp only; rw [tn_limbs]; omega⟩) (by simp)
  simp only [List.length_cons, List.length_nil, Nat.zero_add] at k0
  have kl := fun W (hb : Below w.heap.size w W) => rless_calls A (limbs a) c A' (limbs b) c' W (hG.below hb) (hG'.below hb) (ok_limbs a) (ok_limbs b) (by omega) hll (by rw [nv_limbs, nv_limbs]; exact hab)
  rw [nv_limbs, nv_limbs] at kl
  clear hG hG' hR hR' hc hc' hll hl
  generalize (limbs a).length = n1 at *
  generalize (limbs b).length = n2 at *
  go_enter Tryd.func120, Tryd.ntmps120
  go_wp2_with (first
    | (go_at_call 125; (with_reducible refine k0.mono ?_); clear k0; rintro e1 w1 ⟨rfl, hb1⟩; have hb2 := below_step hb0 hb1)
    | (go_at_call 111; (with_reducible refine (kcmp _ hb2).mono ?_); clear kcmp; rintro e2 w2 ⟨rfl, hb3⟩; have hb4 := below_step hb2 hb3)
    | (go_at_call 126; (with_reducible refine (kl _ hb4).mono ?_); clear kl; rintro e3 w3 ⟨v3, rfl, hv3, hb5⟩))
  go_ret2
  exact ⟨v3, rfl, hv3, below_step hb4 hb5⟩
theorem bl_half {t : Nat} (h : t ≠ 0) : bl t = bl (t / 2) + 1 := by
  by_cases h1 : t / 2 = 0
  · obtain rfl : t = 1 := by omega
    decide +kernel
  · obtain ⟨b1, b2, b3⟩ := bl_bounds h1
    refine bl_of ?_ ?_
    · have e : 2 ^ bl (t / 2) = 2 * 2 ^ (bl (t / 2) - 1) := by rw [← Nat.pow_succ']; congr 1; omega
      omega
    · rw [Nat.pow_succ]; omega
set_option maxHeartbeats 8000000 in
set_option maxRecDepth 100000 in
theorem rbits_a {w : World} {V : Value} {a : Nat} (h : NatA w V a) (hl : (limbs a).length ≤ 10000) :
    Calls Tryd.prog 107 #[V] w fun e w' => e = .returned (.int .i64 (bl a : Nat)) ∧ Below w.heap.size w w' := by
  have k1 := rtrim_a h
  obtain ⟨A0, l0, c0, rfl, _, _⟩ := h
  go_enter Tryd.func107, Tryd.ntmps107
  by_cases h0 : a = 0
  · have hz : (limbs a).length = 0 := limbs_len_zero.2 h0
    subst h0
    go_wp2_with (go_at_call 106; (with_reducible refine k1.mono ?_); clear k1; rintro e1 w1 ⟨v1, rfl, hv1, hb1⟩; obtain ⟨A, c, rfl, hc, hR⟩ := hv1.natv; rw [hz])
    go_ret
    exact ⟨rfl, hb1⟩
  · obtain ⟨n, hn⟩ : ∃ n, (limbs a).length = n + 1 := ⟨(limbs a).length - 1, by have : (limbs a).length ≠ 0 := fun z => h0 (limbs_len_zero.1 z); omega⟩
    obtain ⟨x, hx⟩ : ∃ x, (limbs a)[n]? = some x := ⟨_, List.getElem?_eq_getElem (by omega)⟩
    have hx32 := (ok_limbs a).get hx
    obtain ⟨hx0, hbl⟩ := bl_top (ok_limbs a) (by rw [tn_limbs]; exact hn) hx
    rw [nv_limbs] at hbl
    have hbx := bl_le (x := x) (k := 32) hx32
    have HX : Hid _ := Lib.hid (And.intro hx (And.intro hn hbl))
    have hn1 : n ≤ 10000 := by omega
    rw [hn] at hl
    clear hx hbl
    go_wp2_with (go_at_call 106; (with_reducible refine k1.mono ?_); clear k1; rintro e1 w1 ⟨v1, rfl, hv1, hb1⟩; obtain ⟨A, c, rfl, hc, hR⟩ := hv1.natv; obtain ⟨ad, rfl, hcell⟩ := hR n x HX.out.1; rw [hn]; clear hR hv1 hc hn)
    go_loopg [4, 5] (bl x) (fun kq v4 v5 wr => ∃ t : Nat, v5 = .int .u32 t ∧ v4 = .int .i64 ((32 * n + (bl x - kq) : Nat) : Int) ∧ kq ≤ bl x ∧ Hid (bl t = kq) ∧ t < 4294967296 ∧ wr = w1)
    case atStart => exact ⟨x, rfl, by go_num, Nat.le_refl _, Lib.hid rfl, hx32, rfl⟩
    case round =>
      obtain ⟨t, rfl, rfl, hk, HT, ht32, rfl⟩ := hrel
      cases gk with
      | zero =>
        have ht0 : t = 0 := by
          rcases Nat.eq_zero_or_pos t with q | q
          · exact q
          · exfalso; have := (bl_bounds (v := t) (by omega)).1; have := HT.out; omega
        subst ht0
        go_wp2
        go_ret
        exact ⟨by rw [HX.out.2.2]; rfl, hb1⟩
      | succ d =>
        have ht0 : t ≠ 0 := fun q => by
          have h1 := HT.out
          rw [q] at h1
          have : bl 0 = 0 := by decide +kernel
          omega
        have h2 := bl_half ht0
        rw [HT.out] at h2
        have htI : (0 : Int) < (t : Int) := by omega
        obtain ⟨T2, hT2⟩ : ∃ T2, t / 2 = T2 := ⟨_, rfl⟩
        have htI2 : (t : Int) / 2 = (T2 : Int) := by omega
        have HN : Hid (bl T2 = d) := Lib.hid (by rw [← hT2]; omega)
        have hT32 : T2 < 4294967296 := by omega
        obtain ⟨M, hM⟩ : ∃ M, 32 * n + (bl x - (d + 1)) = M := ⟨_, rfl⟩
        have hM2 : 32 * n + (bl x - d) = M + 1 := by omega
        rw [hM]
        clear h2 hT2
        go_wp2
        go_roundg d
        case rel => exact ⟨T2, rfl, by rw [hM2]; go_num, by omega, HN, hT32, rfl⟩
        case measure => omega
end Go.Proofs.YtffncomekbfihaaDoor.Nat
