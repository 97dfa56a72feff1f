/- glossatorref07: run, whole; glossatorref01.Bytes; glossatorref07.Number. glossatorref07.Scan says what num.Scan says. glossatorref07: Number, Value. glossatorref07.Value; num.Value where the text is no number, or its float is too great, or -0. glossatorref07.Value at whole numbers; num.Value at -0. glossatorlaw07.NumValues. -/
import Derived.Test.YtffncomekbfihaaGreatDoorRef6
import Derived.Test.YtffncomekbfihaaGreatDoorScanM
import Derived.Test.YtffncomekbfihaaGreatDoorNBack
import Derived.Test.YtffncomekbfihaaGreatDoorRef10
namespace Go.Proofs.YtffncomekbfihaaGreatDoor.Nat
open Go.RowKit Go.Shelf
set_option linter.unusedVariables false
set_option linter.unusedSimpArgs false
set_option maxHeartbeats 8000000 in
set_option maxRecDepth 100000 in
theorem run07 (s : ByteArray) (P : Nat) (w : World) (hs : s.size ≤ 9223372036854775807) (hP : P ≤ s.size) :
    Calls Tryz.prog 91 #[.string s, .int .i64 (P : Int)] w fun e w' => e = .returned (.int .i64 ((((bts s).drop P).takeWhile dg).length : Nat)) ∧ w = w' := by
  have hl := bts_length s
  go_enter Tryz.func91, Tryz.ntmps91
  go_wp2
  go_loopg [5] (s.size - P) (fun kq v5 wr => ∃ n : Nat, v5 = .int .i64 n ∧ P + n + kq = s.size ∧ Hid (∀ (i c : Nat), i < n → ((bts s).drop P)[i]? = some c → dg c = true) ∧ wr = w)
  case atStart => exact ⟨0, rfl, by omega, Lib.hid (fun i c h => absurd h (Nat.not_lt_zero i)), rfl⟩
  case round =>
    obtain ⟨n, rfl, hn, HD, rfl⟩ := hrel
    obtain ⟨Q, hQ⟩ : ∃ Q, P + n = Q := ⟨_, rfl⟩
    have hQI : (P : Int) + (n : Int) = (Q : Int) := by omega
    have hwQ : IntKind.i64.wrap (Q : Int) = (Q : Int) := by rw [IntKind.wrap_i64]; omega
    have hend : (∀ c, ((bts s).drop P)[n]? = some c → dg c = false) → (((bts s).drop P).takeWhile dg).length = n := fun he => by
      have hnl : n ≤ ((bts s).drop P).length := by rw [List.length_drop]; omega
      rw [(takeWhile_take HD.out hnl he).1, List.length_take]
      omega
    have hdr : ((bts s).drop P)[n]? = (bts s)[Q]? := by rw [List.getElem?_drop, hQ]
    cases gk with
    | zero =>
      have hlt : ¬ (Q : Int) < (s.size : Int) := by omega
      have hr := hend (fun c hc => by rw [hdr, List.getElem?_eq_none (by omega)] at hc; cases hc)
      have HR : Hid _ := Lib.hid hr
      clear hr hend hdr HD hn hl
      go_wp2
      go_ret
      exact ⟨by rw [HR.out]; rfl, rfl⟩
    | succ d =>
      have hltQ : Q < s.size := by omega
      have hlt : (Q : Int) < (s.size : Int) := by omega
      obtain ⟨c, hc⟩ : ∃ c, (bts s)[Q]? = some c := ⟨_, List.getElem?_eq_getElem (by omega)⟩
      have hat := bts_ix hc
      rw [hc] at hdr
      by_cases hdc : dg c = true
      · have hb : 48 ≤ c ∧ c ≤ 57 := by simpa [dg] using hdc
        have h1 : (48 : Int) ≤ (c : Int) := by omega
        have h2 : (c : Int) ≤ 57 := by omega
        have hnew : ∀ (i c : Nat), i < n + 1 → ((bts s).drop P)[i]? = some c → dg c = true := fun i c' hi hc' => by
          rcases Nat.lt_or_ge i n with h | h
          · exact HD.out i c' h hc'
          · obtain rfl : i = n := by omega
            rw [hdr] at hc'
            cases hc'
            exact hdc
        have HNEW : Hid _ := Lib.hid hnew
        clear hnew hdc hb HD hend hdr hc
        go_wp2
        go_roundg d
        case rel => exact ⟨n + 1, by go_num, by omega, HNEW.out, rfl⟩
        case measure => omega
      · have hdf : dg c = false := by simpa using hdc
        have hb : ¬ (48 ≤ c ∧ c ≤ 57) := by simpa [dg] using hdf
        have hr := hend (fun c' hc' => by rw [hdr] at hc'; cases hc'; exact hdf)
        have HR : Hid _ := Lib.hid hr
        clear hr hend hdr HD hdc hdf hc
        by_cases h48 : 48 ≤ c
        · have h3 : (48 : Int) ≤ (c : Int) := by omega
          have h4 : ¬ (c : Int) ≤ 57 := by omega
          go_wp2
          go_ret
          exact ⟨by rw [HR.out]; rfl, rfl⟩
        · have h3 : ¬ (48 : Int) ≤ (c : Int) := by omega
          go_wp2
          go_ret
          exact ⟨by rw [HR.out]; rfl, rfl⟩
set_option maxHeartbeats 8000000 in
set_option maxRecDepth 100000 in
theorem whole_calls (s : ByteArray) (w : World) (hs : s.size ≤ 9223372036854775807) :
    Calls Tryz.prog 43 #[.string s] w fun e w' => e = .returned (.bool (decide (46 ∉ bts s ∧ 101 ∉ bts s ∧ 69 ∉ bts s))) ∧ w' = w := by
  have hl := bts_length s
  obtain ⟨B, hB⟩ : ∃ B, decide (46 ∉ bts s ∧ 101 ∉ bts s ∧ 69 ∉ bts s) = B := ⟨_, rfl⟩
  rw [hB]
  have HB : Hid _ := Lib.hid hB
  clear hB
  go_enter Tryz.func43, Tryz.ntmps43
  go_wp2
  go_loopg [3] s.size (fun kq v3 wr => ∃ i : Nat, v3 = .int .i64 i ∧ i + kq = s.size ∧ Hid (∀ (j c : Nat), j < i → (bts s)[j]? = some c → c ≠ 46 ∧ c ≠ 101 ∧ c ≠ 69) ∧ wr = w)
  case atStart => exact ⟨0, rfl, by omega, Lib.hid (fun j c hj => absurd hj (Nat.not_lt_zero j)), rfl⟩
  case round =>
    obtain ⟨i, rfl, hi, hno, rfl⟩ := hrel
    cases gk with
    | zero =>
      obtain rfl : i = s.size := by omega
      have hb : B = true := by
        rw [← HB.out]
        have h : ∀ c ∈ bts s, c ≠ 46 ∧ c ≠ 101 ∧ c ≠ 69 := fun c hc => by
          obtain ⟨j, hj⟩ := List.mem_iff_getElem?.1 hc
          exact hno.out j c (by have := (List.getElem?_eq_some_iff.1 hj).1; omega) hj
        exact decide_eq_true ⟨fun q => (h _ q).1 rfl, fun q => (h _ q).2.1 rfl, fun q => (h _ q).2.2 rfl⟩
      subst hb
      clear HB hno
      go_wp2
      go_ret
      exact ⟨rfl, rfl⟩
    | succ d =>
      have hlt : i < s.size := by omega
      have hltI : (i : Int) < (s.size : Int) := by omega
      have hat := bts_at s i hlt
      obtain ⟨c, hc⟩ : ∃ c, s[i].toNat = c := ⟨_, rfl⟩
      rw [hc] at hat
      by_cases hq : c = 46 ∨ c = 101 ∨ c = 69
      · have hb : B = false := by
          rw [← HB.out]
          have hm := List.mem_of_getElem? hat
          refine decide_eq_false (fun q => ?_)
          rcases hq with rfl | rfl | rfl
          · exact q.1 hm
          · exact q.2.1 hm
          · exact q.2.2 hm
        subst hb
        clear hat hno HB
        rcases hq with rfl | rfl | rfl
        all_goals
          go_wp2
          go_ret
          exact ⟨rfl, rfl⟩
      · have n1 : ((c : Int) == 46) = false := beq_eq_false_iff_ne.2 (by omega)
        have n2 : ((c : Int) == 101) = false := beq_eq_false_iff_ne.2 (by omega)
        have n3 : ((c : Int) == 69) = false := beq_eq_false_iff_ne.2 (by omega)
        have HN : Hid (∀ (j c : Nat), j < i + 1 → (bts s)[j]? = some c → c ≠ 46 ∧ c ≠ 101 ∧ c ≠ 69) := Lib.hid (fun j x hj hx => by
          rcases Nat.lt_or_ge j i with h | h
          · exact hno.out j x h hx
          · obtain rfl : j = i := by omega
            rw [hat] at hx
            cases hx
            omega)
        clear hat hq hno
        go_wp2
        go_roundg d
        case rel => exact ⟨i + 1, by go_num, by omega, HN, rfl⟩
        case measure => omega
theorem own_cases {w : World} {B T n c : Nat} {A : Option Addr} {xs : List Value} (h : w.ownsRow B T 1 (.slice A n c) n xs) : (A = none ∧ n = 0 ∧ c = 0) ∨ ∃ g, A = some ⟨g, 0, none⟩ := by
  rcases h.2 with ⟨e, h0⟩ | ⟨g, cap, cur, e, _⟩
  · cases e; exact .inl ⟨rfl, rfl, rfl⟩
  · cases e; exact .inr ⟨g, rfl⟩
/-- bytes of a number, none of them 0 at the head -/
def ByP (O : List Nat) (u : Nat) : Prop := bval O = u ∧ (∀ c ∈ O, c < 256) ∧ (∀ c, O[0]? = some c → c ≠ 0)
theorem ByP.size {O : List Nat} {u : Nat} (h : ByP O u) (h0 : O.length ≠ 0) : O.length = (bl u + 7) / 8 := by
  obtain ⟨h1, h2, h3⟩ := h
  obtain ⟨c, hc⟩ : ∃ c, O[0]? = some c := ⟨_, List.getElem?_eq_getElem (by omega)⟩
  rw [← h1, bval_size h2 hc (h3 c hc)]
theorem ByP.push {O : List Nat} {u C : Nat} (h : ByP O u) (hC : C < 256) (h0 : O.length ≠ 0 ∨ C ≠ 0) : ByP (O ++ [C]) (u * 256 + C) := by
  obtain ⟨h1, h2, h3⟩ := h
  refine ⟨by rw [bval_append, h1]; simp [bval], fun c hc => ?_, fun c hc => ?_⟩
  · rcases List.mem_append.1 hc with q | q
    · exact h2 c q
    · simp at q; omega
  · cases O with
    | nil => simp at hc h0; omega
    | cons d O => exact h3 c hc
theorem div_step256 (v i : Nat) : v / 256 ^ (i + 1) * 256 + v / 256 ^ i % 256 = v / 256 ^ i := by
  rw [Nat.pow_succ, ← Nat.div_div_eq_div_mul]
  omega
set_option maxHeartbeats 16000000 in
set_option maxRecDepth 100000 in
theorem rbytes_calls {V : Value} {v : Nat} {w : World} (hV : NatA w V v) (hl : (limbs v).length ≤ 200) :
    Calls Tryz.prog 97 #[V] w fun e w' => ∃ (A : Option Addr) (cap : Nat) (O : List Nat), e = .returned (.slice A O.length cap) ∧ w'.ownsRow w.heap.size 5 1 (.slice A O.length cap) O.length (bv O) ∧ ByP O v ∧ Below w.heap.size w w' := by
  obtain ⟨i0, hi0, hz0, hz1, hz2⟩ := info_parts info5
  have kt := rtrim_a hV
  obtain ⟨A0, l0, c0, rfl, _, _⟩ := hV
  obtain ⟨N, hN⟩ : ∃ N, (limbs v).length = N := ⟨_, rfl⟩
  have hlt := lt_limbs v
  rw [hN] at hl hlt
  have HT : Hid _ := Lib.hid (And.intro hlt hN)
  clear hlt
  go_enter Tryz.func97, Tryz.ntmps97
  go_wp2_with (go_at_call 109; (with_reducible refine kt.mono ?_); clear kt; rintro e1 w1 ⟨v1, rfl, hv1, hb1⟩; obtain ⟨A1, c1, rfl, hc1, hR⟩ := hv1.natv; rw [hN])
  clear hv1 hN
  go_loopg [4, 5] N (fun kq v4 v5 wr => ∃ O : List Nat, v5 = .int .i64 ((kq : Int) - 1) ∧ kq ≤ N ∧ O.length + 4 * kq ≤ 4 * N ∧ wr.ownsRow w1.heap.size 5 1 v4 O.length (bv O) ∧ Hid (ByP O (v / 256 ^ (4 * kq))) ∧ Below w1.heap.size w1 wr)
  case atStart => exact ⟨[], rfl, Nat.le_refl _, by simp, World.ownsRow_nil _ _ _ _, Lib.hid (by rw [pow256, Nat.div_eq_of_lt HT.out.1]; exact ⟨rfl, fun c hc => by simp at hc, fun c hc => by simp at hc⟩), Below.refl _ _⟩
  case round =>
    obtain ⟨O, rfl, hk, hOl, hown, hP, hb⟩ := hrel
    cases gk with
    | zero =>
      obtain ⟨A4, c4, rfl⟩ := own_sl hown
      have HP : Hid (ByP O v) := Lib.hid (by have h := hP.out; rwa [Nat.mul_zero, Nat.pow_zero, Nat.div_one] at h)
      rw [show ((0 : Nat) : Int) - 1 = -1 from rfl]
      clear hP
      go_wp2
      go_ret
      exact ⟨A4, c4, O, rfl, own_le hown hb1.size, HP.out, below_step hb1 hb⟩
    | succ i =>
      rw [show ((i + 1 : Nat) : Int) - 1 = (i : Int) by omega]
      obtain ⟨x, hx⟩ : ∃ x, (limbs v)[i]? = some x := ⟨_, List.getElem?_eq_getElem (by have := HT.out.2; omega)⟩
      obtain ⟨ad, rfl, hcell⟩ := hR i x hx
      have hx32 := (ok_limbs v).get hx
      have hin : (i : Int) < (N : Int) := by omega
      have hiI : (0 : Int) ≤ (i : Int) := by omega
      have hcW := (hb.cell (World.block_lt_of_cell? _ _ hcell)).trans hcell
      have hbr := hb
      have HCELL : Hid _ := Lib.hid hcell
      clear hcell
      go_wp2
      go_loopg [4, 6] 4 (fun kk v4 v6 wr2 => ∃ O : List Nat, v6 = .int .i64 (8 * (kk : Int) - 8) ∧ kk ≤ 4 ∧ O.length + (4 * i + kk) ≤ 4 * N ∧ wr2.ownsRow w1.heap.size 5 1 v4 O.length (bv O) ∧ Hid (ByP O (v / 256 ^ (4 * i + kk))) ∧ Below w1.heap.size w1 wr2)
      case atStart => exact ⟨O, rfl, Nat.le_refl _, by omega, hown, hP, hb⟩
      case round =>
        clear hown hP hb hOl hcW hbr
        obtain ⟨O, rfl, hk4, hOl, hown, hP, hb⟩ := hrel
        have hcell := HCELL.out
        have hcW := (hb.cell (World.block_lt_of_cell? _ _ hcell)).trans hcell
        cases gk with
        | zero =>
          rw [show 8 * ((0 : Nat) : Int) - 8 = -8 from by decide]
          have HP : Hid (ByP O (v / 256 ^ (4 * i))) := Lib.hid hP.out
          clear hP hx hcW
          go_wp2
          go_roundg i
          case rel => exact ⟨O, rfl, by omega, by omega, hown, HP, hb⟩
          case measure => omega
        | succ kk =>
          rcases (show kk = 0 ∨ kk = 1 ∨ kk = 2 ∨ kk = 3 by omega) with rfl | rfl | rfl | rfl
          · have hby := byte_at (r := 0) hx (by decide)
            obtain ⟨C, hC⟩ : ∃ C, v / 256 ^ (4 * i + 0) % 256 = C := ⟨_, rfl⟩
            have hst := div_step256 v (4 * i + 0)
            rw [hC] at hby hst
            simp only [Nat.reducePow] at hby
            have hC256 : C < 256 := by rw [← hC]; exact Nat.mod_lt _ (by decide)
            have hs1 : IntKind.u8.wrap ((x : Int)) = (C : Int) := by rw [IntKind.wrap_u8]; omega
            rw [show 8 * ((0 + 1 : Nat) : Int) - 8 = 0 from by decide]
            obtain ⟨A4, c4, rfl⟩ := own_sl hown
            clear hC hby
            by_cases hgo : O.length = 0 ∧ C = 0
            · obtain ⟨hO0, rfl⟩ := hgo
              have HN : Hid (ByP O (v / 256 ^ (4 * i + 0))) := Lib.hid (by
                have h := hP.out
                have h0 : O = [] := List.eq_nil_of_length_eq_zero hO0
                rw [show 4 * i + (0 + 1) = 4 * i + 0 + 1 from rfl] at h
                rw [← hst, ← h.1, h0]
                exact ⟨rfl, fun c hc => by simp at hc, fun c hc => by simp at hc⟩)
              have hown' := hown
              rw [hO0] at hown' ⊢
              rw [show ((0 : Nat) : Int) = 0 from rfl] at hs1
              clear hst hP hx hown
              go_wp2
              go_roundg 0
              case rel => exact ⟨O, congrArg (Value.int .i64) (by decide : (-8 : Int) = 8 * ((0 : Nat) : Int) - 8), by decide, by omega, by rw [hO0]; exact hown', HN, hb⟩
              case measure => omega
            · have HN : Hid (ByP (O ++ [C]) (v / 256 ^ (4 * i + 0))) := Lib.hid (by
                rw [← hst]
                exact hP.out.push hC256 (by omega))
              have hsz := hb.size
              have hown2 := hown.alloc (.cells #[.int .u8 (C : Int)] 5)
              have hb2 := hb.alloc hsz (.cells #[.int .u8 (C : Int)] 5)
              clear hst hP hx
              rcases own_cases hown2 with ⟨rfl, hO0, rfl⟩ | ⟨g4, rfl⟩
              · obtain rfl : O = [] := List.eq_nil_of_length_eq_zero hO0
                have hCI : ((C : Int) != 0) = true := bne_iff_ne.2 (by have h0 : ¬ (([] : List Nat).length = 0 ∧ C = 0) := hgo; simp at h0; omega)
                have hOl2 : 4 * i + 1 ≤ 4 * N := by simpa using hOl
                rw [show ([] : List Nat).length = 0 from rfl] at hown2 ⊢
                clear hgo hO0 hOl
                go_wp2_with (at_builtin; refine wpList_append_own _ rfl _ _ 73 rfl w1.heap.size 5 i0 (.int .u8 0) 1 1 Tryz.underlying73 hi0 hz0 hz1 hz2 rfl (by decide) _ _ _ rfl hown2 ⟨wr.heap.size, 0, none⟩ 1 1 [.int .u8 (C : Int)] rfl rfl (cell_one_new _ _ _) (one_u8 C) (by unfold maxLen; omega) (by omega) (by rw [World.size_alloc]; omega) ?_; intro v' w9 hown5 hgrow5 _; have hb9 := hb2.grown hgrow5 (by rw [World.size_alloc]; omega) (own_lo hown2))
                go_roundg 0
                case rel => exact ⟨[C], congrArg (Value.int .i64) (by decide : (-8 : Int) = 8 * ((0 : Nat) : Int) - 8), by decide, by simp; omega, hown5, HN, hb9⟩
                case measure => omega
              · rcases Nat.eq_zero_or_pos O.length with hO0 | hO0
                · obtain rfl : O = [] := List.eq_nil_of_length_eq_zero hO0
                  have hCI : ((C : Int) != 0) = true := bne_iff_ne.2 (by have h0 : ¬ (([] : List Nat).length = 0 ∧ C = 0) := hgo; simp at h0; omega)
                  have hOl2 : 4 * i + 1 ≤ 4 * N := by simpa using hOl
                  rw [show ([] : List Nat).length = 0 from rfl] at hown2 ⊢
                  clear hgo hO0 hOl
                  go_wp2_with (at_builtin; refine wpList_append_own _ rfl _ _ 73 rfl w1.heap.size 5 i0 (.int .u8 0) 1 1 Tryz.underlying73 hi0 hz0 hz1 hz2 rfl (by decide) _ _ _ rfl hown2 ⟨wr.heap.size, 0, none⟩ 1 1 [.int .u8 (C : Int)] rfl rfl (cell_one_new _ _ _) (one_u8 C) (by unfold maxLen; omega) (by omega) (by rw [World.size_alloc]; omega) ?_; intro v' w9 hown5 hgrow5 _; have hb9 := hb2.grown hgrow5 (by rw [World.size_alloc]; omega) (own_lo hown2))
                  go_roundg 0
                  case rel => exact ⟨[C], congrArg (Value.int .i64) (by decide : (-8 : Int) = 8 * ((0 : Nat) : Int) - 8), by decide, by simp; omega, hown5, HN, hb9⟩
                  case measure => omega
                · obtain ⟨n4, hn4⟩ : ∃ n4, O.length = n4 := ⟨_, rfl⟩
                  rw [hn4] at hown2 hO0 hOl ⊢
                  have hOI : (0 : Int) < (n4 : Int) := by omega
                  have HN4 : Hid _ := Lib.hid hn4
                  clear hgo hO0 hn4
                  go_wp2_with (at_builtin; refine wpList_append_own _ rfl _ _ 73 rfl w1.heap.size 5 i0 (.int .u8 0) 1 1 Tryz.underlying73 hi0 hz0 hz1 hz2 rfl (by decide) _ _ _ rfl hown2 ⟨wr.heap.size, 0, none⟩ 1 1 [.int .u8 (C : Int)] rfl rfl (cell_one_new _ _ _) (one_u8 C) (by unfold maxLen; omega) (by omega) (by rw [World.size_alloc]; omega) ?_; intro v' w9 hown5 hgrow5 _; have hb9 := hb2.grown hgrow5 (by rw [World.size_alloc]; omega) (own_lo hown2))
                  go_roundg 0
                  case rel => exact ⟨O ++ [C], congrArg (Value.int .i64) (by decide : (-8 : Int) = 8 * ((0 : Nat) : Int) - 8), by decide, by rw [List.length_append, List.length_singleton, HN4.out]; omega, by rw [bv_append, List.length_append, HN4.out]; exact hown5, HN, hb9⟩
                  case measure => omega
          · have hby := byte_at (r := 1) hx (by decide)
            obtain ⟨C, hC⟩ : ∃ C, v / 256 ^ (4 * i + 1) % 256 = C := ⟨_, rfl⟩
            have hst := div_step256 v (4 * i + 1)
            rw [hC] at hby hst
            simp only [Nat.reducePow] at hby
            have hC256 : C < 256 := by rw [← hC]; exact Nat.mod_lt _ (by decide)
            have hs1 : IntKind.u8.wrap ((x : Int) / 256) = (C : Int) := by rw [IntKind.wrap_u8]; omega
            rw [show 8 * ((1 + 1 : Nat) : Int) - 8 = 8 from by decide]
            obtain ⟨A4, c4, rfl⟩ := own_sl hown
            clear hC hby
            by_cases hgo : O.length = 0 ∧ C = 0
            · obtain ⟨hO0, rfl⟩ := hgo
              have HN : Hid (ByP O (v / 256 ^ (4 * i + 1))) := Lib.hid (by
                have h := hP.out
                have h0 : O = [] := List.eq_nil_of_length_eq_zero hO0
                rw [show 4 * i + (1 + 1) = 4 * i + 1 + 1 from rfl] at h
                rw [← hst, ← h.1, h0]
                exact ⟨rfl, fun c hc => by simp at hc, fun c hc => by simp at hc⟩)
              have hown' := hown
              rw [hO0] at hown' ⊢
              rw [show ((0 : Nat) : Int) = 0 from rfl] at hs1
              clear hst hP hx hown
              go_wp2
              go_roundg 1
              case rel => exact ⟨O, congrArg (Value.int .i64) (by decide : (0 : Int) = 8 * ((1 : Nat) : Int) - 8), by decide, by omega, by rw [hO0]; exact hown', HN, hb⟩
              case measure => omega
            · have HN : Hid (ByP (O ++ [C]) (v / 256 ^ (4 * i + 1))) := Lib.hid (by
                rw [← hst]
                exact hP.out.push hC256 (by omega))
              have hsz := hb.size
              have hown2 := hown.alloc (.cells #[.int .u8 (C : Int)] 5)
              have hb2 := hb.alloc hsz (.cells #[.int .u8 (C : Int)] 5)
              clear hst hP hx
              rcases own_cases hown2 with ⟨rfl, hO0, rfl⟩ | ⟨g4, rfl⟩
              · obtain rfl : O = [] := List.eq_nil_of_length_eq_zero hO0
                have hCI : ((C : Int) != 0) = true := bne_iff_ne.2 (by have h0 : ¬ (([] : List Nat).length = 0 ∧ C = 0) := hgo; simp at h0; omega)
                have hOl2 : 4 * i + 2 ≤ 4 * N := by simpa using hOl
                rw [show ([] : List Nat).length = 0 from rfl] at hown2 ⊢
                clear hgo hO0 hOl
                go_wp2_with (at_builtin; refine wpList_append_own _ rfl _ _ 73 rfl w1.heap.size 5 i0 (.int .u8 0) 1 1 Tryz.underlying73 hi0 hz0 hz1 hz2 rfl (by decide) _ _ _ rfl hown2 ⟨wr.heap.size, 0, none⟩ 1 1 [.int .u8 (C : Int)] rfl rfl (cell_one_new _ _ _) (one_u8 C) (by unfold maxLen; omega) (by omega) (by rw [World.size_alloc]; omega) ?_; intro v' w9 hown5 hgrow5 _; have hb9 := hb2.grown hgrow5 (by rw [World.size_alloc]; omega) (own_lo hown2))
                go_roundg 1
                case rel => exact ⟨[C], congrArg (Value.int .i64) (by decide : (0 : Int) = 8 * ((1 : Nat) : Int) - 8), by decide, by simp; omega, hown5, HN, hb9⟩
                case measure => omega
              · rcases Nat.eq_zero_or_pos O.length with hO0 | hO0
                · obtain rfl : O = [] := List.eq_nil_of_length_eq_zero hO0
                  have hCI : ((C : Int) != 0) = true := bne_iff_ne.2 (by have h0 : ¬ (([] : List Nat).length = 0 ∧ C = 0) := hgo; simp at h0; omega)
                  have hOl2 : 4 * i + 2 ≤ 4 * N := by simpa using hOl
                  rw [show ([] : List Nat).length = 0 from rfl] at hown2 ⊢
                  clear hgo hO0 hOl
                  go_wp2_with (at_builtin; refine wpList_append_own _ rfl _ _ 73 rfl w1.heap.size 5 i0 (.int .u8 0) 1 1 Tryz.underlying73 hi0 hz0 hz1 hz2 rfl (by decide) _ _ _ rfl hown2 ⟨wr.heap.size, 0, none⟩ 1 1 [.int .u8 (C : Int)] rfl rfl (cell_one_new _ _ _) (one_u8 C) (by unfold maxLen; omega) (by omega) (by rw [World.size_alloc]; omega) ?_; intro v' w9 hown5 hgrow5 _; have hb9 := hb2.grown hgrow5 (by rw [World.size_alloc]; omega) (own_lo hown2))
                  go_roundg 1
                  case rel => exact ⟨[C], congrArg (Value.int .i64) (by decide : (0 : Int) = 8 * ((1 : Nat) : Int) - 8), by decide, by simp; omega, hown5, HN, hb9⟩
                  case measure => omega
                · obtain ⟨n4, hn4⟩ : ∃ n4, O.length = n4 := ⟨_, rfl⟩
                  rw [hn4] at hown2 hO0 hOl ⊢
                  have hOI : (0 : Int) < (n4 : Int) := by omega
                  have HN4 : Hid _ := Lib.hid hn4
                  clear hgo hO0 hn4
                  go_wp2_with (at_builtin; refine wpList_append_own _ rfl _ _ 73 rfl w1.heap.size 5 i0 (.int .u8 0) 1 1 Tryz.underlying73 hi0 hz0 hz1 hz2 rfl (by decide) _ _ _ rfl hown2 ⟨wr.heap.size, 0, none⟩ 1 1 [.int .u8 (C : Int)] rfl rfl (cell_one_new _ _ _) (one_u8 C) (by unfold maxLen; omega) (by omega) (by rw [World.size_alloc]; omega) ?_; intro v' w9 hown5 hgrow5 _; have hb9 := hb2.grown hgrow5 (by rw [World.size_alloc]; omega) (own_lo hown2))
                  go_roundg 1
                  case rel => exact ⟨O ++ [C], congrArg (Value.int .i64) (by decide : (0 : Int) = 8 * ((1 : Nat) : Int) - 8), by decide, by rw [List.length_append, List.length_singleton, HN4.out]; omega, by rw [bv_append, List.length_append, HN4.out]; exact hown5, HN, hb9⟩
                  case measure => omega
          · have hby := byte_at (r := 2) hx (by decide)
            obtain ⟨C, hC⟩ : ∃ C, v / 256 ^ (4 * i + 2) % 256 = C := ⟨_, rfl⟩
            have hst := div_step256 v (4 * i + 2)
            rw [hC] at hby hst
            simp only [Nat.reducePow] at hby
            have hC256 : C < 256 := by rw [← hC]; exact Nat.mod_lt _ (by decide)
            have hs1 : IntKind.u8.wrap ((x : Int) / 65536) = (C : Int) := by rw [IntKind.wrap_u8]; omega
            rw [show 8 * ((2 + 1 : Nat) : Int) - 8 = 16 from by decide]
            obtain ⟨A4, c4, rfl⟩ := own_sl hown
            clear hC hby
            by_cases hgo : O.length = 0 ∧ C = 0
            · obtain ⟨hO0, rfl⟩ := hgo
              have HN : Hid (ByP O (v / 256 ^ (4 * i + 2))) := Lib.hid (by
                have h := hP.out
                have h0 : O = [] := List.eq_nil_of_length_eq_zero hO0
                rw [show 4 * i + (2 + 1) = 4 * i + 2 + 1 from rfl] at h
                rw [← hst, ← h.1, h0]
                exact ⟨rfl, fun c hc => by simp at hc, fun c hc => by simp at hc⟩)
              have hown' := hown
              rw [hO0] at hown' ⊢
              rw [show ((0 : Nat) : Int) = 0 from rfl] at hs1
              clear hst hP hx hown
              go_wp2
              go_roundg 2
              case rel => exact ⟨O, congrArg (Value.int .i64) (by decide : (8 : Int) = 8 * ((2 : Nat) : Int) - 8), by decide, by omega, by rw [hO0]; exact hown', HN, hb⟩
              case measure => omega
            · have HN : Hid (ByP (O ++ [C]) (v / 256 ^ (4 * i + 2))) := Lib.hid (by
                rw [← hst]
                exact hP.out.push hC256 (by omega))
              have hsz := hb.size
              have hown2 := hown.alloc (.cells #[.int .u8 (C : Int)] 5)
              have hb2 := hb.alloc hsz (.cells #[.int .u8 (C : Int)] 5)
              clear hst hP hx
              rcases own_cases hown2 with ⟨rfl, hO0, rfl⟩ | ⟨g4, rfl⟩
              · obtain rfl : O = [] := List.eq_nil_of_length_eq_zero hO0
                have hCI : ((C : Int) != 0) = true := bne_iff_ne.2 (by have h0 : ¬ (([] : List Nat).length = 0 ∧ C = 0) := hgo; simp at h0; omega)
                have hOl2 : 4 * i + 3 ≤ 4 * N := by simpa using hOl
                rw [show ([] : List Nat).length = 0 from rfl] at hown2 ⊢
                clear hgo hO0 hOl
                go_wp2_with (at_builtin; refine wpList_append_own _ rfl _ _ 73 rfl w1.heap.size 5 i0 (.int .u8 0) 1 1 Tryz.underlying73 hi0 hz0 hz1 hz2 rfl (by decide) _ _ _ rfl hown2 ⟨wr.heap.size, 0, none⟩ 1 1 [.int .u8 (C : Int)] rfl rfl (cell_one_new _ _ _) (one_u8 C) (by unfold maxLen; omega) (by omega) (by rw [World.size_alloc]; omega) ?_; intro v' w9 hown5 hgrow5 _; have hb9 := hb2.grown hgrow5 (by rw [World.size_alloc]; omega) (own_lo hown2))
                go_roundg 2
                case rel => exact ⟨[C], congrArg (Value.int .i64) (by decide : (8 : Int) = 8 * ((2 : Nat) : Int) - 8), by decide, by simp; omega, hown5, HN, hb9⟩
                case measure => omega
              · rcases Nat.eq_zero_or_pos O.length with hO0 | hO0
                · obtain rfl : O = [] := List.eq_nil_of_length_eq_zero hO0
                  have hCI : ((C : Int) != 0) = true := bne_iff_ne.2 (by have h0 : ¬ (([] : List Nat).length = 0 ∧ C = 0) := hgo; simp at h0; omega)
                  have hOl2 : 4 * i + 3 ≤ 4 * N := by simpa using hOl
                  rw [show ([] : List Nat).length = 0 from rfl] at hown2 ⊢
                  clear hgo hO0 hOl
                  go_wp2_with (at_builtin; refine wpList_append_own _ rfl _ _ 73 rfl w1.heap.size 5 i0 (.int .u8 0) 1 1 Tryz.underlying73 hi0 hz0 hz1 hz2 rfl (by decide) _ _ _ rfl hown2 ⟨wr.heap.size, 0, none⟩ 1 1 [.int .u8 (C : Int)] rfl rfl (cell_one_new _ _ _) (one_u8 C) (by unfold maxLen; omega) (by omega) (by rw [World.size_alloc]; omega) ?_; intro v' w9 hown5 hgrow5 _; have hb9 := hb2.grown hgrow5 (by rw [World.size_alloc]; omega) (own_lo hown2))
                  go_roundg 2
                  case rel => exact ⟨[C], congrArg (Value.int .i64) (by decide : (8 : Int) = 8 * ((2 : Nat) : Int) - 8), by decide, by simp; omega, hown5, HN, hb9⟩
                  case measure => omega
                · obtain ⟨n4, hn4⟩ : ∃ n4, O.length = n4 := ⟨_, rfl⟩
                  rw [hn4] at hown2 hO0 hOl ⊢
                  have hOI : (0 : Int) < (n4 : Int) := by omega
                  have HN4 : Hid _ := Lib.hid hn4
                  clear hgo hO0 hn4
                  go_wp2_with (at_builtin; refine wpList_append_own _ rfl _ _ 73 rfl w1.heap.size 5 i0 (.int .u8 0) 1 1 Tryz.underlying73 hi0 hz0 hz1 hz2 rfl (by decide) _ _ _ rfl hown2 ⟨wr.heap.size, 0, none⟩ 1 1 [.int .u8 (C : Int)] rfl rfl (cell_one_new _ _ _) (one_u8 C) (by unfold maxLen; omega) (by omega) (by rw [World.size_alloc]; omega) ?_; intro v' w9 hown5 hgrow5 _; have hb9 := hb2.grown hgrow5 (by rw [World.size_alloc]; omega) (own_lo hown2))
                  go_roundg 2
                  case rel => exact ⟨O ++ [C], congrArg (Value.int .i64) (by decide : (8 : Int) = 8 * ((2 : Nat) : Int) - 8), by decide, by rw [List.length_append, List.length_singleton, HN4.out]; omega, by rw [bv_append, List.length_append, HN4.out]; exact hown5, HN, hb9⟩
                  case measure => omega
          · have hby := byte_at (r := 3) hx (by decide)
            obtain ⟨C, hC⟩ : ∃ C, v / 256 ^ (4 * i + 3) % 256 = C := ⟨_, rfl⟩
            have hst := div_step256 v (4 * i + 3)
            rw [hC] at hby hst
            simp only [Nat.reducePow] at hby
            have hC256 : C < 256 := by rw [← hC]; exact Nat.mod_lt _ (by decide)
            have hs1 : IntKind.u8.wrap ((x : Int) / 16777216) = (C : Int) := by rw [IntKind.wrap_u8]; omega
            rw [show 8 * ((3 + 1 : Nat) : Int) - 8 = 24 from by decide]
            obtain ⟨A4, c4, rfl⟩ := own_sl hown
            clear hC hby
            by_cases hgo : O.length = 0 ∧ C = 0
            · obtain ⟨hO0, rfl⟩ := hgo
              have HN : Hid (ByP O (v / 256 ^ (4 * i + 3))) := Lib.hid (by
                have h := hP.out
                have h0 : O = [] := List.eq_nil_of_length_eq_zero hO0
                rw [show 4 * i + (3 + 1) = 4 * i + 3 + 1 from rfl] at h
                rw [← hst, ← h.1, h0]
                exact ⟨rfl, fun c hc => by simp at hc, fun c hc => by simp at hc⟩)
              have hown' := hown
              rw [hO0] at hown' ⊢
              rw [show ((0 : Nat) : Int) = 0 from rfl] at hs1
              clear hst hP hx hown
              go_wp2
              go_roundg 3
              case rel => exact ⟨O, congrArg (Value.int .i64) (by decide : (16 : Int) = 8 * ((3 : Nat) : Int) - 8), by decide, by omega, by rw [hO0]; exact hown', HN, hb⟩
              case measure => omega
            · have HN : Hid (ByP (O ++ [C]) (v / 256 ^ (4 * i + 3))) := Lib.hid (by
                rw [← hst]
                exact hP.out.push hC256 (by omega))
              have hsz := hb.size
              have hown2 := hown.alloc (.cells #[.int .u8 (C : Int)] 5)
              have hb2 := hb.alloc hsz (.cells #[.int .u8 (C : Int)] 5)
              clear hst hP hx
              rcases own_cases hown2 with ⟨rfl, hO0, rfl⟩ | ⟨g4, rfl⟩
              · obtain rfl : O = [] := List.eq_nil_of_length_eq_zero hO0
                have hCI : ((C : Int) != 0) = true := bne_iff_ne.2 (by have h0 : ¬ (([] : List Nat).length = 0 ∧ C = 0) := hgo; simp at h0; omega)
                have hOl2 : 4 * i + 4 ≤ 4 * N := by simpa using hOl
                rw [show ([] : List Nat).length = 0 from rfl] at hown2 ⊢
                clear hgo hO0 hOl
                go_wp2_with (at_builtin; refine wpList_append_own _ rfl _ _ 73 rfl w1.heap.size 5 i0 (.int .u8 0) 1 1 Tryz.underlying73 hi0 hz0 hz1 hz2 rfl (by decide) _ _ _ rfl hown2 ⟨wr.heap.size, 0, none⟩ 1 1 [.int .u8 (C : Int)] rfl rfl (cell_one_new _ _ _) (one_u8 C) (by unfold maxLen; omega) (by omega) (by rw [World.size_alloc]; omega) ?_; intro v' w9 hown5 hgrow5 _; have hb9 := hb2.grown hgrow5 (by rw [World.size_alloc]; omega) (own_lo hown2))
                go_roundg 3
                case rel => exact ⟨[C], congrArg (Value.int .i64) (by decide : (16 : Int) = 8 * ((3 : Nat) : Int) - 8), by decide, by simp; omega, hown5, HN, hb9⟩
                case measure => omega
              · rcases Nat.eq_zero_or_pos O.length with hO0 | hO0
                · obtain rfl : O = [] := List.eq_nil_of_length_eq_zero hO0
                  have hCI : ((C : Int) != 0) = true := bne_iff_ne.2 (by have h0 : ¬ (([] : List Nat).length = 0 ∧ C = 0) := hgo; simp at h0; omega)
                  have hOl2 : 4 * i + 4 ≤ 4 * N := by simpa using hOl
                  rw [show ([] : List Nat).length = 0 from rfl] at hown2 ⊢
                  clear hgo hO0 hOl
                  go_wp2_with (at_builtin; refine wpList_append_own _ rfl _ _ 73 rfl w1.heap.size 5 i0 (.int .u8 0) 1 1 Tryz.underlying73 hi0 hz0 hz1 hz2 rfl (by decide) _ _ _ rfl hown2 ⟨wr.heap.size, 0, none⟩ 1 1 [.int .u8 (C : Int)] rfl rfl (cell_one_new _ _ _) (one_u8 C) (by unfold maxLen; omega) (by omega) (by rw [World.size_alloc]; omega) ?_; intro v' w9 hown5 hgrow5 _; have hb9 := hb2.grown hgrow5 (by rw [World.size_alloc]; omega) (own_lo hown2))
                  go_roundg 3
                  case rel => exact ⟨[C], congrArg (Value.int .i64) (by decide : (16 : Int) = 8 * ((3 : Nat) : Int) - 8), by decide, by simp; omega, hown5, HN, hb9⟩
                  case measure => omega
                · obtain ⟨n4, hn4⟩ : ∃ n4, O.length = n4 := ⟨_, rfl⟩
                  rw [hn4] at hown2 hO0 hOl ⊢
                  have hOI : (0 : Int) < (n4 : Int) := by omega
                  have HN4 : Hid _ := Lib.hid hn4
                  clear hgo hO0 hn4
                  go_wp2_with (at_builtin; refine wpList_append_own _ rfl _ _ 73 rfl w1.heap.size 5 i0 (.int .u8 0) 1 1 Tryz.underlying73 hi0 hz0 hz1 hz2 rfl (by decide) _ _ _ rfl hown2 ⟨wr.heap.size, 0, none⟩ 1 1 [.int .u8 (C : Int)] rfl rfl (cell_one_new _ _ _) (one_u8 C) (by unfold maxLen; omega) (by omega) (by rw [World.size_alloc]; omega) ?_; intro v' w9 hown5 hgrow5 _; have hb9 := hb2.grown hgrow5 (by rw [World.size_alloc]; omega) (own_lo hown2))
                  go_roundg 3
                  case rel => exact ⟨O ++ [C], congrArg (Value.int .i64) (by decide : (16 : Int) = 8 * ((3 : Nat) : Int) - 8), by decide, by rw [List.length_append, List.length_singleton, HN4.out]; omega, by rw [bv_append, List.length_append, HN4.out]; exact hown5, HN, hb9⟩
                  case measure => omega
end Go.Proofs.YtffncomekbfihaaGreatDoor.Nat
namespace Go.Proofs.YtffncomekbfihaaGreatDoor.Nat
open Go.RowKit Go.Shelf
set_option linter.unusedVariables false
set_option linter.unusedSimpArgs false
theorem nsc_end {L : List Nat} {st : Int} {P : Nat} (h : P = L.length) : nsc st (L.drop P) P = if endsN st then (P, 0) else (P, 3) := by
  rw [List.drop_of_length_le (by omega), nsc_nil]
theorem nsc_stop {L : List Nat} {st : Int} {P c : Nat} (h : L[P]? = some c) (h9 : stepN st c = 9) : nsc st (L.drop P) P = if endsN st then (P, 0) else (P, 4) := by
  rw [drop_at h, nsc_cons, if_pos h9]
theorem nsc_go {L : List Nat} {st st' : Int} {P c : Nat} (h : L[P]? = some c) (hs : stepN st c = st') (h9 : st' ≠ 9) : nsc st (L.drop P) P = nsc st' (L.drop (P + 1)) (P + 1) := by
  rw [drop_at h, nsc_cons, if_neg (by rw [hs]; exact h9), hs]
/-- how many digits at a place -/
def rl (L : List Nat) (P : Nat) : Nat := ((L.drop P).takeWhile dg).length
theorem rl_some {L : List Nat} {P c : Nat} (h : L[P]? = some c) : rl L P = if 48 ≤ c ∧ c ≤ 57 then rl L (P + 1) + 1 else 0 := by
  unfold rl
  rw [drop_at h, List.takeWhile_cons]
  by_cases hd : 48 ≤ c ∧ c ≤ 57
  · rw [if_pos (by simpa [dg] using hd), if_pos hd, List.length_cons]
  · rw [if_neg (by simpa [dg] using hd), if_neg hd]; rfl
theorem rl_none {L : List Nat} {P : Nat} (h : L.length ≤ P) : rl L P = 0 := by
  unfold rl
  rw [List.drop_of_length_le h]
  rfl
theorem rl_le {L : List Nat} {P : Nat} (h : P ≤ L.length) : P + rl L P ≤ L.length := by
  unfold rl
  have := (List.takeWhile_sublist (l := L.drop P) dg).length_le
  rw [List.length_drop] at this
  omega
theorem at_or {L : List Nat} {P : Nat} (h : P ≤ L.length) : P = L.length ∨ ∃ c, L[P]? = some c := by
  rcases Nat.lt_or_ge P L.length with q | q
  · exact .inr ⟨_, List.getElem?_eq_getElem q⟩
  · exact .inl (by omega)
theorem at_lt {L : List Nat} {P c : Nat} (h : L[P]? = some c) : P < L.length := (List.getElem?_eq_some_iff.1 h).1
/-- over digits -/
theorem nsc_dgs {L : List Nat} {st : Int} (hs : st = 3 ∨ st = 5 ∨ st = 8) : ∀ (k P : Nat), rl L P = k → P ≤ L.length → nsc st (L.drop P) P = nsc st (L.drop (P + k)) (P + k) ∧ (∀ c, L[P + k]? = some c → ¬ (48 ≤ c ∧ c ≤ 57)) := by
  intro k
  induction k with
  | zero =>
    intro P hk hP
    refine ⟨rfl, fun c hc hd => ?_⟩
    rw [Nat.add_zero] at hc
    rw [rl_some hc, if_pos hd] at hk
    omega
  | succ k ih =>
    intro P hk hP
    rcases at_or hP with h | ⟨c, hc⟩
    · rw [rl_none (by omega)] at hk; omega
    · have hl := at_lt hc
      rw [rl_some hc] at hk
      split at hk
      · rename_i hd
        obtain ⟨i1, i2⟩ := ih (P + 1) (by omega) (by omega)
        rw [show P + 1 + k = P + (k + 1) from by omega] at i1 i2
        refine ⟨?_, i2⟩
        rw [nsc_go hc (stq_dg hs hd.1 hd.2) (by omega)]
        exact i1
      · omega
/-- a digit, and over digits -/
theorem nsc_dig {L : List Nat} {st st' : Int} {k P : Nat} (hs : st' = 3 ∨ st' = 5 ∨ st' = 8) (hk : rl L P = k) (h0 : k ≠ 0) (hP : P ≤ L.length) (hst : ∀ c : Nat, L[P]? = some c → 48 ≤ c → c ≤ 57 → stepN st c = st') : nsc st (L.drop P) P = nsc st' (L.drop (P + k)) (P + k) ∧ (∀ c, L[P + k]? = some c → ¬ (48 ≤ c ∧ c ≤ 57)) := by
  rcases at_or hP with h | ⟨c, hc⟩
  · rw [rl_none (by omega)] at hk; omega
  · have hl := at_lt hc
    rw [rl_some hc] at hk
    split at hk
    · rename_i hd
      obtain ⟨i1, i2⟩ := nsc_dgs (L := L) hs (k - 1) (P + 1) (by omega) (by omega)
      rw [show P + 1 + (k - 1) = P + k from by omega] at i1 i2
      refine ⟨?_, i2⟩
      rw [nsc_go hc (hst c hc hd.1 hd.2) (by omega)]
      exact i1
    · omega
theorem st01_bad {st : Int} {c : Nat} (hs : st = 0 ∨ st = 1) (h45 : st = 0 → c ≠ 45) (hd : ¬ (48 ≤ c ∧ c ≤ 57)) : stepN st (c : Int) = 9 := by
  unfold stepN
  rw [if_pos hs, if_neg (fun q => h45 q.2 (by omega)), if_neg (by omega), if_neg (by omega)]
theorem st01_zero {st : Int} (hs : st = 0 ∨ st = 1) : stepN st ((48 : Nat) : Int) = 2 := by
  rcases hs with rfl | rfl <;> decide
theorem st4_bad {c : Nat} (hd : ¬ (48 ≤ c ∧ c ≤ 57)) : stepN 4 (c : Int) = 9 := by
  unfold stepN
  rw [if_neg (by decide), if_neg (by decide), if_pos rfl, if_neg (by omega)]
theorem st67_bad {st : Int} {c : Nat} (hs : st = 6 ∨ st = 7) (h6 : st = 6 → c ≠ 43 ∧ c ≠ 45) (hd : ¬ (48 ≤ c ∧ c ≤ 57)) : stepN st (c : Int) = 9 := by
  unfold stepN
  rw [if_neg (by omega), if_neg (by omega), if_neg (by omega), if_pos (by omega), if_neg (fun q => by have := h6 q.2; omega), if_neg (by omega)]
theorem st8_bad {c : Nat} (hd : ¬ (48 ≤ c ∧ c ≤ 57)) : stepN 8 (c : Int) = 9 := by
  unfold stepN
  rw [if_neg (by decide), if_neg (by decide), if_neg (by decide), if_pos (by decide), if_neg (by omega), if_neg (by omega)]
theorem st235_bad {st : Int} {c : Nat} (hs : st = 2 ∨ st = 3 ∨ st = 5) (h46 : st ≠ 5 → c ≠ 46) (he : c ≠ 101 ∧ c ≠ 69) (hd : st ≠ 2 → ¬ (48 ≤ c ∧ c ≤ 57)) : stepN st (c : Int) = 9 := by
  unfold stepN
  rw [if_neg (by omega), if_pos hs, if_neg (fun q => h46 q.2 (by omega)), if_neg (by omega), if_neg (fun q => hd q.2.2 (by omega))]
theorem st235_exp {st : Int} {c : Nat} (hs : st = 2 ∨ st = 3 ∨ st = 5) (he : c = 101 ∨ c = 69) : stepN st (c : Int) = 6 := by
  unfold stepN
  rw [if_neg (by omega), if_pos hs, if_neg (by omega), if_pos (by omega)]
theorem st23_dot {st : Int} (hs : st = 2 ∨ st = 3) : stepN st ((46 : Nat) : Int) = 4 := by
  rcases hs with rfl | rfl <;> decide
theorem bad_calls (s : ByteArray) (P : Nat) (w : World) :
    Calls Tryz.prog 92 #[.string s, .int .i64 (P : Int)] w fun e w' => e = .returned (if s.size ≤ P then .tuple #[.int .i64 (s.size : Int), .int .i64 3] else .tuple #[.int .i64 (P : Int), .int .i64 4]) ∧ w' = w := by
  by_cases h : s.size ≤ P
  · rw [if_pos h]
    have hI : (s.size : Int) ≤ (P : Int) := by omega
    clear h
    go_enter Tryz.func92, Tryz.ntmps92
    go_wp2
    go_ret2
    exact ⟨rfl, rfl⟩
  · rw [if_neg h]
    have hI : ¬ (s.size : Int) ≤ (P : Int) := by omega
    clear h
    go_enter Tryz.func92, Tryz.ntmps92
    go_wp2
    go_ret2
    exact ⟨rfl, rfl⟩
def pairV (p : Nat × Nat) : Value := .tuple #[.int .i64 (p.1 : Int), .int .i64 (p.2 : Int)]
/-- where a digit must be, and none is -/
theorem bad_at {s : ByteArray} {st : Int} {P : Nat} {R : Nat × Nat} (hP : P ≤ s.size) (hR : nsc st ((bts s).drop P) P = R) (he : endsN st = false) (h9 : ∀ c, (bts s)[P]? = some c → stepN st c = 9) : (if s.size ≤ P then Value.tuple #[.int .i64 (s.size : Int), .int .i64 3] else .tuple #[.int .i64 (P : Int), .int .i64 4]) = pairV R := by
  have hl := bts_length s
  rcases at_or (L := bts s) (P := P) (by omega) with h | ⟨c, hc⟩
  · rw [nsc_end h, he, if_neg (by decide)] at hR
    rw [if_pos (by omega), ← hR]
    unfold pairV
    rw [show s.size = P from by omega]
    rfl
  · have := at_lt hc
    rw [nsc_stop hc (h9 c hc), he, if_neg (by decide)] at hR
    rw [if_neg (by omega), ← hR]
    rfl
theorem fin_at {s : ByteArray} {st : Int} {P : Nat} {R : Nat × Nat} (hP : P ≤ s.size) (hR : nsc st ((bts s).drop P) P = R) (he : endsN st = true) (h9 : ∀ c, (bts s)[P]? = some c → stepN st c = 9) : Value.tuple #[.int .i64 (P : Int), .int .i64 0] = pairV R := by
  have hl := bts_length s
  rcases at_or (L := bts s) (P := P) (by omega) with h | ⟨c, hc⟩
  · rw [nsc_end h, he, if_pos rfl] at hR
    rw [← hR]
    rfl
  · rw [nsc_stop hc (h9 c hc), he, if_pos rfl] at hR
    rw [← hR]
    rfl
set_option maxHeartbeats 16000000 in
set_option maxRecDepth 100000 in
theorem scan07 (s : ByteArray) (w : World) (hs : s.size ≤ 9223372036854775807) :
    Calls Tryz.prog 42 #[.string s] w fun e w' => e = .returned (pairV (nsc 0 (bts s) 0)) ∧ w' = w := by
  have hl := bts_length s
  obtain ⟨R, hR⟩ : ∃ R, nsc 0 (bts s) 0 = R := ⟨_, rfl⟩
  rw [hR]
  have kr := fun P W (hP : P ≤ s.size) => run07 s P W hs hP
  have kb := fun P W => bad_calls s P W
  obtain ⟨b0, at0, hb0, hr0, ha0, hl0, hc0⟩ := sgc_at [45] (bts s) 0 (by decide) (Nat.zero_le _)
  obtain ⟨st0, hst0⟩ : ∃ st0 : Int, (if b0 = true then 1 else 0) = st0 := ⟨_, rfl⟩
  have HS0 : Hid (nsc st0 ((bts s).drop at0) at0 = R ∧ (st0 = 0 ∨ st0 = 1) ∧ (∀ c, (bts s)[at0]? = some c → st0 = 0 → c ≠ 45)) := Lib.hid (by
    rcases hc0 with ⟨h0, rfl⟩ | ⟨h0, c, hc, ⟨hm, rfl, _⟩ | ⟨hm, rfl⟩⟩
    · rw [if_neg (by decide)] at ha0 hst0
      subst ha0; subst hst0
      exact ⟨hR, .inl rfl, fun c hc => by have := at_lt hc; omega⟩
    · rw [if_pos rfl] at ha0 hst0
      subst ha0; subst hst0
      obtain rfl : c = 45 := by simpa using hm
      refine ⟨?_, .inr rfl, fun c hc h => by omega⟩
      rw [← hR]
      have h := nsc_go (st := 0) (st' := 1) hc (by decide) (by decide)
      rw [List.drop_zero] at h
      exact h.symm
    · rw [if_neg (by decide)] at ha0 hst0
      subst ha0; subst hst0
      exact ⟨hR, .inl rfl, fun d hd _ q => by rw [hc] at hd; cases hd; exact hm (by simp [q])⟩)
  have HR : Hid _ := Lib.hid hR
  have hat0 : at0 ≤ s.size := by omega
  clear hb0 hr0 hl0 hst0 hR
  go_enter Tryz.func42, Tryz.ntmps42
  go_upto_region 2 with fail
  go_cut [12] (fun vb wx => vb = .bool b0 ∧ wx = w)
  case first =>
    as_aux_lemma =>
      rcases hc0 with ⟨h0, rfl⟩ | ⟨h0, c, hc, h1⟩
      · have hemp := empty_of (t := s) (by omega)
        clear h0 kr kb ha0
        go_wp2
        go_meet
        case rel => exact ⟨rfl, rfl⟩
      · have hful := full_of (t := s) (by omega)
        have hs0 : 0 < s.size := by omega
        have hat := bts_ix hc
        clear h0 kr kb ha0
        rcases h1 with ⟨hm, rfl, _⟩ | ⟨hm, rfl⟩
        · obtain rfl : c = 45 := by simpa using hm
          clear hm hc
          go_wp2
          go_meet
          case rel => exact ⟨rfl, rfl⟩
        · have hcf0 : ((c : Int) == 45) = false := beq_eq_false_iff_ne.2 (fun q => hm (by simp; omega))
          clear hm hc
          go_wp2
          go_meet
          case rel => exact ⟨by first | rfl | (rw [hcf0]), rfl⟩
  case rest =>
    as_aux_lemma =>
      obtain ⟨rfl, rfl⟩ := hcut
      clear hc0
      go_upto_if 12 with fail
      go_cut [4] (fun v4 wx => v4 = .int .i64 (at0 : Int) ∧ wx = wc)
      case first =>
        as_aux_lemma =>
          cases b0 with
          | true =>
            rw [if_pos rfl] at ha0
            subst ha0
            go_wp2
            go_meet
            case rel => exact ⟨rfl, rfl⟩
          | false =>
            rw [if_neg (by decide)] at ha0
            subst ha0
            go_wp2
            go_meet
            case rel => exact ⟨rfl, rfl⟩
      case rest =>
        as_aux_lemma =>
          obtain ⟨rfl, rfl⟩ := hcut
          clear ha0
          obtain ⟨n0, hn0⟩ : ∃ n0, rl (bts s) at0 = n0 := ⟨_, rfl⟩
          have k1 := kr at0 wc hat0
          rw [show (((bts s).drop at0).takeWhile dg).length = n0 from hn0] at k1
          have hlen0 := rl_le (L := bts s) (P := at0) (by omega)
          rw [hn0] at hlen0
          by_cases hz0 : n0 = 0
          · have k2 := kb at0 wc
            rw [bad_at hat0 HS0.out.1 (by rcases HS0.out.2.1 with h | h <;> rw [h] <;> decide) (fun c hc => st01_bad HS0.out.2.1 (fun h => HS0.out.2.2 c hc h) (fun hd => by rw [rl_some hc, if_pos hd] at hn0; omega))] at k2
            subst hz0
            clear hn0 hlen0 HS0 kr kb
            unfold pairV at k2
            go_wp2_with (first
              | (go_at_call 91; (with_reducible refine k1.mono ?_); clear k1; rintro e1 w1 ⟨rfl, rfl⟩)
              | (go_at_call 92; (with_reducible refine k2.mono ?_); clear k2; rintro e2 w2 ⟨rfl, rfl⟩))
            go_ret2
            exact ⟨rfl, rfl⟩
          obtain ⟨c0, hc0⟩ : ∃ c0, (bts s)[at0]? = some c0 := ⟨_, List.getElem?_eq_getElem (by omega)⟩
          have hdc0 : 48 ≤ c0 ∧ c0 ≤ 57 := by
            have h := hn0
            rw [rl_some hc0] at h
            split at h
            · assumption
            · omega
          obtain ⟨z, hz⟩ : ∃ z : Bool, decide (c0 = 48) = z := ⟨_, rfl⟩
          obtain ⟨n1, hn1⟩ : ∃ n1, (if z = true then 1 else n0) = n1 := ⟨_, rfl⟩
          obtain ⟨at1, hat1⟩ : ∃ at1, at0 + n1 = at1 := ⟨_, rfl⟩
          have HS1 : Hid (∃ st1, nsc st1 ((bts s).drop at1) at1 = R ∧ (st1 = 2 ∨ st1 = 3) ∧ (∀ c, (bts s)[at1]? = some c → st1 ≠ 2 → ¬ (48 ≤ c ∧ c ≤ 57))) := Lib.hid (by
            obtain ⟨q1, q2, q3⟩ := HS0.out
            by_cases h48 : c0 = 48
            · rw [decide_eq_true h48] at hz
              subst hz
              rw [if_pos rfl] at hn1
              subst hn1; subst hat1; subst h48
              exact ⟨2, by rw [← nsc_go hc0 (st01_zero q2) (by decide)]; exact q1, .inl rfl, fun c _ h => absurd rfl h⟩
            · rw [decide_eq_false h48] at hz
              subst hz
              rw [if_neg (by decide)] at hn1
              subst hn1; subst hat1
              obtain ⟨i1, i2⟩ := nsc_dig (L := bts s) (st := st0) (st' := 3) (.inl rfl) hn0 hz0 (by omega) (fun c hc h1 h2 => stq01 q2 (by rw [hc0] at hc; cases hc; omega) h2)
              exact ⟨3, by rw [← i1]; exact q1, .inr rfl, fun c hc _ => i2 c hc⟩)
          have hn1b : 1 ≤ n1 ∧ n1 ≤ n0 := by rw [← hn1]; split <;> omega
          have hat1s : at1 ≤ s.size := by omega
          have hat1I : (at0 : Int) + (n1 : Int) = (at1 : Int) := by omega
          have hw1 : IntKind.i64.wrap (at1 : Int) = (at1 : Int) := by rw [IntKind.wrap_i64]; omega
          have hn0I : ((n0 : Int) == 0) = false := beq_eq_false_iff_ne.2 (by omega)
          clear hn0 HS0 hat1
          go_upto_region 7 with (go_at_call 91; (with_reducible refine k1.mono ?_); clear k1; rintro e1 w1 ⟨rfl, rfl⟩)
          go_cut [26] (fun vb wx => vb = .bool z ∧ wx = wc)
          case first =>
            as_aux_lemma =>
              have hat := bts_ix hc0
              have hlt : (at0 : Int) < (s.size : Int) := by omega
              by_cases h48 : c0 = 48
              · rw [decide_eq_true h48] at hz
                subst hz; subst h48
                clear hc0 kr kb HS1 hn1 hdc0
                go_wp2
                go_meet
                case rel => exact ⟨rfl, rfl⟩
              · rw [decide_eq_false h48] at hz
                subst hz
                have hcf : ((c0 : Int) == 48) = false := beq_eq_false_iff_ne.2 (by omega)
                clear hc0 kr kb HS1 hn1 hdc0 h48
                go_wp2
                go_meet
                case rel => exact ⟨by first | rfl | (rw [hcf]), rfl⟩
          case rest =>
            as_aux_lemma =>
              obtain ⟨rfl, rfl⟩ := hcut
              clear hz hc0 hdc0
              go_upto_if 26 with fail
              go_cut [5] (fun v5 wx => v5 = .int .i64 (n1 : Int) ∧ wx = wc)
              case first =>
                as_aux_lemma =>
                  cases z with
                  | true =>
                    rw [if_pos rfl] at hn1
                    subst hn1
                    go_wp2
                    go_meet
                    case rel => exact ⟨rfl, rfl⟩
                  | false =>
                    rw [if_neg (by decide)] at hn1
                    subst hn1
                    go_wp2
                    go_meet
                    case rel => exact ⟨rfl, rfl⟩
              case rest =>
                as_aux_lemma =>
                  obtain ⟨rfl, rfl⟩ := hcut
                  clear hn1 hn1b hlen0 hz0 hn0I
                  obtain ⟨bd, atd, hbd, hrd, had, hld, hcd⟩ := sgc_at [46] (bts s) at1 (by decide) (by omega)
                  clear hbd hrd
                  go_upto_region 10 with fail
                  clear hat1I hw1
                  go_cut [39] (fun vb wx => vb = .bool bd ∧ wx = wc)
                  case first =>
                    as_aux_lemma =>
                      rcases hcd with ⟨h0, rfl⟩ | ⟨h0, c, hc, h1⟩
                      · have hnl : ¬ (at1 : Int) < (s.size : Int) := by omega
                        clear h0 kr kb had
                        go_wp2
                        go_meet
                        case rel => exact ⟨rfl, rfl⟩
                      · have hlt : (at1 : Int) < (s.size : Int) := by omega
                        have hat := bts_ix hc
                        clear h0 kr kb had
                        rcases h1 with ⟨hm, rfl, _⟩ | ⟨hm, rfl⟩
                        · obtain rfl : c = 46 := by simpa using hm
                          clear hm hc
                          go_wp2
                          go_meet
                          case rel => exact ⟨rfl, rfl⟩
                        · have hcf0 : ((c : Int) == 46) = false := beq_eq_false_iff_ne.2 (fun q => hm (by simp; omega))
                          clear hm hc
                          go_wp2
                          go_meet
                          case rel => exact ⟨by first | rfl | (rw [hcf0]), rfl⟩
                  case rest =>
                    as_aux_lemma =>
                      obtain ⟨rfl, rfl⟩ := hcut
                      have HCD : Hid _ := Lib.hid hcd
                      clear hcd
                      go_upto_if 39 with fail
                      go_cut [4] (fun v4 wx => ∃ at2 : Nat, v4 = .int .i64 (at2 : Int) ∧ at2 ≤ s.size ∧ Hid (∃ st2, nsc st2 ((bts s).drop at2) at2 = R ∧ (st2 = 2 ∨ st2 = 3 ∨ st2 = 5) ∧ (∀ c, (bts s)[at2]? = some c → (st2 ≠ 5 → c ≠ 46) ∧ (st2 ≠ 2 → ¬ (48 ≤ c ∧ c ≤ 57)))) ∧ wx = wc)
                      case first =>
                        as_aux_lemma =>
                          cases bd with
                          | false =>
                            rw [if_neg (by decide)] at had
                            subst had
                            have HS2 : Hid (∃ st2, nsc st2 ((bts s).drop atd) atd = R ∧ (st2 = 2 ∨ st2 = 3 ∨ st2 = 5) ∧ (∀ c, (bts s)[atd]? = some c → (st2 ≠ 5 → c ≠ 46) ∧ (st2 ≠ 2 → ¬ (48 ≤ c ∧ c ≤ 57)))) := Lib.hid (by
                              obtain ⟨st1, q1, q2, q3⟩ := HS1.out
                              refine ⟨st1, q1, by omega, fun c hc => ⟨fun _ q => ?_, q3 c hc⟩⟩
                              rcases HCD.out with ⟨h0, _⟩ | ⟨h0, d, hd, ⟨_, h1, _⟩ | ⟨hm, _⟩⟩
                              · have := at_lt hc; omega
                              · cases h1
                              · rw [hc] at hd; cases hd; exact hm (by simp [q]))
                            clear HS1 HCD kr kb
                            go_wp2
                            go_meet
                            case rel => exact ⟨atd, rfl, hat1s, HS2, rfl⟩
                          | true =>
                            rw [if_pos rfl] at had
                            obtain ⟨n2, hn2⟩ : ∃ n2, rl (bts s) atd = n2 := ⟨_, rfl⟩
                            have k1 := kr atd wc (by omega)
                            rw [show (((bts s).drop atd).takeWhile dg).length = n2 from hn2] at k1
                            have hlen2 := rl_le (L := bts s) (P := atd) (by omega)
                            rw [hn2] at hlen2
                            have HS4 : Hid (nsc 4 ((bts s).drop atd) atd = R) := Lib.hid (by
                              obtain ⟨st1, q1, q2, q3⟩ := HS1.out
                              rcases HCD.out with ⟨_, h0⟩ | ⟨h0, d, hd, ⟨hm, _, _⟩ | ⟨_, h1⟩⟩
                              · cases h0
                              · obtain rfl : d = 46 := by simpa using hm
                                rw [had, ← nsc_go hd (st23_dot q2) (by decide)]
                                exact q1
                              · cases h1)
                            have q1 : (at1 : Int) + 1 = (atd : Int) := by omega
                            have q2 : IntKind.i64.wrap (atd : Int) = (atd : Int) := by rw [IntKind.wrap_i64]; omega
                            by_cases hz2 : n2 = 0
                            · have k2 := kb atd wc
                              rw [bad_at (by omega) HS4.out (by decide) (fun c hc => st4_bad (fun hd => by rw [rl_some hc, if_pos hd] at hn2; omega))] at k2
                              subst hz2
                              clear hn2 hlen2 HS4 HS1 HCD kr kb had hld
                              unfold pairV at k2
                              go_wp2_with (first
                                | (go_at_call 91; (with_reducible refine k1.mono ?_); clear k1; rintro e1 w1 ⟨rfl, rfl⟩)
                                | (go_at_call 92; (with_reducible refine k2.mono ?_); clear k2; rintro e2 w2 ⟨rfl, rfl⟩))
                              go_ret2
                              exact ⟨rfl, rfl⟩
                            obtain ⟨at2, hat2⟩ : ∃ at2, atd + n2 = at2 := ⟨_, rfl⟩
                            have HS2 : Hid (∃ st2, nsc st2 ((bts s).drop at2) at2 = R ∧ (st2 = 2 ∨ st2 = 3 ∨ st2 = 5) ∧ (∀ c, (bts s)[at2]? = some c → (st2 ≠ 5 → c ≠ 46) ∧ (st2 ≠ 2 → ¬ (48 ≤ c ∧ c ≤ 57)))) := Lib.hid (by
                              obtain ⟨i1, i2⟩ := nsc_dig (L := bts s) (st := 4) (st' := 5) (.inr (.inl rfl)) hn2 hz2 (by omega) (fun c _ h1 h2 => stq4 h1 h2)
                              rw [hat2] at i1 i2
                              exact ⟨5, by rw [← i1]; exact HS4.out, .inr (.inr rfl), fun c hc => ⟨fun h => absurd rfl h, fun _ => i2 c hc⟩⟩)
                            have q3 : (atd : Int) + (n2 : Int) = (at2 : Int) := by omega
                            have q4 : IntKind.i64.wrap (at2 : Int) = (at2 : Int) := by rw [IntKind.wrap_i64]; omega
                            have hat2s : at2 ≤ s.size := by omega
                            have hn2I : ((n2 : Int) == 0) = false := beq_eq_false_iff_ne.2 (by omega)
                            clear hn2 hlen2 HS4 HS1 HCD kr kb had hld hat2 hz2
                            go_wp2_with (go_at_call 91; (with_reducible refine k1.mono ?_); clear k1; rintro e1 w1 ⟨rfl, rfl⟩)
                            go_meet
                            case rel => exact ⟨at2, rfl, hat2s, HS2, rfl⟩
                      case rest =>
                        as_aux_lemma =>
                          obtain ⟨at2, rfl, hat2s, HS2, rfl⟩ := hcut
                          clear HS1 HCD had hld hat1s
                          obtain ⟨be, ate, hbe, hre, hae, hle, hce⟩ := sgc_at [101, 69] (bts s) at2 (by decide) (by omega)
                          clear hbe hre
                          go_upto_region 15 with fail
                          go_cut [71] (fun vb wx => vb = .bool be ∧ wx = wc)
                          case first =>
                            as_aux_lemma =>
                              rcases hce with ⟨h0, rfl⟩ | ⟨h0, c, hc, h1⟩
                              · have hnl : ¬ (at2 : Int) < (s.size : Int) := by omega
                                clear h0 kr kb hae
                                go_wp2
                                go_meet
                                case rel => exact ⟨rfl, rfl⟩
                              · have hlt : (at2 : Int) < (s.size : Int) := by omega
                                have hat := bts_ix hc
                                clear h0 kr kb hae
                                rcases h1 with ⟨hm, rfl, _⟩ | ⟨hm, rfl⟩
                                · rcases (show c = 101 ∨ c = 69 by simpa using hm) with rfl | rfl
                                  · clear hm hc
                                    go_wp2
                                    go_meet
                                    case rel => exact ⟨rfl, rfl⟩
                                  · clear hm hc
                                    go_wp2
                                    go_meet
                                    case rel => exact ⟨rfl, rfl⟩
                                · have hcf0 : ((c : Int) == 101) = false := beq_eq_false_iff_ne.2 (fun q => hm (by simp; omega))
                                  have hcf1 : ((c : Int) == 69) = false := beq_eq_false_iff_ne.2 (fun q => hm (by simp; omega))
                                  clear hm hc
                                  go_wp2
                                  go_meet
                                  case rel => exact ⟨by first | rfl | (rw [hcf1]), rfl⟩
                          case rest =>
                            as_aux_lemma =>
                              obtain ⟨rfl, rfl⟩ := hcut
                              have HCE : Hid _ := Lib.hid hce
                              clear hce
                              go_upto_if 71 with fail
                              cases be with
                              | false =>
                                as_aux_lemma =>
                                  rw [if_neg (by decide)] at hae
                                  subst hae
                                  have hfin : Value.tuple #[.int .i64 (ate : Int), .int .i64 0] = pairV R := by
                                    obtain ⟨st2, q1, q2, q3⟩ := HS2.out
                                    refine fin_at hat2s q1 (by rcases q2 with h | h | h <;> rw [h] <;> decide) (fun c hc => ?_)
                                    rcases HCE.out with ⟨h0, _⟩ | ⟨h0, d, hd, ⟨_, h1, _⟩ | ⟨hm, _⟩⟩
                                    · have := at_lt hc; omega
                                    · cases h1
                                    · rw [hc] at hd; cases hd
                                      exact st235_bad q2 (q3 c hc).1 ⟨fun q => hm (by simp [q]), fun q => hm (by simp [q])⟩ (q3 c hc).2
                                  have HF : Hid _ := Lib.hid hfin
                                  clear hfin HS2 HCE kr kb
                                  go_wp2
                                  go_ret2
                                  exact ⟨by rw [← HF.out]; rfl, rfl⟩
                              | true =>
                                as_aux_lemma =>
                                  rw [if_pos rfl] at hae
                                  have HS6 : Hid (nsc 6 ((bts s).drop ate) ate = R) := Lib.hid (by
                                    obtain ⟨st2, q1, q2, q3⟩ := HS2.out
                                    rcases HCE.out with ⟨_, h0⟩ | ⟨h0, d, hd, ⟨hm, _, _⟩ | ⟨_, h1⟩⟩
                                    · cases h0
                                    · have hde : d = 101 ∨ d = 69 := by simpa using hm
                                      rw [hae, ← nsc_go hd (st235_exp q2 hde) (by decide)]
                                      exact q1
                                    · cases h1)
                                  have q1 : (at2 : Int) + 1 = (ate : Int) := by omega
                                  have q2 : IntKind.i64.wrap (ate : Int) = (ate : Int) := by rw [IntKind.wrap_i64]; omega
                                  obtain ⟨bs, ats, hbs, hrs, has, hls, hcs⟩ := sgc_at [43, 45] (bts s) ate (by decide) hle
                                  clear hbs hrs HS2 HCE hae
                                  go_upto_region 17 with fail
                                  go_cut [89] (fun vb wx => vb = .bool bs ∧ wx = wc)
                                  case first =>
                                    as_aux_lemma =>
                                      rcases hcs with ⟨h0, rfl⟩ | ⟨h0, c, hc, h1⟩
                                      · have hnl : ¬ (ate : Int) < (s.size : Int) := by omega
                                        clear h0 kr kb has
                                        go_wp2
                                        go_meet
                                        case rel => exact ⟨rfl, rfl⟩
                                      · have hlt : (ate : Int) < (s.size : Int) := by omega
                                        have hat := bts_ix hc
                                        clear h0 kr kb has
                                        rcases h1 with ⟨hm, rfl, _⟩ | ⟨hm, rfl⟩
                                        · rcases (show c = 43 ∨ c = 45 by simpa using hm) with rfl | rfl
                                          · clear hm hc
                                            go_wp2
                                            go_meet
                                            case rel => exact ⟨rfl, rfl⟩
                                          · clear hm hc
                                            go_wp2
                                            go_meet
                                            case rel => exact ⟨rfl, rfl⟩
                                        · have hcf0 : ((c : Int) == 43) = false := beq_eq_false_iff_ne.2 (fun q => hm (by simp; omega))
                                          have hcf1 : ((c : Int) == 45) = false := beq_eq_false_iff_ne.2 (fun q => hm (by simp; omega))
                                          clear hm hc
                                          go_wp2
                                          go_meet
                                          case rel => exact ⟨by first | rfl | (rw [hcf1]), rfl⟩
                                  case rest =>
                                    as_aux_lemma =>
                                      obtain ⟨rfl, rfl⟩ := hcut
                                      have HST : Hid (∃ st, nsc st ((bts s).drop ats) ats = R ∧ (st = 6 ∨ st = 7) ∧ (∀ c, (bts s)[ats]? = some c → st = 6 → c ≠ 43 ∧ c ≠ 45)) := Lib.hid (by
                                        rcases hcs with ⟨h0, rfl⟩ | ⟨h0, c, hc, ⟨hm, rfl, _⟩ | ⟨hm, rfl⟩⟩
                                        · rw [if_neg (by decide)] at has
                                          subst has
                                          exact ⟨6, HS6.out, .inl rfl, fun c hc => by have := at_lt hc; omega⟩
                                        · rw [if_pos rfl] at has
                                          have hcc : c = 43 ∨ c = 45 := by simpa using hm
                                          refine ⟨7, ?_, .inr rfl, fun c _ h => by omega⟩
                                          rw [has, ← nsc_go (st := 6) hc (by rcases hcc with rfl | rfl <;> decide) (by decide)]
                                          exact HS6.out
                                        · rw [if_neg (by decide)] at has
                                          subst has
                                          refine ⟨6, HS6.out, .inl rfl, fun d hd _ => ?_⟩
                                          rw [hc] at hd; cases hd
                                          exact ⟨fun q => hm (by simp [q]), fun q => hm (by simp [q])⟩)
                                      clear hcs HS6
                                      go_upto_if 89 with fail
                                      go_cut [4] (fun v4 wx => v4 = .int .i64 (ats : Int) ∧ wx = wc)
                                      case first =>
                                        as_aux_lemma =>
                                          cases bs with
                                          | false =>
                                            rw [if_neg (by decide)] at has
                                            subst has
                                            clear kr kb HST
                                            go_wp2
                                            go_meet
                                            case rel => exact ⟨rfl, rfl⟩
                                          | true =>
                                            rw [if_pos rfl] at has
                                            have s1 : (ate : Int) + 1 = (ats : Int) := by omega
                                            have s2 : IntKind.i64.wrap (ats : Int) = (ats : Int) := by rw [IntKind.wrap_i64]; omega
                                            clear has kr kb HST
                                            go_wp2
                                            go_meet
                                            case rel => exact ⟨rfl, rfl⟩
                                      case rest =>
                                        as_aux_lemma =>
                                          obtain ⟨rfl, rfl⟩ := hcut
                                          clear has
                                          obtain ⟨n3, hn3⟩ : ∃ n3, rl (bts s) ats = n3 := ⟨_, rfl⟩
                                          have k1 := kr ats wc (by omega)
                                          rw [show (((bts s).drop ats).takeWhile dg).length = n3 from hn3] at k1
                                          have hlen3 := rl_le (L := bts s) (P := ats) (by omega)
                                          rw [hn3] at hlen3
                                          by_cases hz3 : n3 = 0
                                          · have k2 := kb ats wc
                                            obtain ⟨st, t1, t2, t3⟩ := HST.out
                                            rw [bad_at (by omega) t1 (by rcases t2 with h | h <;> rw [h] <;> decide) (fun c hc => st67_bad t2 (t3 c hc) (fun hd => by rw [rl_some hc, if_pos hd] at hn3; omega))] at k2
                                            subst hz3
                                            clear hn3 hlen3 HST kr kb t1 t2 t3
                                            unfold pairV at k2
                                            go_wp2_with (first
                                              | (go_at_call 91; (with_reducible refine k1.mono ?_); clear k1; rintro e1 w1 ⟨rfl, rfl⟩)
                                              | (go_at_call 92; (with_reducible refine k2.mono ?_); clear k2; rintro e2 w2 ⟨rfl, rfl⟩))
                                            go_ret2
                                            exact ⟨rfl, rfl⟩
                                          obtain ⟨at5, hat5⟩ : ∃ at5, ats + n3 = at5 := ⟨_, rfl⟩
                                          have hfin : Value.tuple #[.int .i64 (at5 : Int), .int .i64 0] = pairV R := by
                                            obtain ⟨st, t1, t2, t3⟩ := HST.out
                                            obtain ⟨i1, i2⟩ := nsc_dig (L := bts s) (st := st) (st' := 8) (.inr (.inr rfl)) hn3 hz3 (by omega) (fun c _ h1 h2 => stq67 t2 h1 h2)
                                            rw [hat5] at i1 i2
                                            exact fin_at (by omega) (by rw [← i1]; exact t1) (by decide) (fun c hc => st8_bad (i2 c hc))
                                          have q3 : (ats : Int) + (n3 : Int) = (at5 : Int) := by omega
                                          have q4 : IntKind.i64.wrap (at5 : Int) = (at5 : Int) := by rw [IntKind.wrap_i64]; omega
                                          have hn3I : ((n3 : Int) == 0) = false := beq_eq_false_iff_ne.2 (by omega)
                                          have HF : Hid _ := Lib.hid hfin
                                          clear hn3 hlen3 HST kr kb hat5 hz3 hfin
                                          go_wp2_with (go_at_call 91; (with_reducible refine k1.mono ?_); clear k1; rintro e1 w1 ⟨rfl, rfl⟩)
                                          go_ret2
                                          exact ⟨by rw [← HF.out]; rfl, rfl⟩
end Go.Proofs.YtffncomekbfihaaGreatDoor.Nat
namespace Go.Proofs.YtffncomekbfihaaGreatDoor.Nat
open Go.RowKit Go.Shelf
set_option linter.unusedVariables false
set_option linter.unusedSimpArgs false
theorem bval_ge {L : List Nat} {c : Nat} (h0 : L[0]? = some c) (hc : c ≠ 0) : 256 ^ (L.length - 1) ≤ bval L := by
  cases L with
  | nil => simp at h0
  | cons d L =>
    obtain rfl : d = c := by simpa using h0
    rw [bval, List.length_cons, Nat.add_sub_cancel]
    have := Nat.le_mul_of_pos_left (256 ^ L.length) (Nat.pos_of_ne_zero hc)
    omega
theorem byp_big {O : List Nat} {v : Nat} (h : ByP O v) (hl : 8 < O.length) : 18446744073709551616 ≤ v := by
  obtain ⟨c, hc⟩ : ∃ c, O[0]? = some c := ⟨_, List.getElem?_eq_getElem (by omega)⟩
  have h1 := bval_ge hc (h.2.2 c hc)
  rw [h.1] at h1
  have h2 : (256 : Nat) ^ 8 ≤ 256 ^ (O.length - 1) := Nat.pow_le_pow_right (by decide) (by omega)
  have h3 : (256 : Nat) ^ 8 = 18446744073709551616 := by decide
  omega
theorem byp_small {O : List Nat} {v : Nat} (h : ByP O v) (hl : O.length ≤ 8) : v < 18446744073709551616 := by
  have h1 := bval_lt h.2.1
  rw [h.1] at h1
  have h2 : (256 : Nat) ^ O.length ≤ 256 ^ 8 := Nat.pow_le_pow_right (by decide) hl
  have h3 : (256 : Nat) ^ 8 = 18446744073709551616 := by decide
  omega
/-- what Number says -/
def NumP (neg : Bool) (v : Nat) (X : Value) : Prop :=
  (v < 18446744073709551616 ∧ X = .agg #[.int .i64 4, .bool neg, .int .u64 (v : Int), .string ⟨#[]⟩, .slice none 0 0]) ∨
  (18446744073709551616 ≤ v ∧ ∃ S : ByteArray, X = .agg #[.int .i64 5, .bool neg, .int .u64 0, .string S, .slice none 0 0] ∧ ByP (bts S) v)
theorem or_byte {n c : Nat} (hn : n < 72057594037927936) (hc : c < 256) : Go.bits BinOp.or IntKind.u64 ((n * 256 : Nat) : Int) (c : Int) = ((n * 256 + c : Nat) : Int) := by
  have h1 := (bits_nat .u64 64 (by decide) (fun n h0 h1 => by rw [IntKind.wrap_u64]; omega) (n * 256) c (by omega) (by omega)).2
  have h3 := Nat.two_pow_add_eq_or_of_lt (i := 8) (b := c) hc n
  have h2 : n * 256 ||| c = n * 256 + c := by rw [Nat.mul_comm]; exact h3.symm
  rw [h2] at h1
  exact h1
set_option maxHeartbeats 16000000 in
set_option maxRecDepth 100000 in
theorem number07 {V : Value} {n v : Nat} (neg : Bool) (w : World) (hV : NatB w V n) (hl : (limbs n).length ≤ 200) (hv : n - ng neg = v) (h0 : neg = true → n ≠ 0) :
    Calls Tryz.prog 46 #[.bool neg, V] w fun e w' => ∃ X, e = .returned X ∧ NumP neg v X ∧ Below w.heap.size w w' := by
  have hb0 := below_alloc w (.cells #[.int .i64 0, .bool false, .int .u64 0, .string ⟨#[]⟩, .slice none 0 0] 36)
  have hh0 := heap_alloc_new w (.cells #[.int .i64 0, .bool false, .int .u64 0, .string ⟨#[]⟩, .slice none 0 0] 36)
  obtain ⟨A0, l0, q0, rfl⟩ := natb_sl hV
  have hV0 := hV.below hb0
  have hvl : (limbs v).length ≤ 200 := Nat.le_trans (limbs_len_mono (by omega)) hl
  go_enter Tryz.func46, Tryz.ntmps46
  go_upto_if 8 with fail
  obtain ⟨W1, hW1⟩ : ∃ W1, w.alloc (.cells #[.int .i64 0, .bool false, .int .u64 0, .string ⟨#[]⟩, .slice none 0 0] 36) = W1 := ⟨_, rfl⟩
  rw [hW1] at hb0 hh0 hV0 ⊢
  clear hW1 hV
  go_cut [1] (fun v1 wx => NatB wx v1 v ∧ Below W1.heap.size W1 wx)
  case first =>
    cases neg with
    | false =>
      obtain rfl : n = v := hv
      go_wp2
      go_meet
      case rel => exact ⟨hV0, Below.refl _ _⟩
    | true =>
      have h1 := h0 rfl
      have hv1 : n - 1 = v := hv
      have bA := below_alloc W1 (.cells #[.int .u32 1] 53)
      have hone : NatB (W1.alloc (.cells #[.int .u32 1] 53)) (.slice (some ⟨W1.heap.size, 0, none⟩) 1 1) 1 := natb_one W1 1 (by decide)
      have honev : NatV (W1.alloc (.cells #[.int .u32 1] 53)) (.slice (some ⟨W1.heap.size, 0, none⟩) 1 1) 1 := by
        obtain ⟨A, l, c, e, hG, hO, hx, _⟩ := hone
        have hlim : limbs 1 = [1] := by decide +kernel
        refine ⟨some ⟨W1.heap.size, 0, none⟩, 1, by rw [hlim]; rfl, by rw [hlim]; exact Nat.le_refl _, ?_⟩
        rw [hlim]
        exact (good_one W1 1).1
      have ks := rsub_b (hV0.below bA) honev (by omega) (by omega)
      rw [hv1] at ks
      clear hone honev
      go_wp2_with (go_at_call 96; (with_reducible refine ks.mono ?_); clear ks; rintro e2 w2 ⟨v2, rfl, hv2, hb2⟩)
      go_meet
      case rel => exact ⟨hv2.b (by omega), below_step bA hb2⟩
  case rest =>
    obtain ⟨hVx, hbx⟩ := hcut
    have hhx := bk_below hh0 hbx
    have hbC := below_step hb0 hbx
    have kB := rbytes_calls hVx.a hvl
    obtain ⟨A1, l1, q1, rfl⟩ := natb_sl hVx
    clear hV0 hl hv h0 hvl hVx
    go_upto_if 19 with (go_at_call 97; (with_reducible refine kB.mono ?_); clear kB; rintro e3 w3 ⟨Ab, cb, O, rfl, hown, hP, hb3⟩)
    have hz := bk_below hhx hb3
    have hbD := below_step hbC hb3
    by_cases h8 : 8 < O.length
    · have hbig := byp_big hP h8
      have h8I : (8 : Int) < (O.length : Int) := by omega
      obtain ⟨gb, cb2, e4⟩ := own_form hown (by omega)
      cases e4
      have hRB := rb_own hown rfl
      have kc := rb_string (P := Tryz.prog) (cap := cb) (src := 73) (dst := 9) Tryz.underlying73 Tryz.underlying5 Tryz.underlying9 hRB hP.2.1
      have hbt := bts_ofB hP.2.1
      have d0 := (cell_of_row w3 w.heap.size 0 _ _ (0, 0) hz).trans rfl; have d1 := (cell_of_row w3 w.heap.size 1 _ _ (0, 0) hz).trans rfl; have d2 := (cell_of_row w3 w.heap.size 2 _ _ (0, 0) hz).trans rfl; have d3 := (cell_of_row w3 w.heap.size 3 _ _ (0, 0) hz).trans rfl; have d4 := (cell_of_row w3 w.heap.size 4 _ _ (0, 0) hz).trans rfl
      have f0 := frozen_of_row w3 w.heap.size 0 _ _ hz; have f1 := frozen_of_row w3 w.heap.size 1 _ _ hz; have f2 := frozen_of_row w3 w.heap.size 2 _ _ hz; have f3 := frozen_of_row w3 w.heap.size 3 _ _ hz; have f4 := frozen_of_row w3 w.heap.size 4 _ _ hz
      have hr5 := bk_set (bk_set (bk_set (bk_set (bk_set hz 0 (.int .i64 5)) 1 (.bool neg)) 2 (.int .u64 0)) 3 (.string (ofB O))) 4 (.slice none 0 0)
      have hq := Nat.le_refl w.heap.size
      have hb5 := ((((hbD.setCell (p := ⟨w.heap.size, 0, none⟩) hq (.int .i64 5)).setCell (p := ⟨w.heap.size, 1, none⟩) hq (.bool neg)).setCell (p := ⟨w.heap.size, 2, none⟩) hq (.int .u64 0)).setCell (p := ⟨w.heap.size, 3, none⟩) hq (.string (ofB O))).setCell (p := ⟨w.heap.size, 4, none⟩) hq (.slice none 0 0)
      have HR5 : Hid _ := Lib.hid (And.intro hr5 (And.intro hb5 (And.intro hbig (And.intro hbt hP))))
      obtain ⟨nO, hnO⟩ : ∃ nO, O.length = nO := ⟨_, rfl⟩
      rw [hnO] at kc h8I ⊢
      clear hr5 hb5 hz hRB hown hP h8 hbig hbt hbD hnO
      go_wp2
      refine bodyPost_ret (v := .agg #[.int .i64 5, .bool neg, .int .u64 0, .string (ofB O), .slice none 0 0]) (results_cell_row Tryz.results46 _ _ w.heap.size 36 _ (0, 0) _ rfl HR5.out.1 Tryz.underlying36 rfl (by kernel_rfl)) rfl ⟨_, rfl, .inr ⟨HR5.out.2.2.1, ofB O, rfl, by rw [HR5.out.2.2.2.1]; exact HR5.out.2.2.2.2⟩, HR5.out.2.1⟩
    · have hsm := byp_small hP (by omega)
      have h8I : ¬ (8 : Int) < (O.length : Int) := by omega
      obtain ⟨nO, hnO⟩ : ∃ nO, O.length = nO := ⟨_, rfl⟩
      have hcl : ∀ (j x : Nat), O[j]? = some x → ∃ g, Ab = some ⟨g, 0, none⟩ ∧ w3.cell? ⟨g, j, none⟩ = some (.int .u8 (x : Int)) := fun j x hx => by
        have hj := (List.getElem?_eq_some_iff.1 hx).1
        obtain ⟨g, c2, e4⟩ := own_form hown (by omega)
        cases e4
        exact ⟨g, rfl, by have h := hown.cellAt j (by omega); rw [bv_get hx] at h; exact h⟩
      have HO : Hid _ := Lib.hid (And.intro hcl (And.intro hnO (And.intro hP hsm)))
      rw [hnO] at h8I ⊢
      have h8n : nO ≤ 8 := by omega
      clear hcl hown hP h8 hsm hnO
      go_wp2
      go_loopg [6, 7] nO (fun kq v6 v7 wr => ∃ i : Nat, v7 = .int .i64 i ∧ i + kq = nO ∧ v6 = .int .u64 ((bval (O.take i) : Nat) : Int) ∧ wr = w3)
      case atStart => exact ⟨0, rfl, by omega, rfl, rfl⟩
      case round =>
        obtain ⟨i, rfl, hi, rfl, rfl⟩ := hrel
        cases gk with
        | zero =>
          obtain rfl : i = nO := by omega
          rw [List.take_of_length_le (by have := HO.out.2.1; omega), HO.out.2.2.1.1]
          have d0 := (cell_of_row wr w.heap.size 0 _ _ (0, 0) hz).trans rfl; have d1 := (cell_of_row wr w.heap.size 1 _ _ (0, 0) hz).trans rfl; have d2 := (cell_of_row wr w.heap.size 2 _ _ (0, 0) hz).trans rfl; have d3 := (cell_of_row wr w.heap.size 3 _ _ (0, 0) hz).trans rfl; have d4 := (cell_of_row wr w.heap.size 4 _ _ (0, 0) hz).trans rfl
          have f0 := frozen_of_row wr w.heap.size 0 _ _ hz; have f1 := frozen_of_row wr w.heap.size 1 _ _ hz; have f2 := frozen_of_row wr w.heap.size 2 _ _ hz; have f3 := frozen_of_row wr w.heap.size 3 _ _ hz; have f4 := frozen_of_row wr w.heap.size 4 _ _ hz
          have hr5 := bk_set (bk_set (bk_set (bk_set (bk_set hz 0 (.int .i64 4)) 1 (.bool neg)) 2 (.int .u64 (v : Int))) 3 (.string ⟨#[]⟩)) 4 (.slice none 0 0)
          have hq := Nat.le_refl w.heap.size
          have hb5 := ((((hbD.setCell (p := ⟨w.heap.size, 0, none⟩) hq (.int .i64 4)).setCell (p := ⟨w.heap.size, 1, none⟩) hq (.bool neg)).setCell (p := ⟨w.heap.size, 2, none⟩) hq (.int .u64 (v : Int))).setCell (p := ⟨w.heap.size, 3, none⟩) hq (.string ⟨#[]⟩)).setCell (p := ⟨w.heap.size, 4, none⟩) hq (.slice none 0 0)
          have HR5 : Hid _ := Lib.hid (And.intro hr5 (And.intro hb5 HO.out.2.2.2))
          clear hr5 hb5 hz HO hbD
          go_wp2
          refine bodyPost_ret (v := .agg #[.int .i64 4, .bool neg, .int .u64 (v : Int), .string ⟨#[]⟩, .slice none 0 0]) (results_cell_row Tryz.results46 _ _ w.heap.size 36 _ (0, 0) _ rfl HR5.out.1 Tryz.underlying36 rfl (by kernel_rfl)) rfl ⟨_, rfl, .inl ⟨HR5.out.2.2, rfl⟩, HR5.out.2.1⟩
        | succ d =>
          obtain ⟨x, hx⟩ : ∃ x, O[i]? = some x := ⟨_, List.getElem?_eq_getElem (by have := HO.out.2.1; omega)⟩
          obtain ⟨g, rfl, hcell⟩ := HO.out.1 i x hx
          have hx256 := HO.out.2.2.1.2.1 x (List.mem_of_getElem? hx)
          have hin : (i : Int) < (nO : Int) := by omega
          have hbt := bval_take hx
          have hlt : bval (O.take i) < 72057594037927936 := by
            have h := bval_lt (L := O.take i) (fun c hc => HO.out.2.2.1.2.1 c (List.mem_of_mem_take hc))
            have h2 : (256 : Nat) ^ (O.take i).length ≤ 256 ^ 7 := Nat.pow_le_pow_right (by decide) (by rw [List.length_take]; omega)
            have h3 : (256 : Nat) ^ 7 = 72057594037927936 := by decide
            omega
          generalize bval (O.take i) = m at *
          have ho := or_byte hlt hx256
          obtain ⟨M, hM⟩ : ∃ M, m * 256 = M := ⟨_, rfl⟩
          rw [hM] at ho
          have hw1 : IntKind.u64.wrap ((m : Int) * 256) = (M : Int) := by rw [IntKind.wrap_u64]; omega
          have hw2 : (m : Int) * 256 % 18446744073709551616 = (M : Int) := by omega
          have HM : Hid _ := Lib.hid (And.intro hbt hM)
          clear hbt hM hx
          go_wp2
          go_roundg d
          case rel => exact ⟨i + 1, by go_num, by omega, by rw [HM.out.1, HM.out.2]; rfl, rfl⟩
          case measure => omega
end Go.Proofs.YtffncomekbfihaaGreatDoor.Nat
namespace Go.Proofs.YtffncomekbfihaaGreatDoor.Nat
open Go.RowKit Go.Shelf
set_option linter.unusedVariables false
set_option linter.unusedSimpArgs false
set_option maxHeartbeats 8000000 in
set_option maxRecDepth 100000 in
theorem value_bad (s : ByteArray) (w : World) (hs : s.size ≤ 9223372036854775807) (hv : nsc 0 (bts s) 0 ≠ (s.size, 0)) :
    Calls Tryz.prog 15 #[.string s] w fun e w' => e = .returned (.tuple #[nilV, .int .i64 4]) ∧ Below w.heap.size w w' := by
  have hsl := bts_length s
  have hb0 := below_alloc w (.cells #[.int .i64 0, .bool false, .int .u64 0, .string ⟨#[]⟩, .slice none 0 0] 36)
  have hh0 := heap_alloc_new w (.cells #[.int .i64 0, .bool false, .int .u64 0, .string ⟨#[]⟩, .slice none 0 0] 36)
  have hq := Nat.le_refl w.heap.size
  obtain ⟨n, E, hR⟩ : ∃ n E, nsc 0 (bts s) 0 = (n, E) := ⟨_, _, rfl⟩
  have k1 : ∀ W, Calls Tryz.prog 18 #[.string s] W fun e w' => e = .returned (.tuple #[.int .i64 (n : Int), .int .i64 (E : Int)]) ∧ Below W.heap.size W w' := fun W => by
    have h := numScan_calls s W hs
    rw [hR] at h
    exact h
  rw [hR] at hv
  have hne : ¬ (E = 0 ∧ n = s.size) := fun q => hv (by rw [q.1, q.2])
  unfold nilV
  clear hR hv
  by_cases hE : E = 0
  · subst hE
    have hnI : ((n : Int) != (s.size : Int)) = true := bne_iff_ne.2 (by omega)
    clear hne
    go_enter Tryz.func15, Tryz.ntmps15
    go_wp2_with (go_at_call 18; (with_reducible refine (k1 _).mono ?_); clear k1; rintro e1 w1 ⟨rfl, hb1⟩; have hh1 := bk_below hh0 hb1; have hbA := below_step hb0 hb1; have d0 := (cell_of_row w1 w.heap.size 0 _ _ (0, 0) hh1).trans rfl; have d1 := (cell_of_row w1 w.heap.size 1 _ _ (0, 0) hh1).trans rfl; have d2 := (cell_of_row w1 w.heap.size 2 _ _ (0, 0) hh1).trans rfl; have d3 := (cell_of_row w1 w.heap.size 3 _ _ (0, 0) hh1).trans rfl; have d4 := (cell_of_row w1 w.heap.size 4 _ _ (0, 0) hh1).trans rfl; have f0 := frozen_of_row w1 w.heap.size 0 _ _ hh1; have f1 := frozen_of_row w1 w.heap.size 1 _ _ hh1; have f2 := frozen_of_row w1 w.heap.size 2 _ _ hh1; have f3 := frozen_of_row w1 w.heap.size 3 _ _ hh1; have f4 := frozen_of_row w1 w.heap.size 4 _ _ hh1)
    have hh1 := bk_below hh0 hb1
    have hbA := below_step hb0 hb1
    have HR5 : Hid _ := Lib.hid (And.intro (bk_set (bk_set (bk_set (bk_set (bk_set (hh1) 0 (.int .i64 0)) 1 (.bool false)) 2 (.int .u64 0)) 3 (.string ⟨#[]⟩)) 4 (.slice none 0 0)) (Below.setCell (Below.setCell (Below.setCell (Below.setCell (Below.setCell (hbA) (p := ⟨w.heap.size, 0, none⟩) hq (.int .i64 0)) (p := ⟨w.heap.size, 1, none⟩) hq (.bool false)) (p := ⟨w.heap.size, 2, none⟩) hq (.int .u64 0)) (p := ⟨w.heap.size, 3, none⟩) hq (.string ⟨#[]⟩)) (p := ⟨w.heap.size, 4, none⟩) hq (.slice none 0 0)))
    refine bodyPost_ret (results_cell_tmp Tryz.results15 _ _ w.heap.size 36 _ (0, 0) _ rfl HR5.out.1 Tryz.underlying36 rfl (by kernel_rfl)) rfl ⟨rfl, HR5.out.2⟩
  · have hEI : ((E : Int) != 0) = true := bne_iff_ne.2 (by omega)
    clear hne hE
    go_enter Tryz.func15, Tryz.ntmps15
    go_wp2_with (go_at_call 18; (with_reducible refine (k1 _).mono ?_); clear k1; rintro e1 w1 ⟨rfl, hb1⟩; have hh1 := bk_below hh0 hb1; have hbA := below_step hb0 hb1; have d0 := (cell_of_row w1 w.heap.size 0 _ _ (0, 0) hh1).trans rfl; have d1 := (cell_of_row w1 w.heap.size 1 _ _ (0, 0) hh1).trans rfl; have d2 := (cell_of_row w1 w.heap.size 2 _ _ (0, 0) hh1).trans rfl; have d3 := (cell_of_row w1 w.heap.size 3 _ _ (0, 0) hh1).trans rfl; have d4 := (cell_of_row w1 w.heap.size 4 _ _ (0, 0) hh1).trans rfl; have f0 := frozen_of_row w1 w.heap.size 0 _ _ hh1; have f1 := frozen_of_row w1 w.heap.size 1 _ _ hh1; have f2 := frozen_of_row w1 w.heap.size 2 _ _ hh1; have f3 := frozen_of_row w1 w.heap.size 3 _ _ hh1; have f4 := frozen_of_row w1 w.heap.size 4 _ _ hh1)
    have hh1 := bk_below hh0 hb1
    have hbA := below_step hb0 hb1
    have HR5 : Hid _ := Lib.hid (And.intro (bk_set (bk_set (bk_set (bk_set (bk_set (hh1) 0 (.int .i64 0)) 1 (.bool false)) 2 (.int .u64 0)) 3 (.string ⟨#[]⟩)) 4 (.slice none 0 0)) (Below.setCell (Below.setCell (Below.setCell (Below.setCell (Below.setCell (hbA) (p := ⟨w.heap.size, 0, none⟩) hq (.int .i64 0)) (p := ⟨w.heap.size, 1, none⟩) hq (.bool false)) (p := ⟨w.heap.size, 2, none⟩) hq (.int .u64 0)) (p := ⟨w.heap.size, 3, none⟩) hq (.string ⟨#[]⟩)) (p := ⟨w.heap.size, 4, none⟩) hq (.slice none 0 0)))
    refine bodyPost_ret (results_cell_tmp Tryz.results15 _ _ w.heap.size 36 _ (0, 0) _ rfl HR5.out.1 Tryz.underlying36 rfl (by kernel_rfl)) rfl ⟨rfl, HR5.out.2⟩
set_option maxHeartbeats 8000000 in
set_option maxRecDepth 100000 in
theorem value07_bad (s : ByteArray) (w : World) (hs : s.size ≤ 9223372036854775807) (hv : nsc 0 (bts s) 0 ≠ (s.size, 0)) :
    Calls Tryz.prog 16 #[.string s] w fun e w' => e = .returned (.tuple #[nilV, .int .i64 4]) ∧ Below w.heap.size w w' := by
  have hsl := bts_length s
  have hb0 := below_alloc w (.cells #[.int .i64 0, .bool false, .int .u64 0, .string ⟨#[]⟩, .slice none 0 0] 36)
  have hh0 := heap_alloc_new w (.cells #[.int .i64 0, .bool false, .int .u64 0, .string ⟨#[]⟩, .slice none 0 0] 36)
  have hq := Nat.le_refl w.heap.size
  obtain ⟨n, E, hR⟩ : ∃ n E, nsc 0 (bts s) 0 = (n, E) := ⟨_, _, rfl⟩
  have k1 : ∀ W, Calls Tryz.prog 42 #[.string s] W fun e w' => e = .returned (.tuple #[.int .i64 (n : Int), .int .i64 (E : Int)]) ∧ Below W.heap.size W w' := fun W => by
    have h := (scan07 s W hs).mono (fun e w' h => (⟨h.1, by rw [h.2]; exact Below.refl _ _⟩ : e = .returned (pairV (nsc 0 (bts s) 0)) ∧ Below W.heap.size W w'))
    rw [hR] at h
    exact h
  rw [hR] at hv
  have hne : ¬ (E = 0 ∧ n = s.size) := fun q => hv (by rw [q.1, q.2])
  unfold nilV
  clear hR hv
  by_cases hE : E = 0
  · subst hE
    have hnI : ((n : Int) != (s.size : Int)) = true := bne_iff_ne.2 (by omega)
    clear hne
    go_enter Tryz.func16, Tryz.ntmps16
    go_wp2_with (go_at_call 42; (with_reducible refine (k1 _).mono ?_); clear k1; rintro e1 w1 ⟨rfl, hb1⟩; have hh1 := bk_below hh0 hb1; have hbA := below_step hb0 hb1; have d0 := (cell_of_row w1 w.heap.size 0 _ _ (0, 0) hh1).trans rfl; have d1 := (cell_of_row w1 w.heap.size 1 _ _ (0, 0) hh1).trans rfl; have d2 := (cell_of_row w1 w.heap.size 2 _ _ (0, 0) hh1).trans rfl; have d3 := (cell_of_row w1 w.heap.size 3 _ _ (0, 0) hh1).trans rfl; have d4 := (cell_of_row w1 w.heap.size 4 _ _ (0, 0) hh1).trans rfl; have f0 := frozen_of_row w1 w.heap.size 0 _ _ hh1; have f1 := frozen_of_row w1 w.heap.size 1 _ _ hh1; have f2 := frozen_of_row w1 w.heap.size 2 _ _ hh1; have f3 := frozen_of_row w1 w.heap.size 3 _ _ hh1; have f4 := frozen_of_row w1 w.heap.size 4 _ _ hh1)
    have hh1 := bk_below hh0 hb1
    have hbA := below_step hb0 hb1
    have HR5 : Hid _ := Lib.hid (And.intro (bk_set (bk_set (bk_set (bk_set (bk_set (hh1) 0 (.int .i64 0)) 1 (.bool false)) 2 (.int .u64 0)) 3 (.string ⟨#[]⟩)) 4 (.slice none 0 0)) (Below.setCell (Below.setCell (Below.setCell (Below.setCell (Below.setCell (hbA) (p := ⟨w.heap.size, 0, none⟩) hq (.int .i64 0)) (p := ⟨w.heap.size, 1, none⟩) hq (.bool false)) (p := ⟨w.heap.size, 2, none⟩) hq (.int .u64 0)) (p := ⟨w.heap.size, 3, none⟩) hq (.string ⟨#[]⟩)) (p := ⟨w.heap.size, 4, none⟩) hq (.slice none 0 0)))
    refine bodyPost_ret (results_cell_tmp Tryz.results16 _ _ w.heap.size 36 _ (0, 0) _ rfl HR5.out.1 Tryz.underlying36 rfl (by kernel_rfl)) rfl ⟨rfl, HR5.out.2⟩
  · have hEI : ((E : Int) != 0) = true := bne_iff_ne.2 (by omega)
    clear hne hE
    go_enter Tryz.func16, Tryz.ntmps16
    go_wp2_with (go_at_call 42; (with_reducible refine (k1 _).mono ?_); clear k1; rintro e1 w1 ⟨rfl, hb1⟩; have hh1 := bk_below hh0 hb1; have hbA := below_step hb0 hb1; have d0 := (cell_of_row w1 w.heap.size 0 _ _ (0, 0) hh1).trans rfl; have d1 := (cell_of_row w1 w.heap.size 1 _ _ (0, 0) hh1).trans rfl; have d2 := (cell_of_row w1 w.heap.size 2 _ _ (0, 0) hh1).trans rfl; have d3 := (cell_of_row w1 w.heap.size 3 _ _ (0, 0) hh1).trans rfl; have d4 := (cell_of_row w1 w.heap.size 4 _ _ (0, 0) hh1).trans rfl; have f0 := frozen_of_row w1 w.heap.size 0 _ _ hh1; have f1 := frozen_of_row w1 w.heap.size 1 _ _ hh1; have f2 := frozen_of_row w1 w.heap.size 2 _ _ hh1; have f3 := frozen_of_row w1 w.heap.size 3 _ _ hh1; have f4 := frozen_of_row w1 w.heap.size 4 _ _ hh1)
    have hh1 := bk_below hh0 hb1
    have hbA := below_step hb0 hb1
    have HR5 : Hid _ := Lib.hid (And.intro (bk_set (bk_set (bk_set (bk_set (bk_set (hh1) 0 (.int .i64 0)) 1 (.bool false)) 2 (.int .u64 0)) 3 (.string ⟨#[]⟩)) 4 (.slice none 0 0)) (Below.setCell (Below.setCell (Below.setCell (Below.setCell (Below.setCell (hbA) (p := ⟨w.heap.size, 0, none⟩) hq (.int .i64 0)) (p := ⟨w.heap.size, 1, none⟩) hq (.bool false)) (p := ⟨w.heap.size, 2, none⟩) hq (.int .u64 0)) (p := ⟨w.heap.size, 3, none⟩) hq (.string ⟨#[]⟩)) (p := ⟨w.heap.size, 4, none⟩) hq (.slice none 0 0)))
    refine bodyPost_ret (results_cell_tmp Tryz.results16 _ _ w.heap.size 36 _ (0, 0) _ rfl HR5.out.1 Tryz.underlying36 rfl (by kernel_rfl)) rfl ⟨rfl, HR5.out.2⟩
set_option maxHeartbeats 8000000 in
set_option maxRecDepth 100000 in
theorem value_doterr (s : ByteArray) (w : World) (hs : s.size ≤ 9223372036854775807) (hv : nsc 0 (bts s) 0 = (s.size, 0)) (hdot : 46 ∈ bts s ∨ 101 ∈ bts s ∨ 69 ∈ bts s) (X E : Nat) (hE : E ≠ 0) (hsc : sc (bts s) = (X, E)) :
    Calls Tryz.prog 15 #[.string s] w fun e w' => e = .returned (.tuple #[nilV, .int .i64 8]) ∧ Below w.heap.size w w' := by
  have hEI : ((E : Int) != 0) = true := bne_iff_ne.2 (by omega)
  unfold nilV
  have hsl := bts_length s
  have k1 : ∀ W, Calls Tryz.prog 18 #[.string s] W fun e w' => e = .returned (.tuple #[.int .i64 (s.size : Int), .int .i64 0]) ∧ Below W.heap.size W w' := fun W => by
    have h := numScan_calls s W (by omega)
    rw [hv] at h
    exact h
  have k2 : ∀ W, Calls Tryz.prog 37 #[.string s] W fun e w' => e = .returned (.tuple #[.int .u64 (X : Int), .int .i64 (E : Int)]) ∧ Below W.heap.size W w' := fun W => by
    have h := scan_calls s W (by omega)
    rw [hsc] at h
    exact h
  have hb0 := below_alloc w (.cells #[.int .i64 0, .bool false, .int .u64 0, .string ⟨#[]⟩, .slice none 0 0] 36)
  have hh0 := heap_alloc_new w (.cells #[.int .i64 0, .bool false, .int .u64 0, .string ⟨#[]⟩, .slice none 0 0] 36)
  have HD : Hid _ := Lib.hid hdot
  clear hdot hv hsc hE
  go_enter Tryz.func15, Tryz.ntmps15
  go_wp2_with (go_at_call 18; (with_reducible refine (k1 _).mono ?_); clear k1; rintro e1 w1 ⟨rfl, hb1⟩; have hh1 := bk_below hh0 hb1; have hbA := below_step hb0 hb1)
  go_loopg [33] s.size (fun kq v33 wr => ∃ i : Nat, v33 = .int .i64 i ∧ i + kq = s.size ∧ Hid (∀ (j c : Nat), j < i → (bts s)[j]? = some c → c ≠ 46 ∧ c ≠ 101 ∧ c ≠ 69) ∧ wr = w1)
  case atStart => exact ⟨0, rfl, by omega, Lib.hid (fun j c hj => absurd hj (Nat.not_lt_zero j)), rfl⟩
  case round =>
    obtain ⟨i, rfl, hi, hno, rfl⟩ := hrel
    cases gk with
    | zero =>
      exfalso
      obtain rfl : i = s.size := by omega
      have h : ∀ c ∈ bts s, c ≠ 46 ∧ c ≠ 101 ∧ c ≠ 69 := fun c hc => by
        obtain ⟨j, hj⟩ := List.mem_iff_getElem?.1 hc
        exact hno.out j c (by have := (List.getElem?_eq_some_iff.1 hj).1; omega) hj
      rcases HD.out with h1 | h1 | h1
      · exact (h _ h1).1 rfl
      · exact (h _ h1).2.1 rfl
      · exact (h _ h1).2.2 rfl
    | succ d =>
      have hlt : i < s.size := by omega
      have hltI : (i : Int) < (s.size : Int) := by omega
      have hat := bts_at s i hlt
      obtain ⟨c, hc⟩ : ∃ c, s[i].toNat = c := ⟨_, rfl⟩
      rw [hc] at hat
      by_cases hq : c = 46 ∨ c = 101 ∨ c = 69
      · clear hat hno
        rcases hq with rfl | rfl | rfl
        all_goals
          go_wp2_with (go_at_call 37; (with_reducible refine (k2 _).mono ?_); clear k2; rintro e3 w3 ⟨rfl, hb3⟩; have hz := bk_below hh1 hb3; have d0 := (cell_of_row w3 w.heap.size 0 _ _ (0, 0) hz).trans rfl; have d1 := (cell_of_row w3 w.heap.size 1 _ _ (0, 0) hz).trans rfl; have d2 := (cell_of_row w3 w.heap.size 2 _ _ (0, 0) hz).trans rfl; have d3 := (cell_of_row w3 w.heap.size 3 _ _ (0, 0) hz).trans rfl; have d4 := (cell_of_row w3 w.heap.size 4 _ _ (0, 0) hz).trans rfl; have f0 := frozen_of_row w3 w.heap.size 0 _ _ hz; have f1 := frozen_of_row w3 w.heap.size 1 _ _ hz; have f2 := frozen_of_row w3 w.heap.size 2 _ _ hz; have f3 := frozen_of_row w3 w.heap.size 3 _ _ hz; have f4 := frozen_of_row w3 w.heap.size 4 _ _ hz)
          have hz := bk_below hh1 hb3
          have hr5 := bk_set (bk_set (bk_set (bk_set (bk_set hz 0 (.int .i64 0)) 1 (.bool false)) 2 (.int .u64 0)) 3 (.string ⟨#[]⟩)) 4 (.slice none 0 0)
          have hqq := Nat.le_refl w.heap.size
          have hb5 := (((((below_step hbA hb3).setCell (p := ⟨w.heap.size, 0, none⟩) hqq (.int .i64 0)).setCell (p := ⟨w.heap.size, 1, none⟩) hqq (.bool false)).setCell (p := ⟨w.heap.size, 2, none⟩) hqq (.int .u64 0)).setCell (p := ⟨w.heap.size, 3, none⟩) hqq (.string ⟨#[]⟩)).setCell (p := ⟨w.heap.size, 4, none⟩) hqq (.slice none 0 0)
          refine bodyPost_ret (results_cell_tmp Tryz.results15 _ _ w.heap.size 36 _ (0, 0) _ rfl hr5 Tryz.underlying36 rfl (by kernel_rfl)) rfl ⟨rfl, hb5⟩
      · have n1 : ((c : Int) == 46) = false := beq_eq_false_iff_ne.2 (by omega)
        have n2 : ((c : Int) == 101) = false := beq_eq_false_iff_ne.2 (by omega)
        have n3 : ((c : Int) == 69) = false := beq_eq_false_iff_ne.2 (by omega)
        have HN : Hid (∀ (j c : Nat), j < i + 1 → (bts s)[j]? = some c → c ≠ 46 ∧ c ≠ 101 ∧ c ≠ 69) := Lib.hid (fun j x hj hx => by
          rcases Nat.lt_or_ge j i with h | h
          · exact hno.out j x h hx
          · obtain rfl : j = i := by omega
            rw [hat] at hx
            cases hx
            omega)
        clear hat hq hno
        go_wp2
        go_roundg d
        case rel => exact ⟨i + 1, by go_num, by omega, HN, rfl⟩
        case measure => omega
set_option maxHeartbeats 8000000 in
set_option maxRecDepth 100000 in
theorem value07_dot (s : ByteArray) (w : World) (hs : s.size ≤ 9223372036854775807) (hv : nsc 0 (bts s) 0 = (s.size, 0)) (hdot : 46 ∈ bts s ∨ 101 ∈ bts s ∨ 69 ∈ bts s) (X : Nat) (hsc : sc (bts s) = (X, 0)) :
    Calls Tryz.prog 16 #[.string s] w fun e w' => e = .returned (.tuple #[.agg #[.int .i64 8, .bool false, .int .u64 (X : Int), .string ⟨#[]⟩, .slice none 0 0], .int .i64 0]) ∧ Below w.heap.size w w' := by
  have hsl := bts_length s
  have hb0 := below_alloc w (.cells #[.int .i64 0, .bool false, .int .u64 0, .string ⟨#[]⟩, .slice none 0 0] 36)
  have hh0 := heap_alloc_new w (.cells #[.int .i64 0, .bool false, .int .u64 0, .string ⟨#[]⟩, .slice none 0 0] 36)
  have hq := Nat.le_refl w.heap.size
  have k1 : ∀ W, Calls Tryz.prog 42 #[.string s] W fun e w' => e = .returned (.tuple #[.int .i64 (s.size : Int), .int .i64 0]) ∧ w' = W := fun W => by
    have h := scan07 s W hs
    rw [hv] at h
    exact h
  have k2 : ∀ W, Calls Tryz.prog 43 #[.string s] W fun e w' => e = .returned (.bool false) ∧ w' = W := fun W => by
    have h := whole_calls s W hs
    rwa [show decide (46 ∉ bts s ∧ 101 ∉ bts s ∧ 69 ∉ bts s) = false from decide_eq_false (fun q => by rcases hdot with h | h | h; exact q.1 h; exact q.2.1 h; exact q.2.2 h)] at h
  have k3 : ∀ W, Calls Tryz.prog 44 #[.string s] W fun e w' => e = .returned (.tuple #[.int .u64 (X : Int), .int .i64 0]) ∧ Below W.heap.size W w' := fun W => by
    have h := scan_ref s W hs
    rw [hsc] at h
    exact h
  clear hdot hv hsc
  go_enter Tryz.func16, Tryz.ntmps16
  go_wp2_with (first
    | (go_at_call 42; (with_reducible refine (k1 _).mono ?_); clear k1; rintro e1 w1 ⟨rfl, rfl⟩)
    | (go_at_call 43; (with_reducible refine (k2 _).mono ?_); clear k2; rintro e2 w2 ⟨rfl, rfl⟩)
    | (go_at_call 44; (with_reducible refine (k3 _).mono ?_); clear k3; rintro e3 w3 ⟨rfl, hb3⟩; have hz := bk_below hh0 hb3; have d0 := (cell_of_row w3 w.heap.size 0 _ _ (0, 0) hz).trans rfl; have d1 := (cell_of_row w3 w.heap.size 1 _ _ (0, 0) hz).trans rfl; have d2 := (cell_of_row w3 w.heap.size 2 _ _ (0, 0) hz).trans rfl; have d3 := (cell_of_row w3 w.heap.size 3 _ _ (0, 0) hz).trans rfl; have d4 := (cell_of_row w3 w.heap.size 4 _ _ (0, 0) hz).trans rfl; have f0 := frozen_of_row w3 w.heap.size 0 _ _ hz; have f1 := frozen_of_row w3 w.heap.size 1 _ _ hz; have f2 := frozen_of_row w3 w.heap.size 2 _ _ hz; have f3 := frozen_of_row w3 w.heap.size 3 _ _ hz; have f4 := frozen_of_row w3 w.heap.size 4 _ _ hz))
  have hz := bk_below hh0 hb3
  have hbA := below_step hb0 hb3
  have HR5 : Hid _ := Lib.hid (And.intro (bk_set (bk_set (bk_set (bk_set (bk_set (hz) 0 (.int .i64 8)) 1 (.bool false)) 2 (.int .u64 (X : Int))) 3 (.string ⟨#[]⟩)) 4 (.slice none 0 0)) (Below.setCell (Below.setCell (Below.setCell (Below.setCell (Below.setCell (hbA) (p := ⟨w.heap.size, 0, none⟩) hq (.int .i64 8)) (p := ⟨w.heap.size, 1, none⟩) hq (.bool false)) (p := ⟨w.heap.size, 2, none⟩) hq (.int .u64 (X : Int))) (p := ⟨w.heap.size, 3, none⟩) hq (.string ⟨#[]⟩)) (p := ⟨w.heap.size, 4, none⟩) hq (.slice none 0 0)))
  refine bodyPost_ret (results_cell_tmp Tryz.results16 _ _ w.heap.size 36 _ (0, 0) _ rfl HR5.out.1 Tryz.underlying36 rfl (by kernel_rfl)) rfl ⟨rfl, HR5.out.2⟩
set_option maxHeartbeats 8000000 in
set_option maxRecDepth 100000 in
theorem value07_doterr (s : ByteArray) (w : World) (hs : s.size ≤ 9223372036854775807) (hv : nsc 0 (bts s) 0 = (s.size, 0)) (hdot : 46 ∈ bts s ∨ 101 ∈ bts s ∨ 69 ∈ bts s) (X E : Nat) (hE : E ≠ 0) (hsc : sc (bts s) = (X, E)) :
    Calls Tryz.prog 16 #[.string s] w fun e w' => e = .returned (.tuple #[nilV, .int .i64 8]) ∧ Below w.heap.size w w' := by
  have hsl := bts_length s
  have hb0 := below_alloc w (.cells #[.int .i64 0, .bool false, .int .u64 0, .string ⟨#[]⟩, .slice none 0 0] 36)
  have hh0 := heap_alloc_new w (.cells #[.int .i64 0, .bool false, .int .u64 0, .string ⟨#[]⟩, .slice none 0 0] 36)
  have hq := Nat.le_refl w.heap.size
  have k1 : ∀ W, Calls Tryz.prog 42 #[.string s] W fun e w' => e = .returned (.tuple #[.int .i64 (s.size : Int), .int .i64 0]) ∧ w' = W := fun W => by
    have h := scan07 s W hs
    rw [hv] at h
    exact h
  have k2 : ∀ W, Calls Tryz.prog 43 #[.string s] W fun e w' => e = .returned (.bool false) ∧ w' = W := fun W => by
    have h := whole_calls s W hs
    rwa [show decide (46 ∉ bts s ∧ 101 ∉ bts s ∧ 69 ∉ bts s) = false from decide_eq_false (fun q => by rcases hdot with h | h | h; exact q.1 h; exact q.2.1 h; exact q.2.2 h)] at h
  have k3 : ∀ W, Calls Tryz.prog 44 #[.string s] W fun e w' => e = .returned (.tuple #[.int .u64 (X : Int), .int .i64 (E : Int)]) ∧ Below W.heap.size W w' := fun W => by
    have h := scan_ref s W hs
    rw [hsc] at h
    exact h
  have hEI : ((E : Int) != 0) = true := bne_iff_ne.2 (by omega)
  unfold nilV
  clear hdot hv hsc hE
  go_enter Tryz.func16, Tryz.ntmps16
  go_wp2_with (first
    | (go_at_call 42; (with_reducible refine (k1 _).mono ?_); clear k1; rintro e1 w1 ⟨rfl, rfl⟩)
    | (go_at_call 43; (with_reducible refine (k2 _).mono ?_); clear k2; rintro e2 w2 ⟨rfl, rfl⟩)
    | (go_at_call 44; (with_reducible refine (k3 _).mono ?_); clear k3; rintro e3 w3 ⟨rfl, hb3⟩; have hz := bk_below hh0 hb3; have d0 := (cell_of_row w3 w.heap.size 0 _ _ (0, 0) hz).trans rfl; have d1 := (cell_of_row w3 w.heap.size 1 _ _ (0, 0) hz).trans rfl; have d2 := (cell_of_row w3 w.heap.size 2 _ _ (0, 0) hz).trans rfl; have d3 := (cell_of_row w3 w.heap.size 3 _ _ (0, 0) hz).trans rfl; have d4 := (cell_of_row w3 w.heap.size 4 _ _ (0, 0) hz).trans rfl; have f0 := frozen_of_row w3 w.heap.size 0 _ _ hz; have f1 := frozen_of_row w3 w.heap.size 1 _ _ hz; have f2 := frozen_of_row w3 w.heap.size 2 _ _ hz; have f3 := frozen_of_row w3 w.heap.size 3 _ _ hz; have f4 := frozen_of_row w3 w.heap.size 4 _ _ hz))
  have hz := bk_below hh0 hb3
  have hbA := below_step hb0 hb3
  have HR5 : Hid _ := Lib.hid (And.intro (bk_set (bk_set (bk_set (bk_set (bk_set (hz) 0 (.int .i64 0)) 1 (.bool false)) 2 (.int .u64 0)) 3 (.string ⟨#[]⟩)) 4 (.slice none 0 0)) (Below.setCell (Below.setCell (Below.setCell (Below.setCell (Below.setCell (hbA) (p := ⟨w.heap.size, 0, none⟩) hq (.int .i64 0)) (p := ⟨w.heap.size, 1, none⟩) hq (.bool false)) (p := ⟨w.heap.size, 2, none⟩) hq (.int .u64 0)) (p := ⟨w.heap.size, 3, none⟩) hq (.string ⟨#[]⟩)) (p := ⟨w.heap.size, 4, none⟩) hq (.slice none 0 0)))
  refine bodyPost_ret (results_cell_tmp Tryz.results16 _ _ w.heap.size 36 _ (0, 0) _ rfl HR5.out.1 Tryz.underlying36 rfl (by kernel_rfl)) rfl ⟨rfl, HR5.out.2⟩
end Go.Proofs.YtffncomekbfihaaGreatDoor.Nat
namespace Go.Proofs.YtffncomekbfihaaGreatDoor.Nat
open Go.RowKit Go.Shelf
set_option linter.unusedVariables false
set_option linter.unusedSimpArgs false
theorem no_dots {D : List Nat} (neg : Bool) (hd : Dgs D) : 46 ∉ (if neg = true then [45] else []) ++ D ∧ 101 ∉ (if neg = true then [45] else []) ++ D ∧ 69 ∉ (if neg = true then [45] else []) ++ D := by
  have h : ∀ c ∈ (if neg = true then [45] else []) ++ D, c = 45 ∨ (48 ≤ c ∧ c ≤ 57) := fun c hc => by
    rcases List.mem_append.1 hc with q | q
    · refine .inl ?_
      split at q
      · simpa using q
      · simp at q
    · exact .inr (hd c q)
  exact ⟨fun q => by have := h _ q; omega, fun q => by have := h _ q; omega, fun q => by have := h _ q; omega⟩
set_option maxHeartbeats 8000000 in
set_option maxRecDepth 100000 in
theorem value07_long_pos (D : List Nat) (s : ByteArray) (w : World) (hs : bts s = D) (hd : Dgs D) (hD0 : D.length ≠ 0) (hsz0 : s.size ≤ 9223372036854775807) (hv : nsc 0 (bts s) 0 = (s.size, 0)) (hDl : 1200 < D.length) :
    Calls Tryz.prog 16 #[.string s] w fun e w' => (e = .returned (.tuple #[nilV, .int .i64 8])) ∧ Below w.heap.size w w' := by
  have hsl := bts_length s
  have hb0 := below_alloc w (.cells #[.int .i64 0, .bool false, .int .u64 0, .string ⟨#[]⟩, .slice none 0 0] 36)
  have hh0 := heap_alloc_new w (.cells #[.int .i64 0, .bool false, .int .u64 0, .string ⟨#[]⟩, .slice none 0 0] 36)
  have hq := Nat.le_refl w.heap.size
  have k1 : ∀ W, Calls Tryz.prog 42 #[.string s] W fun e w' => e = .returned (.tuple #[.int .i64 (s.size : Int), .int .i64 0]) ∧ w' = W := fun W => by
    have h := scan07 s W hsz0
    rw [hv] at h
    exact h
  have k2 : ∀ W, Calls Tryz.prog 43 #[.string s] W fun e w' => e = .returned (.bool true) ∧ w' = W := fun W => by
    have h := whole_calls s W hsz0
    rwa [show decide (46 ∉ bts s ∧ 101 ∉ bts s ∧ 69 ∉ bts s) = true from decide_eq_true (by rw [hs]; exact no_dots false hd)] at h
  have hsD : s.size = D.length := by rw [← hsl, hs]
  obtain ⟨c0, hc0⟩ : ∃ c0, (bts s)[0]? = some c0 := ⟨_, List.getElem?_eq_getElem (by omega)⟩
  have hdc := hd c0 (by rw [hs] at hc0; exact List.mem_of_getElem? hc0)
  have hat := bts_ix hc0
  have hcf : ((c0 : Int) == 45) = false := beq_eq_false_iff_ne.2 (by omega)
  obtain ⟨t, htt⟩ : ∃ t, s = t := ⟨_, rfl⟩
  have ht : bts s = D := hs
  have htl := hsl
  rw [ht] at htl
  have hlt0 : 0 < s.size := by omega
  have hlg : (1200 : Int) < (s.size : Int) := by omega
  unfold nilV
  clear hs hd hD0 hsz0 hv hsl hsD ht htl hDl htt hc0 hdc
  go_enter Tryz.func16, Tryz.ntmps16
  go_wp2_with (first
    | (go_at_call 42; (with_reducible refine (k1 _).mono ?_); clear k1; rintro e1 w1 ⟨rfl, rfl⟩)
    | (go_at_call 43; (with_reducible refine (k2 _).mono ?_); clear k2; rintro e2 w2 ⟨rfl, rfl⟩))
  have HR5 : Hid _ := Lib.hid (And.intro hh0 hb0)
  refine bodyPost_ret (results_cell_tmp Tryz.results16 _ _ w.heap.size 36 _ (0, 0) _ rfl HR5.out.1 Tryz.underlying36 rfl (by kernel_rfl)) rfl ⟨rfl, HR5.out.2⟩
set_option maxHeartbeats 8000000 in
set_option maxRecDepth 100000 in
theorem value07_num_pos (D : List Nat) (s : ByteArray) (w : World) (hs : bts s = D) (hd : Dgs D) (hD0 : D.length ≠ 0) (hsz0 : s.size ≤ 9223372036854775807) (hv : nsc 0 (bts s) 0 = (s.size, 0)) (hDl : D.length ≤ 1200) (n v : Nat) (hn : dval D = n) (hvn : n - ng false = v) :
    Calls Tryz.prog 16 #[.string s] w fun e w' => (∃ X, e = .returned (.tuple #[X, .int .i64 0]) ∧ NumP false v X) ∧ Below w.heap.size w w' := by
  have hsl := bts_length s
  have hb0 := below_alloc w (.cells #[.int .i64 0, .bool false, .int .u64 0, .string ⟨#[]⟩, .slice none 0 0] 36)
  have hh0 := heap_alloc_new w (.cells #[.int .i64 0, .bool false, .int .u64 0, .string ⟨#[]⟩, .slice none 0 0] 36)
  have hq := Nat.le_refl w.heap.size
  have k1 : ∀ W, Calls Tryz.prog 42 #[.string s] W fun e w' => e = .returned (.tuple #[.int .i64 (s.size : Int), .int .i64 0]) ∧ w' = W := fun W => by
    have h := scan07 s W hsz0
    rw [hv] at h
    exact h
  have k2 : ∀ W, Calls Tryz.prog 43 #[.string s] W fun e w' => e = .returned (.bool true) ∧ w' = W := fun W => by
    have h := whole_calls s W hsz0
    rwa [show decide (46 ∉ bts s ∧ 101 ∉ bts s ∧ 69 ∉ bts s) = true from decide_eq_true (by rw [hs]; exact no_dots false hd)] at h
  have hsD : s.size = D.length := by rw [← hsl, hs]
  obtain ⟨c0, hc0⟩ : ∃ c0, (bts s)[0]? = some c0 := ⟨_, List.getElem?_eq_getElem (by omega)⟩
  have hdc := hd c0 (by rw [hs] at hc0; exact List.mem_of_getElem? hc0)
  have hat := bts_ix hc0
  have hcf : ((c0 : Int) == 45) = false := beq_eq_false_iff_ne.2 (by omega)
  obtain ⟨t, htt⟩ : ∃ t, s = t := ⟨_, rfl⟩
  have ht : bts s = D := hs
  have htl := hsl
  rw [ht] at htl
  have hlt0 : 0 < s.size := by omega
  have hlg : ¬ (1200 : Int) < (s.size : Int) := by omega
  have k4 : ∀ W, Calls Tryz.prog 45 #[.string s] W fun e w' => ∃ V, e = .returned (.tuple #[V, .int .i64 0]) ∧ OwnN w' V n ∧ Below W.heap.size W w' := fun W => by
    refine (rfrom_calls s W (by omega) (by omega)).mono ?_
    rintro e w' ⟨h1 | h1, hb⟩
    · obtain ⟨_, V, h2, h3⟩ := h1
      rw [ht, hn] at h3
      exact ⟨V, h2, h3, hb⟩
    · exact absurd (ht ▸ hd) h1.1
  have hnl : (limbs n).length ≤ 200 := by rw [← hn]; exact limbs_pow (e := 4 * D.length) (L := 200) (Nat.le_trans (Nat.le_of_lt (dval_lt hd)) (ten_bits _)) (by omega)
  have k5 := fun W V (h : OwnN W V n) => number07 false W (h.b (by omega)) hnl hvn (fun _ => by contradiction)
  clear hs hd hD0 hsz0 hv hsl hsD ht htl hDl hn hvn hnl htt hc0 hdc
  go_enter Tryz.func16, Tryz.ntmps16
  by_cases hsm : v < 18446744073709551616
  · have HSM : Hid _ := Lib.hid hsm
    have k6 := fun W V (h : OwnN W V n) => (k5 W V h).mono (fun e w' q => (by obtain ⟨X, rfl, hX, hb⟩ := q; rcases hX with ⟨_, rfl⟩ | ⟨h2, _⟩; exact ⟨rfl, hb⟩; exact absurd HSM.out (by omega) : e = .returned (.agg #[.int .i64 4, .bool false, .int .u64 (v : Int), .string ⟨#[]⟩, .slice none 0 0]) ∧ Below W.heap.size W w'))
    clear k5 hsm
    go_wp2_with (first
      | (go_at_call 42; (with_reducible refine (k1 _).mono ?_); clear k1; rintro e1 w1 ⟨rfl, rfl⟩)
      | (go_at_call 43; (with_reducible refine (k2 _).mono ?_); clear k2; rintro e2 w2 ⟨rfl, rfl⟩)
      | (go_at_call 45; (with_reducible refine (k4 _).mono ?_); clear k4; rintro e4 w4 ⟨V, rfl, hV, hb4⟩; have kN := k6 w4 V hV; clear k6; obtain ⟨A4, c4, rfl, -, -⟩ := hV.natv)
      | (go_at_call 46; (with_reducible refine kN.mono ?_); clear kN; rintro e5 w5 ⟨rfl, hb5⟩; have hz := bk_below (bk_below hh0 hb4) hb5; have d0 := (cell_of_row w5 w.heap.size 0 _ _ (0, 0) hz).trans rfl; have d1 := (cell_of_row w5 w.heap.size 1 _ _ (0, 0) hz).trans rfl; have d2 := (cell_of_row w5 w.heap.size 2 _ _ (0, 0) hz).trans rfl; have d3 := (cell_of_row w5 w.heap.size 3 _ _ (0, 0) hz).trans rfl; have d4 := (cell_of_row w5 w.heap.size 4 _ _ (0, 0) hz).trans rfl; have f0 := frozen_of_row w5 w.heap.size 0 _ _ hz; have f1 := frozen_of_row w5 w.heap.size 1 _ _ hz; have f2 := frozen_of_row w5 w.heap.size 2 _ _ hz; have f3 := frozen_of_row w5 w.heap.size 3 _ _ hz; have f4 := frozen_of_row w5 w.heap.size 4 _ _ hz))
    have hz := bk_below (bk_below hh0 hb4) hb5
    have hbA := below_step (below_step hb0 hb4) hb5
    have HR5 : Hid _ := Lib.hid (And.intro (bk_set (bk_set (bk_set (bk_set (bk_set (hz) 0 (.int .i64 4)) 1 (.bool false)) 2 (.int .u64 (v : Int))) 3 (.string ⟨#[]⟩)) 4 (.slice none 0 0)) (Below.setCell (Below.setCell (Below.setCell (Below.setCell (Below.setCell (hbA) (p := ⟨w.heap.size, 0, none⟩) hq (.int .i64 4)) (p := ⟨w.heap.size, 1, none⟩) hq (.bool false)) (p := ⟨w.heap.size, 2, none⟩) hq (.int .u64 (v : Int))) (p := ⟨w.heap.size, 3, none⟩) hq (.string ⟨#[]⟩)) (p := ⟨w.heap.size, 4, none⟩) hq (.slice none 0 0)))
    refine bodyPost_ret (results_cell_tmp Tryz.results16 _ _ w.heap.size 36 _ (0, 0) _ rfl HR5.out.1 Tryz.underlying36 rfl (by kernel_rfl)) rfl ⟨⟨_, rfl, .inl ⟨HSM.out, rfl⟩⟩, HR5.out.2⟩
  · have HSM : Hid _ := Lib.hid hsm
    have k6 := fun W V (h : OwnN W V n) => (k5 W V h).mono (fun e w' q => (by obtain ⟨X, rfl, hX, hb⟩ := q; rcases hX with ⟨h2, _⟩ | ⟨_, S, rfl, hS⟩; exact absurd h2 HSM.out; exact ⟨S, rfl, hS, hb⟩ : ∃ S : ByteArray, e = .returned (.agg #[.int .i64 5, .bool false, .int .u64 0, .string S, .slice none 0 0]) ∧ ByP (bts S) v ∧ Below W.heap.size W w'))
    clear k5 hsm
    go_wp2_with (first
      | (go_at_call 42; (with_reducible refine (k1 _).mono ?_); clear k1; rintro e1 w1 ⟨rfl, rfl⟩)
      | (go_at_call 43; (with_reducible refine (k2 _).mono ?_); clear k2; rintro e2 w2 ⟨rfl, rfl⟩)
      | (go_at_call 45; (with_reducible refine (k4 _).mono ?_); clear k4; rintro e4 w4 ⟨V, rfl, hV, hb4⟩; have kN := k6 w4 V hV; clear k6; obtain ⟨A4, c4, rfl, -, -⟩ := hV.natv)
      | (go_at_call 46; (with_reducible refine kN.mono ?_); clear kN; rintro e5 w5 ⟨S, rfl, hS, hb5⟩; have hz := bk_below (bk_below hh0 hb4) hb5; have d0 := (cell_of_row w5 w.heap.size 0 _ _ (0, 0) hz).trans rfl; have d1 := (cell_of_row w5 w.heap.size 1 _ _ (0, 0) hz).trans rfl; have d2 := (cell_of_row w5 w.heap.size 2 _ _ (0, 0) hz).trans rfl; have d3 := (cell_of_row w5 w.heap.size 3 _ _ (0, 0) hz).trans rfl; have d4 := (cell_of_row w5 w.heap.size 4 _ _ (0, 0) hz).trans rfl; have f0 := frozen_of_row w5 w.heap.size 0 _ _ hz; have f1 := frozen_of_row w5 w.heap.size 1 _ _ hz; have f2 := frozen_of_row w5 w.heap.size 2 _ _ hz; have f3 := frozen_of_row w5 w.heap.size 3 _ _ hz; have f4 := frozen_of_row w5 w.heap.size 4 _ _ hz))
    have hz := bk_below (bk_below hh0 hb4) hb5
    have hbA := below_step (below_step hb0 hb4) hb5
    have HR5 : Hid _ := Lib.hid (And.intro (bk_set (bk_set (bk_set (bk_set (bk_set (hz) 0 (.int .i64 5)) 1 (.bool false)) 2 (.int .u64 0)) 3 (.string S)) 4 (.slice none 0 0)) (Below.setCell (Below.setCell (Below.setCell (Below.setCell (Below.setCell (hbA) (p := ⟨w.heap.size, 0, none⟩) hq (.int .i64 5)) (p := ⟨w.heap.size, 1, none⟩) hq (.bool false)) (p := ⟨w.heap.size, 2, none⟩) hq (.int .u64 0)) (p := ⟨w.heap.size, 3, none⟩) hq (.string S)) (p := ⟨w.heap.size, 4, none⟩) hq (.slice none 0 0)))
    refine bodyPost_ret (results_cell_tmp Tryz.results16 _ _ w.heap.size 36 _ (0, 0) _ rfl HR5.out.1 Tryz.underlying36 rfl (by kernel_rfl)) rfl ⟨⟨_, rfl, .inr ⟨by have := HSM.out; omega, S, rfl, hS⟩⟩, HR5.out.2⟩
set_option maxHeartbeats 8000000 in
set_option maxRecDepth 100000 in
theorem value07_long_neg (D : List Nat) (s : ByteArray) (w : World) (hs : bts s = [45] ++ D) (hd : Dgs D) (hD0 : D.length ≠ 0) (hsz0 : s.size ≤ 9223372036854775807) (hv : nsc 0 (bts s) 0 = (s.size, 0)) (hDl : 1200 < D.length) :
    Calls Tryz.prog 16 #[.string s] w fun e w' => (e = .returned (.tuple #[nilV, .int .i64 8])) ∧ Below w.heap.size w w' := by
  have hsl := bts_length s
  have hb0 := below_alloc w (.cells #[.int .i64 0, .bool false, .int .u64 0, .string ⟨#[]⟩, .slice none 0 0] 36)
  have hh0 := heap_alloc_new w (.cells #[.int .i64 0, .bool false, .int .u64 0, .string ⟨#[]⟩, .slice none 0 0] 36)
  have hq := Nat.le_refl w.heap.size
  have k1 : ∀ W, Calls Tryz.prog 42 #[.string s] W fun e w' => e = .returned (.tuple #[.int .i64 (s.size : Int), .int .i64 0]) ∧ w' = W := fun W => by
    have h := scan07 s W hsz0
    rw [hv] at h
    exact h
  have k2 : ∀ W, Calls Tryz.prog 43 #[.string s] W fun e w' => e = .returned (.bool true) ∧ w' = W := fun W => by
    have h := whole_calls s W hsz0
    rwa [show decide (46 ∉ bts s ∧ 101 ∉ bts s ∧ 69 ∉ bts s) = true from decide_eq_true (by rw [hs]; exact no_dots true hd)] at h
  have hsD : s.size = D.length + 1 := by rw [← hsl, hs]; simp
  have h045 : (bts s)[0]? = some 45 := by rw [hs]; rfl
  have hat := bts_ix h045
  have ht : bts (s.extract 1 s.size) = D := by rw [bts_tail, hs]; rfl
  generalize hxx : s.extract 1 s.size = t at *
  have htl := bts_length t
  rw [ht] at htl
  have hs1 : 1 ≤ s.size := by omega
  have hlt0 : 0 < s.size := by omega
  have hlg : (1200 : Int) < (t.size : Int) := by omega
  unfold nilV
  clear hs hd hD0 hsz0 hv hsl hsD ht htl hDl h045
  go_enter Tryz.func16, Tryz.ntmps16
  go_wp2_with (first
    | (go_at_call 42; (with_reducible refine (k1 _).mono ?_); clear k1; rintro e1 w1 ⟨rfl, rfl⟩)
    | (go_at_call 43; (with_reducible refine (k2 _).mono ?_); clear k2; rintro e2 w2 ⟨rfl, rfl⟩))
  have HR5 : Hid _ := Lib.hid (And.intro hh0 hb0)
  refine bodyPost_ret (results_cell_tmp Tryz.results16 _ _ w.heap.size 36 _ (0, 0) _ rfl HR5.out.1 Tryz.underlying36 rfl (by kernel_rfl)) rfl ⟨rfl, HR5.out.2⟩
set_option maxHeartbeats 8000000 in
set_option maxRecDepth 100000 in
theorem value07_nought_neg (D : List Nat) (s : ByteArray) (w : World) (hs : bts s = [45] ++ D) (hd : Dgs D) (hD0 : D.length ≠ 0) (hsz0 : s.size ≤ 9223372036854775807) (hv : nsc 0 (bts s) 0 = (s.size, 0)) (hDl : D.length ≤ 1200) (hn : dval D = 0) :
    Calls Tryz.prog 16 #[.string s] w fun e w' => (e = .returned (.tuple #[.agg #[.int .i64 8, .bool false, .int .u64 9223372036854775808, .string ⟨#[]⟩, .slice none 0 0], .int .i64 0])) ∧ Below w.heap.size w w' := by
  have hsl := bts_length s
  have hb0 := below_alloc w (.cells #[.int .i64 0, .bool false, .int .u64 0, .string ⟨#[]⟩, .slice none 0 0] 36)
  have hh0 := heap_alloc_new w (.cells #[.int .i64 0, .bool false, .int .u64 0, .string ⟨#[]⟩, .slice none 0 0] 36)
  have hq := Nat.le_refl w.heap.size
  have k1 : ∀ W, Calls Tryz.prog 42 #[.string s] W fun e w' => e = .returned (.tuple #[.int .i64 (s.size : Int), .int .i64 0]) ∧ w' = W := fun W => by
    have h := scan07 s W hsz0
    rw [hv] at h
    exact h
  have k2 : ∀ W, Calls Tryz.prog 43 #[.string s] W fun e w' => e = .returned (.bool true) ∧ w' = W := fun W => by
    have h := whole_calls s W hsz0
    rwa [show decide (46 ∉ bts s ∧ 101 ∉ bts s ∧ 69 ∉ bts s) = true from decide_eq_true (by rw [hs]; exact no_dots true hd)] at h
  have hsD : s.size = D.length + 1 := by rw [← hsl, hs]; simp
  have h045 : (bts s)[0]? = some 45 := by rw [hs]; rfl
  have hat := bts_ix h045
  have ht : bts (s.extract 1 s.size) = D := by rw [bts_tail, hs]; rfl
  generalize hxx : s.extract 1 s.size = t at *
  have htl := bts_length t
  rw [ht] at htl
  have hs1 : 1 ≤ s.size := by omega
  have hlt0 : 0 < s.size := by omega
  have hlg : ¬ (1200 : Int) < (t.size : Int) := by omega
  have k4 : ∀ W, Calls Tryz.prog 45 #[.string t] W fun e w' => ∃ V, e = .returned (.tuple #[V, .int .i64 0]) ∧ OwnN w' V 0 ∧ Below W.heap.size W w' := fun W => by
    refine (rfrom_calls t W (by omega) (by omega)).mono ?_
    rintro e w' ⟨h1 | h1, hb⟩
    · obtain ⟨_, V, h2, h3⟩ := h1
      rw [ht, hn] at h3
      exact ⟨V, h2, h3, hb⟩
    · exact absurd (ht ▸ hd) h1.1
  have hlz : (limbs 0).length = 0 := limbs_len_zero.2 rfl
  clear hs hd hD0 hsz0 hv hsl hsD ht htl hDl hn h045
  go_enter Tryz.func16, Tryz.ntmps16
  go_wp2_with (first
    | (go_at_call 42; (with_reducible refine (k1 _).mono ?_); clear k1; rintro e1 w1 ⟨rfl, rfl⟩)
    | (go_at_call 43; (with_reducible refine (k2 _).mono ?_); clear k2; rintro e2 w2 ⟨rfl, rfl⟩)
    | (go_at_call 45; (with_reducible refine (k4 _).mono ?_); clear k4; rintro e4 w4 ⟨V, rfl, hV, hb4⟩; obtain ⟨A4, c4, rfl, -, -⟩ := hV.natv; rw [hlz]; have hz := bk_below hh0 hb4; have d0 := (cell_of_row w4 w.heap.size 0 _ _ (0, 0) hz).trans rfl; have d1 := (cell_of_row w4 w.heap.size 1 _ _ (0, 0) hz).trans rfl; have d2 := (cell_of_row w4 w.heap.size 2 _ _ (0, 0) hz).trans rfl; have d3 := (cell_of_row w4 w.heap.size 3 _ _ (0, 0) hz).trans rfl; have d4 := (cell_of_row w4 w.heap.size 4 _ _ (0, 0) hz).trans rfl; have f0 := frozen_of_row w4 w.heap.size 0 _ _ hz; have f1 := frozen_of_row w4 w.heap.size 1 _ _ hz; have f2 := frozen_of_row w4 w.heap.size 2 _ _ hz; have f3 := frozen_of_row w4 w.heap.size 3 _ _ hz; have f4 := frozen_of_row w4 w.heap.size 4 _ _ hz))
  have hz := bk_below hh0 hb4
  have hbA := below_step hb0 hb4
  have HR5 : Hid _ := Lib.hid (And.intro (bk_set (bk_set (bk_set (bk_set (bk_set (hz) 0 (.int .i64 8)) 1 (.bool false)) 2 (.int .u64 9223372036854775808)) 3 (.string ⟨#[]⟩)) 4 (.slice none 0 0)) (Below.setCell (Below.setCell (Below.setCell (Below.setCell (Below.setCell (hbA) (p := ⟨w.heap.size, 0, none⟩) hq (.int .i64 8)) (p := ⟨w.heap.size, 1, none⟩) hq (.bool false)) (p := ⟨w.heap.size, 2, none⟩) hq (.int .u64 9223372036854775808)) (p := ⟨w.heap.size, 3, none⟩) hq (.string ⟨#[]⟩)) (p := ⟨w.heap.size, 4, none⟩) hq (.slice none 0 0)))
  refine bodyPost_ret (results_cell_tmp Tryz.results16 _ _ w.heap.size 36 _ (0, 0) _ rfl HR5.out.1 Tryz.underlying36 rfl (by kernel_rfl)) rfl ⟨rfl, HR5.out.2⟩
set_option maxHeartbeats 8000000 in
set_option maxRecDepth 100000 in
theorem value07_num_neg (D : List Nat) (s : ByteArray) (w : World) (hs : bts s = [45] ++ D) (hd : Dgs D) (hD0 : D.length ≠ 0) (hsz0 : s.size ≤ 9223372036854775807) (hv : nsc 0 (bts s) 0 = (s.size, 0)) (hDl : D.length ≤ 1200) (n v : Nat) (hn : dval D = n) (hvn : n - ng true = v) (h0 : n ≠ 0) :
    Calls Tryz.prog 16 #[.string s] w fun e w' => (∃ X, e = .returned (.tuple #[X, .int .i64 0]) ∧ NumP true v X) ∧ Below w.heap.size w w' := by
  have hsl := bts_length s
  have hb0 := below_alloc w (.cells #[.int .i64 0, .bool false, .int .u64 0, .string ⟨#[]⟩, .slice none 0 0] 36)
  have hh0 := heap_alloc_new w (.cells #[.int .i64 0, .bool false, .int .u64 0, .string ⟨#[]⟩, .slice none 0 0] 36)
  have hq := Nat.le_refl w.heap.size
  have k1 : ∀ W, Calls Tryz.prog 42 #[.string s] W fun e w' => e = .returned (.tuple #[.int .i64 (s.size : Int), .int .i64 0]) ∧ w' = W := fun W => by
    have h := scan07 s W hsz0
    rw [hv] at h
    exact h
  have k2 : ∀ W, Calls Tryz.prog 43 #[.string s] W fun e w' => e = .returned (.bool true) ∧ w' = W := fun W => by
    have h := whole_calls s W hsz0
    rwa [show decide (46 ∉ bts s ∧ 101 ∉ bts s ∧ 69 ∉ bts s) = true from decide_eq_true (by rw [hs]; exact no_dots true hd)] at h
  have hsD : s.size = D.length + 1 := by rw [← hsl, hs]; simp
  have h045 : (bts s)[0]? = some 45 := by rw [hs]; rfl
  have hat := bts_ix h045
  have ht : bts (s.extract 1 s.size) = D := by rw [bts_tail, hs]; rfl
  generalize hxx : s.extract 1 s.size = t at *
  have htl := bts_length t
  rw [ht] at htl
  have hs1 : 1 ≤ s.size := by omega
  have hlt0 : 0 < s.size := by omega
  have hlg : ¬ (1200 : Int) < (t.size : Int) := by omega
  have k4 : ∀ W, Calls Tryz.prog 45 #[.string t] W fun e w' => ∃ V, e = .returned (.tuple #[V, .int .i64 0]) ∧ OwnN w' V n ∧ Below W.heap.size W w' := fun W => by
    refine (rfrom_calls t W (by omega) (by omega)).mono ?_
    rintro e w' ⟨h1 | h1, hb⟩
    · obtain ⟨_, V, h2, h3⟩ := h1
      rw [ht, hn] at h3
      exact ⟨V, h2, h3, hb⟩
    · exact absurd (ht ▸ hd) h1.1
  have hnl : (limbs n).length ≤ 200 := by rw [← hn]; exact limbs_pow (e := 4 * D.length) (L := 200) (Nat.le_trans (Nat.le_of_lt (dval_lt hd)) (ten_bits _)) (by omega)
  have k5 := fun W V (h : OwnN W V n) => number07 true W (h.b (by omega)) hnl hvn (fun _ => h0)
  have hz0 : (((limbs n).length : Int) == 0) = false := beq_eq_false_iff_ne.2 (by have : (limbs n).length ≠ 0 := fun z => h0 (limbs_len_zero.1 z); omega)
  clear hs hd hD0 hsz0 hv hsl hsD ht htl hDl hn hvn hnl h0 h045
  go_enter Tryz.func16, Tryz.ntmps16
  by_cases hsm : v < 18446744073709551616
  · have HSM : Hid _ := Lib.hid hsm
    have k6 := fun W V (h : OwnN W V n) => (k5 W V h).mono (fun e w' q => (by obtain ⟨X, rfl, hX, hb⟩ := q; rcases hX with ⟨_, rfl⟩ | ⟨h2, _⟩; exact ⟨rfl, hb⟩; exact absurd HSM.out (by omega) : e = .returned (.agg #[.int .i64 4, .bool true, .int .u64 (v : Int), .string ⟨#[]⟩, .slice none 0 0]) ∧ Below W.heap.size W w'))
    clear k5 hsm
    go_wp2_with (first
      | (go_at_call 42; (with_reducible refine (k1 _).mono ?_); clear k1; rintro e1 w1 ⟨rfl, rfl⟩)
      | (go_at_call 43; (with_reducible refine (k2 _).mono ?_); clear k2; rintro e2 w2 ⟨rfl, rfl⟩)
      | (go_at_call 45; (with_reducible refine (k4 _).mono ?_); clear k4; rintro e4 w4 ⟨V, rfl, hV, hb4⟩; have kN := k6 w4 V hV; clear k6; obtain ⟨A4, c4, rfl, -, -⟩ := hV.natv)
      | (go_at_call 46; (with_reducible refine kN.mono ?_); clear kN; rintro e5 w5 ⟨rfl, hb5⟩; have hz := bk_below (bk_below hh0 hb4) hb5; have d0 := (cell_of_row w5 w.heap.size 0 _ _ (0, 0) hz).trans rfl; have d1 := (cell_of_row w5 w.heap.size 1 _ _ (0, 0) hz).trans rfl; have d2 := (cell_of_row w5 w.heap.size 2 _ _ (0, 0) hz).trans rfl; have d3 := (cell_of_row w5 w.heap.size 3 _ _ (0, 0) hz).trans rfl; have d4 := (cell_of_row w5 w.heap.size 4 _ _ (0, 0) hz).trans rfl; have f0 := frozen_of_row w5 w.heap.size 0 _ _ hz; have f1 := frozen_of_row w5 w.heap.size 1 _ _ hz; have f2 := frozen_of_row w5 w.heap.size 2 _ _ hz; have f3 := frozen_of_row w5 w.heap.size 3 _ _ hz; have f4 := frozen_of_row w5 w.heap.size 4 _ _ hz))
    have hz := bk_below (bk_below hh0 hb4) hb5
    have hbA := below_step (below_step hb0 hb4) hb5
    have HR5 : Hid _ := Lib.hid (And.intro (bk_set (bk_set (bk_set (bk_set (bk_set (hz) 0 (.int .i64 4)) 1 (.bool true)) 2 (.int .u64 (v : Int))) 3 (.string ⟨#[]⟩)) 4 (.slice none 0 0)) (Below.setCell (Below.setCell (Below.setCell (Below.setCell (Below.setCell (hbA) (p := ⟨w.heap.size, 0, none⟩) hq (.int .i64 4)) (p := ⟨w.heap.size, 1, none⟩) hq (.bool true)) (p := ⟨w.heap.size, 2, none⟩) hq (.int .u64 (v : Int))) (p := ⟨w.heap.size, 3, none⟩) hq (.string ⟨#[]⟩)) (p := ⟨w.heap.size, 4, none⟩) hq (.slice none 0 0)))
    refine bodyPost_ret (results_cell_tmp Tryz.results16 _ _ w.heap.size 36 _ (0, 0) _ rfl HR5.out.1 Tryz.underlying36 rfl (by kernel_rfl)) rfl ⟨⟨_, rfl, .inl ⟨HSM.out, rfl⟩⟩, HR5.out.2⟩
  · have HSM : Hid _ := Lib.hid hsm
    have k6 := fun W V (h : OwnN W V n) => (k5 W V h).mono (fun e w' q => (by obtain ⟨X, rfl, hX, hb⟩ := q; rcases hX with ⟨h2, _⟩ | ⟨_, S, rfl, hS⟩; exact absurd h2 HSM.out; exact ⟨S, rfl, hS, hb⟩ : ∃ S : ByteArray, e = .returned (.agg #[.int .i64 5, .bool true, .int .u64 0, .string S, .slice none 0 0]) ∧ ByP (bts S) v ∧ Below W.heap.size W w'))
    clear k5 hsm
    go_wp2_with (first
      | (go_at_call 42; (with_reducible refine (k1 _).mono ?_); clear k1; rintro e1 w1 ⟨rfl, rfl⟩)
      | (go_at_call 43; (with_reducible refine (k2 _).mono ?_); clear k2; rintro e2 w2 ⟨rfl, rfl⟩)
      | (go_at_call 45; (with_reducible refine (k4 _).mono ?_); clear k4; rintro e4 w4 ⟨V, rfl, hV, hb4⟩; have kN := k6 w4 V hV; clear k6; obtain ⟨A4, c4, rfl, -, -⟩ := hV.natv)
      | (go_at_call 46; (with_reducible refine kN.mono ?_); clear kN; rintro e5 w5 ⟨S, rfl, hS, hb5⟩; have hz := bk_below (bk_below hh0 hb4) hb5; have d0 := (cell_of_row w5 w.heap.size 0 _ _ (0, 0) hz).trans rfl; have d1 := (cell_of_row w5 w.heap.size 1 _ _ (0, 0) hz).trans rfl; have d2 := (cell_of_row w5 w.heap.size 2 _ _ (0, 0) hz).trans rfl; have d3 := (cell_of_row w5 w.heap.size 3 _ _ (0, 0) hz).trans rfl; have d4 := (cell_of_row w5 w.heap.size 4 _ _ (0, 0) hz).trans rfl; have f0 := frozen_of_row w5 w.heap.size 0 _ _ hz; have f1 := frozen_of_row w5 w.heap.size 1 _ _ hz; have f2 := frozen_of_row w5 w.heap.size 2 _ _ hz; have f3 := frozen_of_row w5 w.heap.size 3 _ _ hz; have f4 := frozen_of_row w5 w.heap.size 4 _ _ hz))
    have hz := bk_below (bk_below hh0 hb4) hb5
    have hbA := below_step (below_step hb0 hb4) hb5
    have HR5 : Hid _ := Lib.hid (And.intro (bk_set (bk_set (bk_set (bk_set (bk_set (hz) 0 (.int .i64 5)) 1 (.bool true)) 2 (.int .u64 0)) 3 (.string S)) 4 (.slice none 0 0)) (Below.setCell (Below.setCell (Below.setCell (Below.setCell (Below.setCell (hbA) (p := ⟨w.heap.size, 0, none⟩) hq (.int .i64 5)) (p := ⟨w.heap.size, 1, none⟩) hq (.bool true)) (p := ⟨w.heap.size, 2, none⟩) hq (.int .u64 0)) (p := ⟨w.heap.size, 3, none⟩) hq (.string S)) (p := ⟨w.heap.size, 4, none⟩) hq (.slice none 0 0)))
    refine bodyPost_ret (results_cell_tmp Tryz.results16 _ _ w.heap.size 36 _ (0, 0) _ rfl HR5.out.1 Tryz.underlying36 rfl (by kernel_rfl)) rfl ⟨⟨_, rfl, .inr ⟨by have := HSM.out; omega, S, rfl, hS⟩⟩, HR5.out.2⟩
set_option maxHeartbeats 16000000 in
set_option maxRecDepth 100000 in
theorem value_noughtD (D : List Nat) (s : ByteArray) (w : World) (hs' : bts s = [45] ++ D) (hd : Dgs D) (hD0 : D.length ≠ 0) (hDl : D.length ≤ 1200) (hn : dval D = 0) (hv : nsc 0 (bts s) 0 = (s.size, 0)) :
    Calls Tryz.prog 15 #[.string s] w fun e w' => e = .returned (.tuple #[.agg #[.int .i64 8, .bool false, .int .u64 9223372036854775808, .string ⟨#[]⟩, .slice none 0 0], .int .i64 0]) ∧ Below w.heap.size w w' := by
  have hsl := bts_length s
  have hsz : s.size = D.length + 1 := by rw [← hsl, hs']; simp
  have k1 : ∀ W, Calls Tryz.prog 18 #[.string s] W fun e w' => e = .returned (.tuple #[.int .i64 (s.size : Int), .int .i64 0]) ∧ Below W.heap.size W w' := fun W => by
    have h := numScan_calls s W (by omega)
    rw [hv] at h
    exact h
  obtain ⟨hc1, hc2⟩ := cut_sign hs'
  obtain ⟨t, ht⟩ : ∃ t : ByteArray, ⟨(Lib.trimPrefix s.data.toList [45]).toArray⟩ = t := ⟨_, rfl⟩
  rw [ht] at hc2
  have htl := bts_length t
  rw [hc2] at htl
  have k2 := fun W => Tryz.strings_CutPrefix s ⟨#[45]⟩ W
  rw [show (⟨#[45]⟩ : ByteArray).data.toList = [45] from rfl, hc1, ht] at k2
  have k3 : ∀ W, Calls Tryz.prog 39 #[.string t] W fun e w' => ∃ V, e = .returned (.tuple #[V, .int .i64 0]) ∧ NatV w' V 0 ∧ Below W.heap.size W w' := fun W => by
    refine (from_calls t W (by omega) (by omega)).mono ?_
    rintro e w' ⟨h1 | h1, hb⟩
    · obtain ⟨_, V, h2, h3⟩ := h1
      rw [hc2, hn] at h3
      exact ⟨V, h2, h3, hb⟩
    · exact absurd (hc2 ▸ hd) h1.1
  have HS : Hid _ := Lib.hid (And.intro hs' hd)
  have hb0 := below_alloc w (.cells #[.int .i64 0, .bool false, .int .u64 0, .string ⟨#[]⟩, .slice none 0 0] 36)
  have hh0 := heap_alloc_new w (.cells #[.int .i64 0, .bool false, .int .u64 0, .string ⟨#[]⟩, .slice none 0 0] 36)
  have hlz : (limbs 0).length = 0 := limbs_len_zero.2 rfl
  have hts : ¬ (1200 : Int) < (t.size : Int) := by omega
  have hsmall : s.size ≤ 1201 := by omega
  clear hc1 hc2 hs' hd ht htl hDl hn hv hsz hsl hD0
  go_enter Tryz.func15, Tryz.ntmps15
  go_wp2_with (go_at_call 18; (with_reducible refine (k1 _).mono ?_); clear k1; rintro e1 w1 ⟨rfl, hb1⟩; have hh1 := bk_below hh0 hb1; have hbA := below_step hb0 hb1)
  go_loopg [33] s.size (fun kq v33 wr => ∃ i : Nat, v33 = .int .i64 i ∧ i + kq = s.size ∧ wr = w1)
  case atStart => exact ⟨0, rfl, by omega, rfl⟩
  case round =>
    obtain ⟨i, rfl, hi, rfl⟩ := hrel
    cases gk with
    | succ d =>
      have hlt : i < s.size := by omega
      have hltI : (i : Int) < (s.size : Int) := by omega
      have hat := bts_at s i hlt
      obtain ⟨c, hc⟩ : ∃ c, s[i].toNat = c := ⟨_, rfl⟩
      rw [hc] at hat
      have hcd : c = 45 ∨ (48 ≤ c ∧ c ≤ 57) := by
        obtain ⟨h1, h2⟩ := HS.out
        rw [h1] at hat
        have hm := List.mem_of_getElem? hat
        rcases List.mem_append.1 hm with q | q
        · exact .inl (by simpa using q)
        · exact .inr (h2 c q)
      have n1 : ((c : Int) == 46) = false := beq_eq_false_iff_ne.2 (by omega)
      have n2 : ((c : Int) == 101) = false := beq_eq_false_iff_ne.2 (by omega)
      have n3 : ((c : Int) == 69) = false := beq_eq_false_iff_ne.2 (by omega)
      clear hat
      go_wp2
      go_roundg d
      case rel => exact ⟨i + 1, by go_num, by omega, rfl⟩
      case measure => omega
    | zero =>
      obtain rfl : i = s.size := by omega
      go_wp2_with (first
        | (go_at_call 38; (with_reducible refine (k2 _).mono ?_); clear k2; rintro e2 w2 ⟨rfl, rfl⟩)
        | (go_at_call 39; (with_reducible refine (k3 _).mono ?_); clear k3; rintro e3 w3 ⟨V, rfl, hV, hb3⟩; obtain ⟨A3, c3, rfl, hc3, hR3⟩ := hV; rw [hlz]; have hz := bk_below hh1 hb3; have d0 := (cell_of_row w3 w.heap.size 0 _ _ (0, 0) hz).trans rfl; have d1 := (cell_of_row w3 w.heap.size 1 _ _ (0, 0) hz).trans rfl; have d2 := (cell_of_row w3 w.heap.size 2 _ _ (0, 0) hz).trans rfl; have d3 := (cell_of_row w3 w.heap.size 3 _ _ (0, 0) hz).trans rfl; have d4 := (cell_of_row w3 w.heap.size 4 _ _ (0, 0) hz).trans rfl; have f0 := frozen_of_row w3 w.heap.size 0 _ _ hz; have f1 := frozen_of_row w3 w.heap.size 1 _ _ hz; have f2 := frozen_of_row w3 w.heap.size 2 _ _ hz; have f3 := frozen_of_row w3 w.heap.size 3 _ _ hz; have f4 := frozen_of_row w3 w.heap.size 4 _ _ hz))
      have hz := bk_below hh1 hb3
      have hr5 := bk_set (bk_set (bk_set (bk_set (bk_set hz 0 (.int .i64 8)) 1 (.bool false)) 2 (.int .u64 9223372036854775808)) 3 (.string ⟨#[]⟩)) 4 (.slice none 0 0)
      have hq := Nat.le_refl w.heap.size
      have hb5 := (((((below_step hbA hb3).setCell (p := ⟨w.heap.size, 0, none⟩) hq (.int .i64 8)).setCell (p := ⟨w.heap.size, 1, none⟩) hq (.bool false)).setCell (p := ⟨w.heap.size, 2, none⟩) hq (.int .u64 9223372036854775808)).setCell (p := ⟨w.heap.size, 3, none⟩) hq (.string ⟨#[]⟩)).setCell (p := ⟨w.heap.size, 4, none⟩) hq (.slice none 0 0)
      refine bodyPost_ret (results_cell_tmp Tryz.results15 _ _ w.heap.size 36 _ (0, 0) _ rfl hr5 Tryz.underlying36 rfl (by kernel_rfl)) rfl ⟨rfl, hb5⟩
end Go.Proofs.YtffncomekbfihaaGreatDoor.Nat
namespace Go.Proofs.YtffncomekbfihaaGreatDoor.Nat
open Go.RowKit Go.Shelf
set_option linter.unusedVariables false
set_option linter.unusedSimpArgs false
theorem tail_dgs : ∀ (L : List Nat) (st : Int) (i : Nat), (st = 2 ∨ st = 3) → (∀ c ∈ L, c ≠ 46 ∧ c ≠ 101 ∧ c ≠ 69) → nsc st L i = (i + L.length, 0) → Dgs L
  | [], _, _, _, _, _ => fun c hc => by simp at hc
  | c :: L, st, i, hs, hno, h => by
    have hc := hno c (by simp)
    rw [nsc_cons] at h
    by_cases h9 : stepN st c = 9
    · exfalso
      rw [if_pos h9] at h
      split at h
      · have := (Prod.mk.inj h).1; rw [List.length_cons] at this; omega
      · have := (Prod.mk.inj h).2; omega
    · rw [if_neg h9] at h
      by_cases hd : st ≠ 2 ∧ 48 ≤ c ∧ c ≤ 57
      · have h3 : st = 3 := by omega
        subst h3
        rw [stq_dg (.inl rfl) hd.2.1 hd.2.2] at h
        have ih := tail_dgs L 3 (i + 1) (.inr rfl) (fun x hx => hno x (List.mem_cons_of_mem _ hx)) (by rw [h, List.length_cons]; congr 1; omega)
        intro x hx
        rcases List.mem_cons.1 hx with rfl | q
        · exact hd.2
        · exact ih x q
      · exact absurd (st235_bad (by omega) (fun _ => hc.1) ⟨hc.2.1, hc.2.2⟩ (fun h2 q => hd ⟨h2, q⟩)) h9
theorem head_dgs {L : List Nat} {st : Int} {i : Nat} (hs : st = 0 ∨ st = 1) (hno : ∀ c ∈ L, c ≠ 46 ∧ c ≠ 101 ∧ c ≠ 69) (h : nsc st L i = (i + L.length, 0)) : (Dgs L ∧ L.length ≠ 0) ∨ (st = 0 ∧ ∃ r, L = 45 :: r ∧ nsc 1 r (i + 1) = (i + 1 + r.length, 0)) := by
  have he : endsN st = false := by rcases hs with rfl | rfl <;> decide
  cases L with
  | nil => rw [nsc_nil, he] at h; exact absurd (Prod.mk.inj h).2 (by decide)
  | cons c L =>
    rw [nsc_cons, he] at h
    by_cases h9 : stepN st c = 9
    · rw [if_pos h9] at h
      exact absurd (Prod.mk.inj h).2 (by decide)
    · rw [if_neg h9] at h
      by_cases h45 : st = 0 ∧ c = 45
      · obtain ⟨rfl, rfl⟩ := h45
        right
        refine ⟨rfl, L, rfl, ?_⟩
        rw [show stepN 0 ((45 : Nat) : Int) = 1 from by decide] at h
        rw [h, List.length_cons]
        congr 1
        omega
      · left
        have hd : 48 ≤ c ∧ c ≤ 57 := by
          rcases Classical.em (48 ≤ c ∧ c ≤ 57) with q | q
          · exact q
          · exact absurd (st01_bad hs (fun h0 hc => h45 ⟨h0, hc⟩) q) h9
        obtain ⟨st', h2, h3⟩ : ∃ st', stepN st c = st' ∧ (st' = 2 ∨ st' = 3) := by
          by_cases h48 : c = 48
          · subst h48; exact ⟨2, st01_zero hs, .inl rfl⟩
          · exact ⟨3, stq01 hs (by omega) hd.2, .inr rfl⟩
        rw [h2] at h
        have ih := tail_dgs L st' (i + 1) h3 (fun x hx => hno x (List.mem_cons_of_mem _ hx)) (by rw [h, List.length_cons]; congr 1; omega)
        refine ⟨fun x hx => ?_, by simp⟩
        rcases List.mem_cons.1 hx with rfl | q
        · exact hd
        · exact ih x q
theorem whole_form {L : List Nat} (hno : ∀ c ∈ L, c ≠ 46 ∧ c ≠ 101 ∧ c ≠ 69) (h : nsc 0 L 0 = (L.length, 0)) : (Dgs L ∧ L.length ≠ 0) ∨ ∃ D, L = [45] ++ D ∧ Dgs D ∧ D.length ≠ 0 := by
  rcases head_dgs (.inl rfl) hno (by rw [h, Nat.zero_add]) with q | ⟨_, r, rfl, hr⟩
  · exact .inl q
  · right
    rcases head_dgs (.inr rfl) (fun c hc => hno c (List.mem_cons_of_mem _ hc)) hr with q | ⟨q, _⟩
    · exact ⟨r, rfl, q⟩
    · exact absurd q (by decide)
theorem one_S (v : Nat) : ∃ S0 : ByteArray, ∀ S : ByteArray, bval (bts S) = v → S.size = (bl v + 7) / 8 → S = S0 := by
  by_cases h : ∃ S : ByteArray, bval (bts S) = v ∧ S.size = (bl v + 7) / 8
  · obtain ⟨S0, h1, h2⟩ := h
    exact ⟨S0, fun S q1 q2 => bts_inj (bval_uniq (bts_all S) (bts_all S0) (by rw [bts_length, bts_length, q2, h2]) (by rw [q1, h1]))⟩
  · exact ⟨⟨#[]⟩, fun S q1 q2 => absurd ⟨S, q1, q2⟩ h⟩
set_option maxHeartbeats 8000000 in
set_option maxRecDepth 100000 in
theorem values_same (s : ByteArray) (w : World) (K N E : Int) (g : Bool) (S : ByteArray)
    (k1 : ∀ W, Calls Tryz.prog 15 #[.string s] W fun e w' => e = .returned (.tuple #[.agg #[.int .i64 K, .bool g, .int .u64 N, .string S, .slice none 0 0], .int .i64 E]) ∧ Below W.heap.size W w')
    (k2 : ∀ W, Calls Tryz.prog 16 #[.string s] W fun e w' => e = .returned (.tuple #[.agg #[.int .i64 K, .bool g, .int .u64 N, .string S, .slice none 0 0], .int .i64 E]) ∧ Below W.heap.size W w') :
    Calls Tryz.prog 5 #[.string s] w fun e w' => e = .returned (.bool true) ∧ Below w.heap.size w w' := by
  have ka := fun W => awake7_calls W
  have k5 := fun W => same_calls K N g S none none 0 0 W
  go_enter Tryz.func5, Tryz.ntmps5
  go_wp2_with (first
    | (go_at_call 15; (with_reducible refine (k1 _).mono ?_); clear k1; rintro e1 w1 ⟨rfl, hb1⟩; have hh1 := heap_alloc_new w1 (.cells #[.int .i64 K, .bool g, .int .u64 N, .string S, .slice none 0 0] 36))
    | (go_at_call 16; (with_reducible refine (k2 _).mono ?_); clear k2; rintro e2 w2 ⟨rfl, hb2⟩; have hh2 := bk_alloc (bk_below hh1 hb2) (.cells #[.int .i64 K, .bool g, .int .u64 N, .string S, .slice none 0 0] 36); have q0 := (cell_of_row _ w1.heap.size 0 _ _ (0, 0) hh2).trans rfl; have q1 := (cell_of_row _ w1.heap.size 1 _ _ (0, 0) hh2).trans rfl; have q2 := (cell_of_row _ w1.heap.size 2 _ _ (0, 0) hh2).trans rfl; have q3 := (cell_of_row _ w1.heap.size 3 _ _ (0, 0) hh2).trans rfl; have q4 := (cell_of_row _ w1.heap.size 4 _ _ (0, 0) hh2).trans rfl)
    | (go_at_call 17; (with_reducible refine (k5 _).mono ?_); clear k5; rintro e5 w5 ⟨rfl, hb5⟩)
    | (go_at_call 14; (with_reducible refine (ka _).mono ?_); clear ka; rintro e4 w4 ⟨rfl, hb4⟩))
  go_ret
  exact ⟨by simp, below_step hb1 (below_step (below_step (below_alloc _ _) hb2) (below_step (below_step (below_alloc _ _) hb5) hb4))⟩
theorem val_num_same (s : ByteArray) (w : World) (neg : Bool) (v : Nat)
    (k1 : ∀ W, Calls Tryz.prog 15 #[.string s] W fun e w' => ValP neg v e ∧ Below W.heap.size W w')
    (k2 : ∀ W, Calls Tryz.prog 16 #[.string s] W fun e w' => (∃ X, e = .returned (.tuple #[X, .int .i64 0]) ∧ NumP neg v X) ∧ Below W.heap.size W w') :
    Calls Tryz.prog 5 #[.string s] w fun e w' => e = .returned (.bool true) ∧ Below w.heap.size w w' := by
  by_cases hsm : v < 18446744073709551616
  · refine values_same s w 4 (v : Int) 0 neg ⟨#[]⟩ (fun W => (k1 W).mono (fun e w' h => ⟨?_, h.2⟩)) (fun W => (k2 W).mono (fun e w' h => ⟨?_, h.2⟩))
    · rcases h.1 with ⟨_, q⟩ | ⟨q, _⟩
      · exact q
      · have := limbs_two hsm; omega
    · obtain ⟨X, q, hX⟩ := h.1
      rcases hX with ⟨_, rfl⟩ | ⟨q2, _⟩
      · exact q
      · omega
  · obtain ⟨S0, hS0⟩ := one_S v
    refine values_same s w 5 0 0 neg S0 (fun W => (k1 W).mono (fun e w' h => ⟨?_, h.2⟩)) (fun W => (k2 W).mono (fun e w' h => ⟨?_, h.2⟩))
    · rcases h.1 with ⟨q, _⟩ | ⟨_, S, q, h1, h2⟩
      · exfalso
        have h1 := lt_limbs v
        have h2 : 4294967296 ^ (limbs v).length ≤ 4294967296 ^ 2 := Nat.pow_le_pow_right (by decide) q
        have h3 : (4294967296 : Nat) ^ 2 = 18446744073709551616 := by decide
        omega
      · rw [← hS0 S h1 h2]; exact q
    · obtain ⟨X, q, hX⟩ := h.1
      rcases hX with ⟨q2, _⟩ | ⟨q2, S, rfl, hP⟩
      · exact absurd q2 hsm
      · have hl : (bts S).length ≠ 0 := fun z => by
          have h1 := bval_lt hP.2.1
          rw [hP.1, z] at h1
          omega
        rw [← hS0 S hP.1 (by rw [← bts_length]; exact hP.size hl)]
        exact q
theorem values_calls (s : ByteArray) (w : World) (hs : s.size ≤ 9223372036854775807) :
    Calls Tryz.prog 5 #[.string s] w fun e w' => e = .returned (.bool true) ∧ Below w.heap.size w w' := by
  have hsl := bts_length s
  by_cases hv : nsc 0 (bts s) 0 = (s.size, 0)
  case neg => exact values_same s w 0 0 4 false ⟨#[]⟩ (fun W => value_bad s W hs hv) (fun W => value07_bad s W hs hv)
  by_cases hdot : 46 ∈ bts s ∨ 101 ∈ bts s ∨ 69 ∈ bts s
  · obtain ⟨X, E, hsc⟩ : ∃ X E, sc (bts s) = (X, E) := ⟨_, _, rfl⟩
    by_cases hE : E = 0
    · subst hE
      exact values_same s w 8 (X : Int) 0 false ⟨#[]⟩ (fun W => value_dot s W hs hv hdot X hsc) (fun W => value07_dot s W hs hv hdot X hsc)
    · exact values_same s w 0 0 8 false ⟨#[]⟩ (fun W => value_doterr s W hs hv hdot X E hE hsc) (fun W => value07_doterr s W hs hv hdot X E hE hsc)
  · have hno : ∀ c ∈ bts s, c ≠ 46 ∧ c ≠ 101 ∧ c ≠ 69 := fun c hc => ⟨fun q => hdot (.inl (q ▸ hc)), fun q => hdot (.inr (.inl (q ▸ hc))), fun q => hdot (.inr (.inr (q ▸ hc)))⟩
    rcases whole_form hno (by rw [hsl]; exact hv) with ⟨hd, h0⟩ | ⟨D, hD, hd, h0⟩
    · by_cases hlg : 1200 < (bts s).length
      · exact values_same s w 0 0 8 false ⟨#[]⟩ (fun W => value_long false (bts s) s W rfl hd hlg hs hv) (fun W => value07_long_pos (bts s) s W rfl hd h0 hs hv hlg)
      · exact val_num_same s w false (dval (bts s)) (fun W => value_num_pos (bts s) _ _ s W rfl hd h0 (by omega) rfl rfl hv) (fun W => value07_num_pos (bts s) s W rfl hd h0 hs hv (by omega) _ _ rfl rfl)
    · by_cases hlg : 1200 < D.length
      · exact values_same s w 0 0 8 false ⟨#[]⟩ (fun W => value_long true D s W hD hd hlg hs hv) (fun W => value07_long_neg D s W hD hd h0 hs hv hlg)
      · by_cases hz : dval D = 0
        · exact values_same s w 8 9223372036854775808 0 false ⟨#[]⟩ (fun W => value_noughtD D s W hD hd h0 (by omega) hz hv) (fun W => value07_nought_neg D s W hD hd h0 hs hv (by omega) hz)
        · exact val_num_same s w true (dval D - 1) (fun W => value_num_neg D _ _ s W hD hd h0 (by omega) rfl rfl hz hv) (fun W => value07_num_neg D s W hD hd h0 hs hv (by omega) _ _ rfl rfl hz)
theorem values_calls_s (s : ByteArray) (w : World) (hs : s.size ≤ maxLen) :
    Calls Tryz.prog 5 #[.string s] w fun e w' => e = .returned (.bool true) ∧ Below w.heap.size w w' :=
  values_calls s w (by unfold maxLen at hs; omega)
end Go.Proofs.YtffncomekbfihaaGreatDoor.Nat
