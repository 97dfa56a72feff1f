/- num.Value at whole numbers. -/
import Derived.Test.YtffncomekbfihaaDoorNumScan
import Derived.Test.YtffncomekbfihaaDoorNatSub
import Derived.Test.YtffncomekbfihaaDoorClass
namespace Go.Proofs.YtffncomekbfihaaDoor.Nat
open Go.RowKit Go.Shelf
set_option linter.unusedVariables false
theorem bts_mk2 (l : List UInt8) : bts ⟨l.toArray⟩ = l.map UInt8.toNat := rfl
theorem cut_no {s : ByteArray} {v : Nat} (h : bts s = dec v) : Lib.hasPrefix s.data.toList [45] = false ∧ (⟨(Lib.trimPrefix s.data.toList [45]).toArray⟩ : ByteArray) = s := by
  have hd := dgs_dec v
  have hp : Lib.hasPrefix s.data.toList [45] = false := by
    unfold Lib.hasPrefix
    cases hs : s.data.toList with
    | nil => rfl
    | cons b r =>
      have hb : b.toNat ∈ bts s := by unfold bts; rw [hs]; simp
      rw [h] at hb
      have := hd _ hb
      have hne : ((45 : UInt8) == b) = false := by
        rw [beq_eq_false_iff_ne]
        rintro rfl
        exact absurd this (by decide)
      simp [List.isPrefixOf, hne]
  refine ⟨hp, ?_⟩
  unfold Lib.trimPrefix
  rw [if_neg (by rw [hp]; decide)]
theorem cut_yes {s : ByteArray} {v : Nat} (h : bts s = 45 :: dec v) : Lib.hasPrefix s.data.toList [45] = true ∧ bts (⟨(Lib.trimPrefix s.data.toList [45]).toArray⟩ : ByteArray) = dec v := by
  obtain ⟨b, r, hs⟩ : ∃ b r, s.data.toList = b :: r := by
    cases hs : s.data.toList with
    | nil => unfold bts at h; rw [hs] at h; cases h
    | cons b r => exact ⟨b, r, rfl⟩
  have h1 := h
  unfold bts at h1
  rw [hs, List.map_cons] at h1
  have hb : b = 45 := UInt8.toNat.inj (List.cons.inj h1).1
  have hp : Lib.hasPrefix s.data.toList [45] = true := by
    rw [hs, hb]; unfold Lib.hasPrefix; simp [List.isPrefixOf]
  refine ⟨hp, ?_⟩
  unfold Lib.trimPrefix
  rw [if_pos hp, hs, bts_mk2]
  exact (List.cons.inj h1).2
theorem limbs64 {n : Nat} (h : n < 18446744073709551616) : (limbs n).length ≤ 2 := limbs_len_le (Nat.lt_of_lt_of_eq h (by decide))
set_option maxHeartbeats 16000000 in
set_option maxRecDepth 100000 in
theorem value_pos (n : Nat) (s : ByteArray) (w : World) (hs : bts s = dec n) (hn : n < 18446744073709551616) :
    Calls Tryd.prog 12 #[.string s] w fun e w' => e = .returned (.tuple #[.agg #[.int .i64 4, .bool false, .int .u64 (n : Int), .string ⟨#[]⟩, .slice none 0 0], .int .i64 0]) ∧ Below w.heap.size w w' := by
  have hsl := bts_length s
  rw [hs] at hsl
  have hd := dgs_dec n
  have hdn := dec_ne n
  have hdl : (dec n).length ≤ 20 := dec_le (Nat.lt_of_lt_of_le hn (by decide)) (by decide)
  have k1 : ∀ W, Calls Tryd.prog 31 #[.string s] W fun e w' => e = .returned (.tuple #[.int .i64 (s.size : Int), .int .i64 0]) ∧ Below W.heap.size W w' := fun W => by
    have h := numScan_calls s W (by omega)
    rw [hs, nsc_dec n 0 (.inl rfl) 0, Nat.zero_add, hsl] at h
    exact h
  obtain ⟨hc1, hc2⟩ := cut_no hs
  have k2 := fun W => Tryd.strings_CutPrefix s ⟨#[45]⟩ W
  rw [show (⟨#[45]⟩ : ByteArray).data.toList = [45] from rfl, hc1, hc2] at k2
  have k3 : ∀ W, Calls Tryd.prog 21 #[.string s] W fun e w' => ∃ V, e = .returned (.tuple #[V, .int .i64 0]) ∧ NatV w' V n ∧ Below W.heap.size W w' := fun W => by
    refine (from_calls s W (by omega) (by omega)).mono ?_
    rintro e w' ⟨h1 | h1, hb⟩
    · obtain ⟨_, V, h2, h3⟩ := h1
      rw [hs, dval_dec] at h3
      exact ⟨V, h2, h3, hb⟩
    · exact absurd (hs ▸ hd) h1.1
  have hl64 := limbs64 hn
  have HS : Hid _ := Lib.hid (And.intro hs hd)
  have hb0 := below_alloc w (.cells #[.int .i64 0, .bool false, .int .u64 0, .string ⟨#[]⟩, .slice none 0 0] 37)
  have hh0 := heap_alloc_new w (.cells #[.int .i64 0, .bool false, .int .u64 0, .string ⟨#[]⟩, .slice none 0 0] 37)
  clear hc1 hc2 hs hd
  go_enter Tryd.func12, Tryd.ntmps12
  go_wp2_with (go_at_call 31; (with_reducible refine (k1 _).mono ?_); clear k1; rintro e1 w1 ⟨rfl, hb1⟩; have hh1 := bk_below hh0 hb1; have hbA := below_step hb0 hb1)
  go_loopg [33] s.size (fun kq v33 wr => ∃ i : Nat, v33 = .int .i64 i ∧ i + kq = s.size ∧ wr = w1)
  case atStart => exact ⟨0, rfl, by omega, rfl⟩
  case round =>
    obtain ⟨i, rfl, hi, rfl⟩ := hrel
    cases gk with
    | succ d =>
      have hlt : i < s.size := by omega
      have hltI : (i : Int) < (s.size : Int) := by omega
      have hat := bts_at s i hlt
      obtain ⟨c, hc⟩ : ∃ c, s[i].toNat = c := ⟨_, rfl⟩
      rw [hc] at hat
      have hcd : 48 ≤ c ∧ c ≤ 57 := by
        obtain ⟨h1, h2⟩ := HS.out
        rw [h1] at hat
        exact h2.get hat
      have n1 : ((c : Int) == 46) = false := beq_eq_false_iff_ne.2 (by omega)
      have n2 : ((c : Int) == 101) = false := beq_eq_false_iff_ne.2 (by omega)
      have n3 : ((c : Int) == 69) = false := beq_eq_false_iff_ne.2 (by omega)
      clear hat
      go_wp2
      go_roundg d
      case rel => exact ⟨i + 1, by go_num, by omega, rfl⟩
      case measure => omega
    | zero =>
      obtain rfl : i = s.size := by omega
      have hs12 : ¬ (1200 : Int) < (s.size : Int) := by omega
      go_wp2_with (first
        | (go_at_call 32; (with_reducible refine (k2 _).mono ?_); clear k2; rintro e2 w2 ⟨rfl, rfl⟩)
        | (go_at_call 21; (with_reducible refine (k3 _).mono ?_); clear k3; rintro e3 w3 ⟨V, rfl, hV, hb3⟩; obtain ⟨A3, c3, rfl, hc3, hR3⟩ := hV; have hl2I : ¬ (2 : Int) < ((limbs n).length : Int) := (by omega)))
      have hbC := below_step hbA hb3
      have hh3 := bk_below hh1 hb3
      have hmix : Tryd.prog.follows Departure.mixedOrders = true := by kernel_rfl
      have hb4 := below_alloc w3 (.cells #[.int .i64 4, .bool false, .int .u64 0, .string ⟨#[]⟩, .slice none 0 0] 37)
      have hh4 := heap_alloc_new w3 (.cells #[.int .i64 4, .bool false, .int .u64 0, .string ⟨#[]⟩, .slice none 0 0] 37)
      generalize w3.alloc (.cells #[.int .i64 4, .bool false, .int .u64 0, .string ⟨#[]⟩, .slice none 0 0] 37) = W4 at hb4 hh4 ⊢
      have hvl := nv_limbs n
      have hol := ok_limbs n
      generalize limbs n = l at *
      have HVL : Hid _ := Lib.hid (And.intro hvl hol)
      clear hvl
      have hll2 : l.length ≤ 2 := by omega
      go_loopg [101] l.length (fun kq v101 wr2 => ∃ i : Nat, v101 = .int .i64 i ∧ i + kq = l.length ∧ wr2.heap[w3.heap.size]? = some (.cells #[.int .i64 4, .bool false, .int .u64 ((nv (l.take i) : Nat) : Int), .string ⟨#[]⟩, .slice none 0 0] 37 (0, 0)) ∧ Below w3.heap.size w3 wr2)
      case atStart => exact ⟨0, rfl, by omega, hh4, hb4⟩
      case round =>
        clear hb4 hh4
        obtain ⟨i, rfl, hi2, hrow, hbL⟩ := hrel
        cases gk with
        | succ d2 =>
          obtain ⟨ad, x, rfl, hx, hcell⟩ := hR3.at (j := i) (by omega)
          have hx32 := HVL.out.2.get hx
          have y := (hbL.cell (World.block_lt_of_cell? _ _ hcell)).trans hcell
          have hi1 : (i : Int) < (l.length : Int) := by omega
          have hw : IntKind.u64.wrap (x : Int) = (x : Int) := by rw [IntKind.wrap_u64]; omega
          have ht := nv_take_succ hx
          have HT : Hid _ := Lib.hid ht
          clear ht
          have cN := (cell_of_row wr w3.heap.size 2 _ _ (0, 0) hrow).trans rfl
          have fN := frozen_of_row wr w3.heap.size 2 _ _ hrow
          have HROW : Hid _ := Lib.hid hrow
          clear hrow hcell
          rcases (show i = 0 ∨ i = 1 by omega) with rfl | rfl
          · have ho := or_zero hx32
            have hz : nv (l.take 0) = 0 := rfl
            rw [hz] at cN
            have y0 : wr.cell? ⟨ad.block, ad.off, ad.spot⟩ = some (.int .u32 (x : Int)) := y
            have y0' : wr.cell? ad = some (.int .u32 (x : Int)) := y
            go_wp2_with fail
            go_region_o
            go_wp2
            go_roundg d2
            case rel => exact ⟨1, rfl, by omega, by rw [HT.out, hz, Nat.pow_zero, Nat.one_mul, Nat.zero_add]; exact bk_set HROW.out 2 _, (hbL.setCell (p := ⟨w3.heap.size, 2, none⟩) (Nat.le_refl _) _).drew⟩
            case measure => omega
          · have hn1 : nv (l.take 1) < 4294967296 := by
              have h := nv_lt (HVL.out.2.take 1)
              have h2 : (l.take 1).length ≤ 1 := List.length_take_le _ _
              have h3 : 4294967296 ^ (l.take 1).length ≤ 4294967296 ^ 1 := Nat.pow_le_pow_right (by decide) h2
              omega
            have ho := or_join2 hx32 hn1
            have hw2 : IntKind.u64.wrap ((x : Int) * 4294967296) = (x : Int) * 4294967296 := by rw [IntKind.wrap_u64]; omega
            have y1 : wr.cell? ⟨ad.block, ad.off + 1, none⟩ = some (.int .u32 (x : Int)) := y
            go_wp2_with fail
            go_region_o
            go_wp2
            go_roundg d2
            case rel => exact ⟨2, rfl, by omega, by rw [HT.out, Nat.pow_one]; exact bk_set HROW.out 2 _, (hbL.setCell (p := ⟨w3.heap.size, 2, none⟩) (Nat.le_refl _) _).drew⟩
            case measure => omega
        | zero =>
          obtain rfl : i = l.length := by omega
          rw [List.take_length, HVL.out.1] at hrow
          have c0 := (cell_of_row wr w3.heap.size 0 _ _ (0, 0) hrow).trans rfl; have c1 := (cell_of_row wr w3.heap.size 1 _ _ (0, 0) hrow).trans rfl; have c2 := (cell_of_row wr w3.heap.size 2 _ _ (0, 0) hrow).trans rfl; have c3 := (cell_of_row wr w3.heap.size 3 _ _ (0, 0) hrow).trans rfl; have c4 := (cell_of_row wr w3.heap.size 4 _ _ (0, 0) hrow).trans rfl
          have hz := bk_below hh3 hbL
          have d0 := (cell_of_row wr w.heap.size 0 _ _ (0, 0) hz).trans rfl; have d1 := (cell_of_row wr w.heap.size 1 _ _ (0, 0) hz).trans rfl; have d2 := (cell_of_row wr w.heap.size 2 _ _ (0, 0) hz).trans rfl; have d3 := (cell_of_row wr w.heap.size 3 _ _ (0, 0) hz).trans rfl; have d4 := (cell_of_row wr w.heap.size 4 _ _ (0, 0) hz).trans rfl
          have f0 := frozen_of_row wr w.heap.size 0 _ _ hz; have f1 := frozen_of_row wr w.heap.size 1 _ _ hz; have f2 := frozen_of_row wr w.heap.size 2 _ _ hz; have f3 := frozen_of_row wr w.heap.size 3 _ _ hz; have f4 := frozen_of_row wr w.heap.size 4 _ _ hz
          have hr5 := bk_set (bk_set (bk_set (bk_set (bk_set hz 0 (.int .i64 4)) 1 (.bool false)) 2 (.int .u64 ((n : Nat) : Int))) 3 (.string ⟨#[]⟩)) 4 (.slice none 0 0)
          have hq := Nat.le_refl w.heap.size
          have hb5 := (((((hbC.trans (hbL.mono hbC.size)).setCell (p := ⟨w.heap.size, 0, none⟩) hq (.int .i64 4)).setCell (p := ⟨w.heap.size, 1, none⟩) hq (.bool false)).setCell (p := ⟨w.heap.size, 2, none⟩) hq (.int .u64 ((n : Nat) : Int))).setCell (p := ⟨w.heap.size, 3, none⟩) hq (.string ⟨#[]⟩)).setCell (p := ⟨w.heap.size, 4, none⟩) hq (.slice none 0 0)
          have HR5 : Hid _ := Lib.hid (And.intro hr5 hb5)
          clear hr5 hb5 hz hrow
          go_wp2
          refine bodyPost_ret (results_cell_tmp Tryd.results12 _ _ w.heap.size 37 _ (0, 0) _ rfl HR5.out.1 Tryd.underlying37 rfl (by kernel_rfl)) rfl ⟨rfl, HR5.out.2⟩
set_option maxHeartbeats 16000000 in
set_option maxRecDepth 100000 in
theorem value_neg (n : Nat) (s : ByteArray) (w : World) (hs : bts s = 45 :: dec n) (hn : n < 18446744073709551616) (h0 : n ≠ 0) :
    Calls Tryd.prog 12 #[.string s] w fun e w' => e = .returned (.tuple #[.agg #[.int .i64 4, .bool true, .int .u64 ((n - 1 : Nat) : Int), .string ⟨#[]⟩, .slice none 0 0], .int .i64 0]) ∧ Below w.heap.size w w' := by
  have hsl := bts_length s
  rw [hs, List.length_cons] at hsl
  have hd := dgs_dec n
  have hdn := dec_ne n
  have hdl : (dec n).length ≤ 20 := dec_le (Nat.lt_of_lt_of_le hn (by decide)) (by decide)
  have k1 : ∀ W, Calls Tryd.prog 31 #[.string s] W fun e w' => e = .returned (.tuple #[.int .i64 (s.size : Int), .int .i64 0]) ∧ Below W.heap.size W w' := fun W => by
    have h := numScan_calls s W (by omega)
    rw [hs, nsc_neg n, List.length_cons, hsl] at h
    exact h
  obtain ⟨hc1, hc2⟩ := cut_yes hs
  obtain ⟨t, ht⟩ : ∃ t : ByteArray, ⟨(Lib.trimPrefix s.data.toList [45]).toArray⟩ = t := ⟨_, rfl⟩
  rw [ht] at hc2
  have htl := bts_length t
  rw [hc2] at htl
  have k2 := fun W => Tryd.strings_CutPrefix s ⟨#[45]⟩ W
  rw [show (⟨#[45]⟩ : ByteArray).data.toList = [45] from rfl, hc1, ht] at k2
  have k3 : ∀ W, Calls Tryd.prog 21 #[.string t] W fun e w' => ∃ V, e = .returned (.tuple #[V, .int .i64 0]) ∧ NatV w' V n ∧ Below W.heap.size W w' := fun W => by
    refine (from_calls t W (by omega) (by omega)).mono ?_
    rintro e w' ⟨h1 | h1, hb⟩
    · obtain ⟨_, V, h2, h3⟩ := h1
      rw [hc2, dval_dec] at h3
      exact ⟨V, h2, h3, hb⟩
    · exact absurd (hc2 ▸ hd) h1.1
  have hl64 := limbs64 hn
  have HS : Hid _ := Lib.hid (And.intro hs hd)
  have hb0 := below_alloc w (.cells #[.int .i64 0, .bool false, .int .u64 0, .string ⟨#[]⟩, .slice none 0 0] 37)
  have hh0 := heap_alloc_new w (.cells #[.int .i64 0, .bool false, .int .u64 0, .string ⟨#[]⟩, .slice none 0 0] 37)
  have hlz : (limbs n).length ≠ 0 := fun z => h0 (limbs_len_zero.1 z)
  have hts : ¬ (1200 : Int) < (t.size : Int) := by omega
  clear hc1 hc2 hs hd ht htl
  go_enter Tryd.func12, Tryd.ntmps12
  go_wp2_with (go_at_call 31; (with_reducible refine (k1 _).mono ?_); clear k1; rintro e1 w1 ⟨rfl, hb1⟩; have hh1 := bk_below hh0 hb1; have hbA := below_step hb0 hb1)
  go_loopg [33] s.size (fun kq v33 wr => ∃ i : Nat, v33 = .int .i64 i ∧ i + kq = s.size ∧ wr = w1)
  case atStart => exact ⟨0, rfl, by omega, rfl⟩
  case round =>
    obtain ⟨i, rfl, hi, rfl⟩ := hrel
    cases gk with
    | succ d =>
      have hlt : i < s.size := by omega
      have hltI : (i : Int) < (s.size : Int) := by omega
      have hat := bts_at s i hlt
      obtain ⟨c, hc⟩ : ∃ c, s[i].toNat = c := ⟨_, rfl⟩
      rw [hc] at hat
      have hcd : c = 45 ∨ (48 ≤ c ∧ c ≤ 57) := by
        obtain ⟨h1, h2⟩ := HS.out
        rw [h1] at hat
        have hm := List.mem_of_getElem? hat
        rcases List.mem_cons.1 hm with q | q
        · exact .inl q
        · exact .inr (h2 c q)
      have n1 : ((c : Int) == 46) = false := beq_eq_false_iff_ne.2 (by omega)
      have n2 : ((c : Int) == 101) = false := beq_eq_false_iff_ne.2 (by omega)
      have n3 : ((c : Int) == 69) = false := beq_eq_false_iff_ne.2 (by omega)
      clear hat
      go_wp2
      go_roundg d
      case rel => exact ⟨i + 1, by go_num, by omega, rfl⟩
      case measure => omega
    | zero =>
      obtain rfl : i = s.size := by omega
      go_wp2_with (first
        | (go_at_call 32; (with_reducible refine (k2 _).mono ?_); clear k2; rintro e2 w2 ⟨rfl, rfl⟩)
        | (go_at_call 21; (with_reducible refine (k3 _).mono ?_); clear k3; rintro e3 w3 ⟨V, rfl, hV, hb3⟩; have hVA := hV.a (by omega : (limbs n).length ≤ 4096); obtain ⟨A3, c3, rfl, hc3, hR3⟩ := hV; have hz0 : (((limbs n).length : Int) == 0) = false := beq_eq_false_iff_ne.2 (by omega); have hz1 : ¬ ((limbs n).length : Int) = 0 := (by omega); have ksub := sub_a (hVA.below (below_alloc w3 _)) (nata_one w3 1 (by decide)) (by omega : (limbs n).length ≤ 4096) (by omega : 1 ≤ n); rw [show ((1 : Nat) : Int) = 1 from rfl] at ksub)
        | (go_at_call 33; (with_reducible refine ksub.mono ?_); clear ksub; rintro e5 w5 ⟨V5, rfl, hV5, hb5⟩; obtain ⟨A5, c5, rfl, hc5, hR5⟩ := hV5; have hl64 := limbs64 (show n - 1 < 18446744073709551616 by omega); have hl2I : ¬ (2 : Int) < ((limbs (n - 1)).length : Int) := (by omega)))
      have hbC := below_step (below_step hbA hb3) (below_step (below_alloc w3 _) hb5)
      have hh5 := bk_below (bk_alloc (bk_below hh1 hb3) _) hb5
      clear hR3 hc3 hVA hz0 hz1 hlz
      have hmix : Tryd.prog.follows Departure.mixedOrders = true := by kernel_rfl
      have hb4 := below_alloc w5 (.cells #[.int .i64 4, .bool true, .int .u64 0, .string ⟨#[]⟩, .slice none 0 0] 37)
      have hh4 := heap_alloc_new w5 (.cells #[.int .i64 4, .bool true, .int .u64 0, .string ⟨#[]⟩, .slice none 0 0] 37)
      generalize w5.alloc (.cells #[.int .i64 4, .bool true, .int .u64 0, .string ⟨#[]⟩, .slice none 0 0] 37) = W4 at hb4 hh4 ⊢
      have hvl := nv_limbs (n - 1)
      have hol := ok_limbs (n - 1)
      generalize limbs (n - 1) = l at *
      have HVL : Hid _ := Lib.hid (And.intro hvl hol)
      clear hvl
      have hll2 : l.length ≤ 2 := by omega
      go_loopg [101] l.length (fun kq v101 wr2 => ∃ i : Nat, v101 = .int .i64 i ∧ i + kq = l.length ∧ wr2.heap[w5.heap.size]? = some (.cells #[.int .i64 4, .bool true, .int .u64 ((nv (l.take i) : Nat) : Int), .string ⟨#[]⟩, .slice none 0 0] 37 (0, 0)) ∧ Below w5.heap.size w5 wr2)
      case atStart => exact ⟨0, rfl, by omega, hh4, hb4⟩
      case round =>
        clear hb4 hh4
        obtain ⟨i, rfl, hi2, hrow, hbL⟩ := hrel
        cases gk with
        | succ d2 =>
          obtain ⟨ad, x, rfl, hx, hcell⟩ := hR5.at (j := i) (by omega)
          have hx32 := HVL.out.2.get hx
          have y := (hbL.cell (World.block_lt_of_cell? _ _ hcell)).trans hcell
          have hi1 : (i : Int) < (l.length : Int) := by omega
          have hw : IntKind.u64.wrap (x : Int) = (x : Int) := by rw [IntKind.wrap_u64]; omega
          have ht := nv_take_succ hx
          have HT : Hid _ := Lib.hid ht
          clear ht
          have cN := (cell_of_row wr w5.heap.size 2 _ _ (0, 0) hrow).trans rfl
          have fN := frozen_of_row wr w5.heap.size 2 _ _ hrow
          have HROW : Hid _ := Lib.hid hrow
          clear hrow hcell
          rcases (show i = 0 ∨ i = 1 by omega) with rfl | rfl
          · have ho := or_zero hx32
            have hz : nv (l.take 0) = 0 := rfl
            rw [hz] at cN
            have y0 : wr.cell? ⟨ad.block, ad.off, ad.spot⟩ = some (.int .u32 (x : Int)) := y
            have y0' : wr.cell? ad = some (.int .u32 (x : Int)) := y
            go_wp2_with fail
            go_region_o
            go_wp2
            go_roundg d2
            case rel => exact ⟨1, rfl, by omega, by rw [HT.out, hz, Nat.pow_zero, Nat.one_mul, Nat.zero_add]; exact bk_set HROW.out 2 _, (hbL.setCell (p := ⟨w5.heap.size, 2, none⟩) (Nat.le_refl _) _).drew⟩
            case measure => omega
          · have hn1 : nv (l.take 1) < 4294967296 := by
              have h := nv_lt (HVL.out.2.take 1)
              have h2 : (l.take 1).length ≤ 1 := List.length_take_le _ _
              have h3 : 4294967296 ^ (l.take 1).length ≤ 4294967296 ^ 1 := Nat.pow_le_pow_right (by decide) h2
              omega
            have ho := or_join2 hx32 hn1
            have hw2 : IntKind.u64.wrap ((x : Int) * 4294967296) = (x : Int) * 4294967296 := by rw [IntKind.wrap_u64]; omega
            have y1 : wr.cell? ⟨ad.block, ad.off + 1, none⟩ = some (.int .u32 (x : Int)) := y
            go_wp2_with fail
            go_region_o
            go_wp2
            go_roundg d2
            case rel => exact ⟨2, rfl, by omega, by rw [HT.out, Nat.pow_one]; exact bk_set HROW.out 2 _, (hbL.setCell (p := ⟨w5.heap.size, 2, none⟩) (Nat.le_refl _) _).drew⟩
            case measure => omega
        | zero =>
          obtain rfl : i = l.length := by omega
          rw [List.take_length, HVL.out.1] at hrow
          have c0 := (cell_of_row wr w5.heap.size 0 _ _ (0, 0) hrow).trans rfl; have c1 := (cell_of_row wr w5.heap.size 1 _ _ (0, 0) hrow).trans rfl; have c2 := (cell_of_row wr w5.heap.size 2 _ _ (0, 0) hrow).trans rfl; have c3 := (cell_of_row wr w5.heap.size 3 _ _ (0, 0) hrow).trans rfl; have c4 := (cell_of_row wr w5.heap.size 4 _ _ (0, 0) hrow).trans rfl
          have hz := bk_below hh5 hbL
          have d0 := (cell_of_row wr w.heap.size 0 _ _ (0, 0) hz).trans rfl; have d1 := (cell_of_row wr w.heap.size 1 _ _ (0, 0) hz).trans rfl; have d2 := (cell_of_row wr w.heap.size 2 _ _ (0, 0) hz).trans rfl; have d3 := (cell_of_row wr w.heap.size 3 _ _ (0, 0) hz).trans rfl; have d4 := (cell_of_row wr w.heap.size 4 _ _ (0, 0) hz).trans rfl
          have f0 := frozen_of_row wr w.heap.size 0 _ _ hz; have f1 := frozen_of_row wr w.heap.size 1 _ _ hz; have f2 := frozen_of_row wr w.heap.size 2 _ _ hz; have f3 := frozen_of_row wr w.heap.size 3 _ _ hz; have f4 := frozen_of_row wr w.heap.size 4 _ _ hz
          have hr5 := bk_set (bk_set (bk_set (bk_set (bk_set hz 0 (.int .i64 4)) 1 (.bool true)) 2 (.int .u64 ((n - 1 : Nat) : Int))) 3 (.string ⟨#[]⟩)) 4 (.slice none 0 0)
          have hq := Nat.le_refl w.heap.size
          have hb5 := (((((hbC.trans (hbL.mono hbC.size)).setCell (p := ⟨w.heap.size, 0, none⟩) hq (.int .i64 4)).setCell (p := ⟨w.heap.size, 1, none⟩) hq (.bool true)).setCell (p := ⟨w.heap.size, 2, none⟩) hq (.int .u64 ((n - 1 : Nat) : Int))).setCell (p := ⟨w.heap.size, 3, none⟩) hq (.string ⟨#[]⟩)).setCell (p := ⟨w.heap.size, 4, none⟩) hq (.slice none 0 0)
          have HR5 : Hid _ := Lib.hid (And.intro hr5 hb5)
          clear hr5 hb5 hz hrow
          go_wp2
          refine bodyPost_ret (results_cell_tmp Tryd.results12 _ _ w.heap.size 37 _ (0, 0) _ rfl HR5.out.1 Tryd.underlying37 rfl (by kernel_rfl)) rfl ⟨rfl, HR5.out.2⟩
set_option maxHeartbeats 16000000 in
set_option maxRecDepth 100000 in
theorem value_nought (s : ByteArray) (w : World) (hs : bts s = [45, 48]) :
    Calls Tryd.prog 12 #[.string s] w fun e w' => e = .returned (.tuple #[.agg #[.int .i64 8, .bool false, .int .u64 9223372036854775808, .string ⟨#[]⟩, .slice none 0 0], .int .i64 0]) ∧ Below w.heap.size w w' := by
  have hs' : bts s = 45 :: dec 0 := hs
  have hsl := bts_length s
  rw [hs', List.length_cons] at hsl
  have hd := dgs_dec 0
  have hdn := dec_ne 0
  have hdl : (dec 0).length ≤ 20 := by decide
  have k1 : ∀ W, Calls Tryd.prog 31 #[.string s] W fun e w' => e = .returned (.tuple #[.int .i64 (s.size : Int), .int .i64 0]) ∧ Below W.heap.size W w' := fun W => by
    have h := numScan_calls s W (by omega)
    rw [hs', nsc_neg 0, List.length_cons, hsl] at h
    exact h
  obtain ⟨hc1, hc2⟩ := cut_yes hs'
  obtain ⟨t, ht⟩ : ∃ t : ByteArray, ⟨(Lib.trimPrefix s.data.toList [45]).toArray⟩ = t := ⟨_, rfl⟩
  rw [ht] at hc2
  have htl := bts_length t
  rw [hc2] at htl
  have k2 := fun W => Tryd.strings_CutPrefix s ⟨#[45]⟩ W
  rw [show (⟨#[45]⟩ : ByteArray).data.toList = [45] from rfl, hc1, ht] at k2
  have k3 : ∀ W, Calls Tryd.prog 21 #[.string t] W fun e w' => ∃ V, e = .returned (.tuple #[V, .int .i64 0]) ∧ NatV w' V 0 ∧ Below W.heap.size W w' := fun W => by
    refine (from_calls t W (by omega) (by omega)).mono ?_
    rintro e w' ⟨h1 | h1, hb⟩
    · obtain ⟨_, V, h2, h3⟩ := h1
      rw [hc2, dval_dec] at h3
      exact ⟨V, h2, h3, hb⟩
    · exact absurd (hc2 ▸ hd) h1.1
  have HS : Hid _ := Lib.hid (And.intro hs' hd)
  have hb0 := below_alloc w (.cells #[.int .i64 0, .bool false, .int .u64 0, .string ⟨#[]⟩, .slice none 0 0] 37)
  have hh0 := heap_alloc_new w (.cells #[.int .i64 0, .bool false, .int .u64 0, .string ⟨#[]⟩, .slice none 0 0] 37)
  have hlz : (limbs 0).length = 0 := limbs_len_zero.2 rfl
  have hts : ¬ (1200 : Int) < (t.size : Int) := by omega
  clear hc1 hc2 hs hs' hd ht htl
  go_enter Tryd.func12, Tryd.ntmps12
  go_wp2_with (go_at_call 31; (with_reducible refine (k1 _).mono ?_); clear k1; rintro e1 w1 ⟨rfl, hb1⟩; have hh1 := bk_below hh0 hb1; have hbA := below_step hb0 hb1)
  go_loopg [33] s.size (fun kq v33 wr => ∃ i : Nat, v33 = .int .i64 i ∧ i + kq = s.size ∧ wr = w1)
  case atStart => exact ⟨0, rfl, by omega, rfl⟩
  case round =>
    obtain ⟨i, rfl, hi, rfl⟩ := hrel
    cases gk with
    | succ d =>
      have hlt : i < s.size := by omega
      have hltI : (i : Int) < (s.size : Int) := by omega
      have hat := bts_at s i hlt
      obtain ⟨c, hc⟩ : ∃ c, s[i].toNat = c := ⟨_, rfl⟩
      rw [hc] at hat
      have hcd : c = 45 ∨ (48 ≤ c ∧ c ≤ 57) := by
        obtain ⟨h1, h2⟩ := HS.out
        rw [h1] at hat
        have hm := List.mem_of_getElem? hat
        rcases List.mem_cons.1 hm with q | q
        · exact .inl q
        · exact .inr (h2 c q)
      have n1 : ((c : Int) == 46) = false := beq_eq_false_iff_ne.2 (by omega)
      have n2 : ((c : Int) == 101) = false := beq_eq_false_iff_ne.2 (by omega)
      have n3 : ((c : Int) == 69) = false := beq_eq_false_iff_ne.2 (by omega)
      clear hat
      go_wp2
      go_roundg d
      case rel => exact ⟨i + 1, by go_num, by omega, rfl⟩
      case measure => omega
    | zero =>
      obtain rfl : i = s.size := by omega
      go_wp2_with (first
        | (go_at_call 32; (with_reducible refine (k2 _).mono ?_); clear k2; rintro e2 w2 ⟨rfl, rfl⟩)
        | (go_at_call 21; (with_reducible refine (k3 _).mono ?_); clear k3; rintro e3 w3 ⟨V, rfl, hV, hb3⟩; obtain ⟨A3, c3, rfl, hc3, hR3⟩ := hV; rw [hlz]; have hz := bk_below hh1 hb3; have d0 := (cell_of_row w3 w.heap.size 0 _ _ (0, 0) hz).trans rfl; have d1 := (cell_of_row w3 w.heap.size 1 _ _ (0, 0) hz).trans rfl; have d2 := (cell_of_row w3 w.heap.size 2 _ _ (0, 0) hz).trans rfl; have d3 := (cell_of_row w3 w.heap.size 3 _ _ (0, 0) hz).trans rfl; have d4 := (cell_of_row w3 w.heap.size 4 _ _ (0, 0) hz).trans rfl; have f0 := frozen_of_row w3 w.heap.size 0 _ _ hz; have f1 := frozen_of_row w3 w.heap.size 1 _ _ hz; have f2 := frozen_of_row w3 w.heap.size 2 _ _ hz; have f3 := frozen_of_row w3 w.heap.size 3 _ _ hz; have f4 := frozen_of_row w3 w.heap.size 4 _ _ hz))
      have hz := bk_below hh1 hb3
      have hr5 := bk_set (bk_set (bk_set (bk_set (bk_set hz 0 (.int .i64 8)) 1 (.bool false)) 2 (.int .u64 9223372036854775808)) 3 (.string ⟨#[]⟩)) 4 (.slice none 0 0)
      have hq := Nat.le_refl w.heap.size
      have hb5 := (((((below_step hbA hb3).setCell (p := ⟨w.heap.size, 0, none⟩) hq (.int .i64 8)).setCell (p := ⟨w.heap.size, 1, none⟩) hq (.bool false)).setCell (p := ⟨w.heap.size, 2, none⟩) hq (.int .u64 9223372036854775808)).setCell (p := ⟨w.heap.size, 3, none⟩) hq (.string ⟨#[]⟩)).setCell (p := ⟨w.heap.size, 4, none⟩) hq (.slice none 0 0)
      refine bodyPost_ret (results_cell_tmp Tryd.results12 _ _ w.heap.size 37 _ (0, 0) _ rfl hr5 Tryd.underlying37 rfl (by kernel_rfl)) rfl ⟨rfl, hb5⟩
end Go.Proofs.YtffncomekbfihaaDoor.Nat
