/- The laws FitsAll and FitsWithin: their walks. -/
import Derived.Test.YtfcfnnkepjoncaaHand19
import Derived.Lib.Hide
namespace Go.Proofs.Ytfcfnnkepjoncaa.Hand
open Go.RowKit Go.Shelf Go.Proofs.YtfcfnnkepjoncaaW.PrintWords Go.Proofs.YtfcfnnkepjoncaaW.PrintLast Go.Proofs.YtfcfnnkepjoncaaW.PrintMore Go.Proofs.Ytfcfnnkepjoncaa.PC
set_option linter.unusedVariables false
set_option linter.unusedSimpArgs false
theorem fits_in {f : Int} (hf : 0 ≤ f ∧ f ≤ 3) (x : S44) : fitsK f x = if chkK x = 0 then (goodK f x, 0) else (false, chkK x) := by
  unfold fitsK; rw [if_pos hf]
set_option maxRecDepth 100000 in
set_option maxHeartbeats 16000000 in
/-- FitsAll over what its callees answer -/
theorem all_walk (x : S44) (A : Option Addr) (c : Nat) (w : World) (h : Small x) (hc : x.f4.length ≤ c) (hC : Kd.C k44 w A x.f4.length x.f4) (E : Int) (va vb vc vd h14 h13 h9 : Bool)
    (e3 : fitsK 3 x = (va, E)) (e1 : fitsK 1 x = (vb, E)) (e2 : fitsK 2 x = (vc, E)) (e0 : fitsK 0 x = (vd, E)) (eE : chkK x = E) (q14 : hasB 14 x = h14) (q13 : hasB 13 x = h13) (q9 : hasB 9 x = h9)
    (hq : ((E != 0) = true ∧ va = false ∧ vb = false ∧ vc = false ∧ vd = false) ∨ ((E != 0) = false ∧ va = true ∧ h14 = !vb ∧ (vc = true → h13 = false) ∧ (vd = true → vb = true ∧ h9 = false))) :
    Calls Try.prog 9 #[.agg #[.int .i64 x.f0, .bool x.f1, .int .u64 x.f2, .string x.f3, .slice A x.f4.length c]] w fun e w' => e = .returned (.bool true) ∧ Below w.heap.size w w' := by
  have B1 : Below w.heap.size w (w.alloc (.cells #[.int .i64 x.f0, .bool x.f1, .int .u64 x.f2, .string x.f3, .slice A x.f4.length c] 44)) := ((Below.refl _ w).alloc (Nat.le_refl _) _)
  have bv := heap_alloc_new w (.cells #[.int .i64 x.f0, .bool x.f1, .int .u64 x.f2, .string x.f3, .slice A x.f4.length c] 44)
  have CA : ∀ W, Below w.heap.size w W → Kd.C k44 W A x.f4.length x.f4 := fun W hW => Kd.C_below hC hW
  have kC := fun W hW => check_call x A c W h hc (CA W hW)
  have k3 := fun W hW => fits_call 3 x A c W h hc (CA W hW)
  have k1 := fun W hW => fits_call 1 x A c W h hc (CA W hW)
  have k2 := fun W hW => fits_call 2 x A c W h hc (CA W hW)
  have k0 := fun W hW => fits_call 0 x A c W h hc (CA W hW)
  have m14 := fun W hW => has_call 14 x A c W h hc (CA W hW)
  have m13 := fun W hW => has_call 13 x A c W h hc (CA W hW)
  have m9 := fun W hW => has_call 9 x A c W h hc (CA W hW)
  simp only [e3, e1, e2, e0, eE, q14, q13, q9] at kC k3 k1 k2 k0 m14 m13 m9
  clear e3 e1 e2 e0 eE q14 q13 q9 CA h
  have HB := B1
  have BV := bv
  have z0 := (blk_cell BV 0).trans rfl
  have z1 := (blk_cell BV 1).trans rfl
  have z2 := (blk_cell BV 2).trans rfl
  have z3 := (blk_cell BV 3).trans rfl
  have z4 := (blk_cell BV 4).trans rfl
  clear B1 bv
  rcases hq with ⟨hE, rfl, rfl, rfl, rfl⟩ | ⟨hE, rfl, rfl, q1, q2⟩
  · go_enter Try.func9, Try.ntmps9
    go_wp2_with (first | (go_at_call 21; (first | (with_reducible refine (kC _ HB).mono ?_)); rintro e w1 ⟨rfl, hb_⟩; have n1_ := below_step HB hb_; have n2_ := blk_below BV hb_; clear HB BV z0 z1 z2 z3 z4; have HB := n1_; have BV := n2_; clear n1_ n2_ hb_; have z0 := (blk_cell BV 0).trans rfl; have z1 := (blk_cell BV 1).trans rfl; have z2 := (blk_cell BV 2).trans rfl; have z3 := (blk_cell BV 3).trans rfl; have z4 := (blk_cell BV 4).trans rfl) | (go_at_call 19; (first | (with_reducible refine (k3 _ HB).mono ?_) | (with_reducible refine (k1 _ HB).mono ?_) | (with_reducible refine (k2 _ HB).mono ?_) | (with_reducible refine (k0 _ HB).mono ?_)); rintro e w1 ⟨rfl, hb_⟩; have n1_ := below_step HB hb_; have n2_ := blk_below BV hb_; clear HB BV z0 z1 z2 z3 z4; have HB := n1_; have BV := n2_; clear n1_ n2_ hb_; have z0 := (blk_cell BV 0).trans rfl; have z1 := (blk_cell BV 1).trans rfl; have z2 := (blk_cell BV 2).trans rfl; have z3 := (blk_cell BV 3).trans rfl; have z4 := (blk_cell BV 4).trans rfl) | (go_at_call 22; (first | (with_reducible refine (m14 _ HB).mono ?_) | (with_reducible refine (m13 _ HB).mono ?_) | (with_reducible refine (m9 _ HB).mono ?_)); rintro e w1 ⟨rfl, hb_⟩; have n1_ := below_step HB hb_; have n2_ := blk_below BV hb_; clear HB BV z0 z1 z2 z3 z4; have HB := n1_; have BV := n2_; clear n1_ n2_ hb_; have z0 := (blk_cell BV 0).trans rfl; have z1 := (blk_cell BV 1).trans rfl; have z2 := (blk_cell BV 2).trans rfl; have z3 := (blk_cell BV 3).trans rfl; have z4 := (blk_cell BV 4).trans rfl) | (go_at_call 20; refine (awake_call _).mono ?_; rintro e w1 ⟨rfl, hb_⟩; have n1_ := below_step HB hb_; clear HB; have HB := n1_; clear n1_ hb_))
    go_ret
    exact ⟨rfl, HB⟩
  · cases vd
    case' true => obtain ⟨rfl, rfl⟩ := q2 rfl
    case' false => cases vb
    all_goals
      cases vc
      case' true => obtain rfl := q1 rfl
      all_goals
        (try clear q1)
        (try clear q2)
        go_enter Try.func9, Try.ntmps9
        go_wp2_with (first | (go_at_call 21; (first | (with_reducible refine (kC _ HB).mono ?_)); rintro e w1 ⟨rfl, hb_⟩; have n1_ := below_step HB hb_; have n2_ := blk_below BV hb_; clear HB BV z0 z1 z2 z3 z4; have HB := n1_; have BV := n2_; clear n1_ n2_ hb_; have z0 := (blk_cell BV 0).trans rfl; have z1 := (blk_cell BV 1).trans rfl; have z2 := (blk_cell BV 2).trans rfl; have z3 := (blk_cell BV 3).trans rfl; have z4 := (blk_cell BV 4).trans rfl) | (go_at_call 19; (first | (with_reducible refine (k3 _ HB).mono ?_) | (with_reducible refine (k1 _ HB).mono ?_) | (with_reducible refine (k2 _ HB).mono ?_) | (with_reducible refine (k0 _ HB).mono ?_)); rintro e w1 ⟨rfl, hb_⟩; have n1_ := below_step HB hb_; have n2_ := blk_below BV hb_; clear HB BV z0 z1 z2 z3 z4; have HB := n1_; have BV := n2_; clear n1_ n2_ hb_; have z0 := (blk_cell BV 0).trans rfl; have z1 := (blk_cell BV 1).trans rfl; have z2 := (blk_cell BV 2).trans rfl; have z3 := (blk_cell BV 3).trans rfl; have z4 := (blk_cell BV 4).trans rfl) | (go_at_call 22; (first | (with_reducible refine (m14 _ HB).mono ?_) | (with_reducible refine (m13 _ HB).mono ?_) | (with_reducible refine (m9 _ HB).mono ?_)); rintro e w1 ⟨rfl, hb_⟩; have n1_ := below_step HB hb_; have n2_ := blk_below BV hb_; clear HB BV z0 z1 z2 z3 z4; have HB := n1_; have BV := n2_; clear n1_ n2_ hb_; have z0 := (blk_cell BV 0).trans rfl; have z1 := (blk_cell BV 1).trans rfl; have z2 := (blk_cell BV 2).trans rfl; have z3 := (blk_cell BV 3).trans rfl; have z4 := (blk_cell BV 4).trans rfl) | (go_at_call 20; refine (awake_call _).mono ?_; rintro e w1 ⟨rfl, hb_⟩; have n1_ := below_step HB hb_; clear HB; have HB := n1_; clear n1_ hb_))
        go_ret
        exact ⟨by first | rfl | simp, HB⟩
theorem all_calls (x : S44) (A : Option Addr) (c : Nat) (w : World) (h : Small x) (hc : x.f4.length ≤ c) (hC : Kd.C k44 w A x.f4.length x.f4) :
    Calls Try.prog 9 #[.agg #[.int .i64 x.f0, .bool x.f1, .int .u64 x.f2, .string x.f3, .slice A x.f4.length c]] w fun e w' => e = .returned (.bool true) ∧ Below w.heap.size w w' := by
  by_cases h0 : chkK x = 0
  · refine all_walk x A c w h hc hC 0 true (goodK 1 x) (goodK 2 x) (goodK 0 x) (!goodK 1 x) (hasB 13 x) (hasB 9 x) ?_ ?_ ?_ ?_ h0 ?_ rfl rfl (.inr ⟨rfl, rfl, rfl, all_pack x, fun hd => ?_⟩)
    · rw [fits_in (by decide), if_pos h0, all_diag]
    · rw [fits_in (by decide), if_pos h0]
    · rw [fits_in (by decide), if_pos h0]
    · rw [fits_in (by decide), if_pos h0]
    · rw [all_cbor, Bool.not_not]
    · obtain ⟨h1, h2⟩ := all_json x hd
      exact ⟨by rw [all_cbor, h1]; rfl, h2⟩
  · refine all_walk x A c w h hc hC (chkK x) false false false false (hasB 14 x) (hasB 13 x) (hasB 9 x) ?_ ?_ ?_ ?_ rfl rfl rfl rfl (.inl ⟨bne_iff_ne.mpr h0, rfl, rfl, rfl, rfl⟩)
    · rw [fits_in (by decide), if_neg h0]
    · rw [fits_in (by decide), if_neg h0]
    · rw [fits_in (by decide), if_neg h0]
    · rw [fits_in (by decide), if_neg h0]
theorem small_child {l : List S44} {a : Int} {b : Bool} {n : Int} {d : ByteArray} {j : Nat} (h : Small ⟨a, b, n, d, l⟩) (hj : j < l.length) : Small (rd_T44 l (j : Int)) := by
  constructor
  · have h1 := child_len hj
    have h2 := h.1
    rw [preT, List.length_cons] at h2
    omega
  · intro t ht
    exact h.2 t (by rw [preT]; exact List.mem_cons_of_mem _ (mem_preL hj rfl ht))
/-- does a format say a value of a list, all of it? -/
def sayB (f : Int) (t : S44) : Bool := (fitsK f t).1 && (fitsK f t).2 == 0
set_option maxRecDepth 100000 in
set_option maxHeartbeats 16000000 in
theorem within_walk (f : Int) (l : List S44) (A : Option Addr) (c : Nat) (w : World) (h : Small ⟨11, false, 0, (⟨#[]⟩ : ByteArray), l⟩) (hc : l.length ≤ c) (hC : Kd.C k44 w A l.length l) (ok : Bool) (e0 : Int) (he : fitsK f ⟨11, false, 0, (⟨#[]⟩ : ByteArray), l⟩ = (ok, e0))
    (hq : ((e0 != 0) = true ∧ ok = false) ∨ ((e0 != 0) = false ∧ ok = l.all (sayB f))) :
    Calls Try.prog 8 #[.int .i64 f, .slice A l.length c] w fun e w' => e = .returned (.bool true) ∧ Below w.heap.size w w' := by
  have kX := fits_call f ⟨11, false, 0, (⟨#[]⟩ : ByteArray), l⟩ A c w h hc hC
  simp only [he] at kX
  clear he
  rcases hq with ⟨hE, rfl⟩ | ⟨hE, hok⟩
  · go_enter Try.func8, Try.ntmps8
    go_wp2_with (first | (go_at_call 19; (with_reducible refine kX.mono ?_); clear kX; rintro e w1 ⟨rfl, HB⟩) | (go_at_call 20; refine (awake_call _).mono ?_; rintro e w1 ⟨rfl, hb_⟩; have n1_ := below_step HB hb_; clear HB; have HB := n1_; clear n1_ hb_))
    go_ret
    exact ⟨rfl, HB⟩
  · have hok' : Hid _ := Lib.hid hok
    clear hok
    go_enter Try.func8, Try.ntmps8
    go_wp2_with (first | (go_at_call 19; (with_reducible refine kX.mono ?_); clear kX; rintro e w1 ⟨rfl, HB⟩))
    go_loopg [7, 8, 9, 10] l.length (fun kq v7 v8 v9 v10 wr => ∃ j : Nat, j + kq = l.length ∧ v8 = .int .i64 j ∧ v7 = .bool ((l.take j).all (sayB f)) ∧ Below w.heap.size w wr)
    case atStart => exact ⟨0, by omega, rfl, rfl, HB⟩
    case round =>
      clear HB
      obtain ⟨j, hj, rfl, rfl, HB⟩ := hrel
      obtain ⟨b7, hb7⟩ : ∃ b, (l.take j).all (sayB f) = b := ⟨_, rfl⟩
      rw [hb7]
      cases gk with
      | zero =>
        obtain rfl : j = l.length := by omega
        rw [List.take_of_length_le (Nat.le_refl _)] at hb7
        obtain rfl : ok = b7 := hok'.out.trans hb7
        clear hb7 hok'
        go_wp2_with (go_at_call 20; refine (awake_call _).mono ?_; rintro e w1 ⟨rfl, hb_⟩; have n1_ := below_step HB hb_; clear HB; have HB := n1_; clear n1_ hb_)
        go_ret
        exact ⟨by simp, HB⟩
      | succ d =>
        have hlt : (j : Int) < (l.length : Int) := by omega
        have hjl : j < l.length := by omega
        obtain ⟨ad, A4, c4, rfl, z0, z1, z2, z3, z4, hl4, hC4⟩ := at_T44 hC (j : Int) (by omega) hlt
        obtain ⟨t, ht⟩ : ∃ t, rd_T44 l (j : Int) = t := ⟨_, rfl⟩
        have hst := small_child h hjl
        rw [ht] at z0 z1 z2 z3 z4 hl4 hC4 hst
        simp only [Int.toNat_natCast] at z0 z1 z2 z3 z4
        have y0 := (HB.cell (World.block_lt_of_cell? _ _ z0)).trans z0
        have y1 := (HB.cell (World.block_lt_of_cell? _ _ z1)).trans z1
        have y2 := (HB.cell (World.block_lt_of_cell? _ _ z2)).trans z2
        have y3 := (HB.cell (World.block_lt_of_cell? _ _ z3)).trans z3
        have y4 := (HB.cell (World.block_lt_of_cell? _ _ z4)).trans z4
        clear z0 z1 z2 z3 z4
        obtain ⟨tb, te, hte⟩ : ∃ tb te, fitsK f t = (tb, te) := ⟨_, _, rfl⟩
        have kt := fits_call f t A4 c4 wr hst hl4 (Kd.C_below hC4 HB)
        simp only [hte] at kt
        have hnext : (l.take (j + 1)).all (sayB f) = (b7 && (tb && te == 0)) := by
          rw [List.take_succ_eq_append_getElem hjl, List.all_append, hb7]
          have h_ : l[j] = t := by rw [← ht]; unfold rd_T44; simp [List.getD_eq_getElem?_getD, List.getElem?_eq_getElem hjl]
          simp [h_, sayB, hte]
        have hn' : Hid _ := Lib.hid hnext
        have ht' : Hid _ := Lib.hid ht
        have hl63 : l.length < 9223372036854775807 := by have h1 := h.1; have h2 := len_preL l; rw [preT, List.length_cons] at h1; omega
        clear hnext hb7 ht hte
        cases b7
        case' true => cases tb
        all_goals
          go_wp2_with (go_at_call 19; (with_reducible refine kt.mono ?_); clear kt; rintro e w1 ⟨rfl, hb_⟩; have n1_ := below_step HB hb_; clear HB; have HB := n1_; clear n1_ hb_)
          go_roundg d
          case rel => exact ⟨j + 1, by omega, by go_num, by rw [hn'.out]; rfl, HB⟩
          case measure => omega
theorem checkL_zero {l : List S44} (h : checkL l = 0) : ∀ t ∈ l, rightK t = true := by
  induction l with
  | nil => intro t ht; cases ht
  | cons u l ih =>
    rw [checkL] at h
    split at h
    · rename_i hu
      intro t ht
      rcases List.mem_cons.1 ht with rfl | ht
      · exact hu
      · exact ih h t ht
    · cases h
theorem mem_preL_of {l : List S44} {t u : S44} (ht : t ∈ l) (hu : u ∈ preT t) : u ∈ preL l := by
  induction l with
  | nil => cases ht
  | cons x l ih =>
    rw [preL, List.mem_append]
    rcases List.mem_cons.1 ht with rfl | ht
    · exact .inl hu
    · exact .inr (ih ht)
theorem len_preT_mem {l : List S44} {t : S44} (ht : t ∈ l) : (preT t).length ≤ (preL l).length := by
  induction l with
  | nil => cases ht
  | cons x l ih =>
    rw [preL, List.length_append]
    rcases List.mem_cons.1 ht with rfl | ht
    · omega
    · have := ih ht; omega
theorem chk_child {a : Int} {b : Bool} {n : Int} {d : ByteArray} {l : List S44} (hlf : leafB a = false) (h : chkK ⟨a, b, n, d, l⟩ = 0) : ∀ t ∈ l, chkK t = 0 := by
  intro t ht
  unfold chkK at h ⊢
  split at h
  · cases h
  · rename_i h1
    split at h
    · cases h
    · rename_i h2
      have h3 := checkL_zero h
      have h4 := depL_mem ht
      rw [depT, hlf] at h1
      simp only [Bool.false_eq_true, if_false] at h1
      rw [preT, List.length_cons] at h2
      have h5 := len_preT_mem ht
      rw [if_neg (by omega), if_neg (by omega)]
      exact checkL_all (fun u hu => h3 u (by rw [preT]; exact List.mem_cons_of_mem _ (mem_preL_of ht hu)))
mutual
/-- the paths aside -/
theorem preS_nops : ∀ (t : S44) (ps qs : List Int) (k : Bool), (preS t ps k).map (fun d => (d.1, d.2.2)) = (preS t qs k).map (fun d => (d.1, d.2.2))
  | ⟨a, b, c, d, l⟩, ps, qs, k => by rw [preS, preS, List.map_cons, List.map_cons, preSL_nops]
theorem preSL_nops : ∀ (m : Bool) (l : List S44) (ps qs : List Int) (i : Nat), (preSL m l ps i).map (fun d => (d.1, d.2.2)) = (preSL m l qs i).map (fun d => (d.1, d.2.2))
  | _, [], _, _, _ => by rw [preSL, preSL]
  | m, t :: ts, ps, qs, i => by rw [preSL, preSL, List.map_append, List.map_append, preS_nops t _ (qs ++ [(i : Int)]), preSL_nops m ts ps qs]
end
def badG (f : Int) (d : S44 × Bool) : Bool := !saysK f d.1 || (d.2 && f == 0 && d.1.f0 != 10)
theorem bad_G (f : Int) (d : S44 × List Int × Bool) : badK f d = badG f (d.1, d.2.2) := rfl
theorem any_bad (f : Int) (l : List (S44 × List Int × Bool)) : l.any (badK f) = (l.map (fun d => (d.1, d.2.2))).any (badG f) := by
  rw [List.any_map]; rfl
theorem good_any (f : Int) (x : S44) : goodK f x = !(preS x [] false).any (badK f) := by
  cases h : (preS x [] false).any (badK f) with
  | false =>
    show goodK f x = true
    rw [good_iff]
    intro d hd
    have h1 := List.any_eq_false.1 h d hd
    simpa using h1
  | true =>
    show goodK f x = false
    rw [Bool.eq_false_iff]
    intro hg
    obtain ⟨d, hd, h1⟩ := List.any_eq_true.1 h
    rw [(good_iff f x).1 hg d hd] at h1
    cases h1
theorem any_kids (f : Int) (l : List S44) (ps : List Int) : ∀ i, (preSL false l ps i).any (badK f) = !l.all (goodK f) := by
  induction l with
  | nil => intro i; rw [preSL]; rfl
  | cons t l ih =>
    intro i
    rw [preSL, List.any_append, ih (i + 1), List.all_cons, Bool.false_and]
    rw [any_bad, preS_nops t (ps ++ [(i : Int)]) [] false, ← any_bad]
    rw [good_any]
    cases (preS t [] false).any (badK f) <;> simp
theorem says_list {f : Int} (hf : 0 ≤ f ∧ f ≤ 3) (l : List S44) : saysK f ⟨11, false, 0, (⟨#[]⟩ : ByteArray), l⟩ = true := by
  have h := saysK_eq f ⟨11, false, 0, (⟨#[]⟩ : ByteArray), l⟩
  unfold fits_says.f at h
  obtain rfl | rfl | rfl | rfl : f = 0 ∨ f = 1 ∨ f = 2 ∨ f = 3 := by omega
  · simpa using h.symm
  · simpa using h.symm
  · simpa [fits_says.j0] using h.symm
  · simpa using h.symm
theorem good_list {f : Int} (hf : 0 ≤ f ∧ f ≤ 3) (l : List S44) : goodK f ⟨11, false, 0, (⟨#[]⟩ : ByteArray), l⟩ = l.all (goodK f) := by
  rw [good_any, preS, List.any_cons]
  have h1 : badK f (⟨11, false, 0, (⟨#[]⟩ : ByteArray), l⟩, [], false) = false := by unfold badK; rw [says_list hf]; rfl
  have h2 : ((11 : Int) == 12) = false := rfl
  rw [h1, h2, any_kids, Bool.false_or, Bool.not_not]
theorem within_calls (f : Int) (l : List S44) (A : Option Addr) (c : Nat) (w : World) (h : Small ⟨11, false, 0, (⟨#[]⟩ : ByteArray), l⟩) (hc : l.length ≤ c) (hC : Kd.C k44 w A l.length l) :
    Calls Try.prog 8 #[.int .i64 f, .slice A l.length c] w fun e w' => e = .returned (.bool true) ∧ Below w.heap.size w w' := by
  by_cases hf : 0 ≤ f ∧ f ≤ 3
  · by_cases h0 : chkK ⟨11, false, 0, (⟨#[]⟩ : ByteArray), l⟩ = 0
    · refine within_walk f l A c w h hc hC _ 0 (by rw [fits_in hf, if_pos h0]) (.inr ⟨rfl, ?_⟩)
      rw [good_list hf]
      have h1 := chk_child (by decide) h0
      clear h hC hc h0
      induction l with
      | nil => rfl
      | cons t l ih =>
        rw [List.all_cons, List.all_cons, ih (fun u hu => h1 u (by simp [hu]))]
        have e : sayB f t = goodK f t := by unfold sayB; rw [fits_in hf, if_pos (h1 t (by simp))]; simp
        rw [e]
    · exact within_walk f l A c w h hc hC false _ (by rw [fits_in hf, if_neg h0]) (.inl ⟨bne_iff_ne.mpr h0, rfl⟩)
  · exact within_walk f l A c w h hc hC false 1 (by unfold fitsK; rw [if_neg hf]) (.inl ⟨rfl, rfl⟩)
end Go.Proofs.Ytfcfnnkepjoncaa.Hand
namespace Go.Proofs.Ytfcfnnkepjoncaa.Hand
open Go.Proofs.Ytfcfnnkepjoncaa.PC
theorem small_of {x : S44} (h : bulkL (preT x) ≤ 1048576) : Small x := ⟨by have := len_bulk (preT x); omega, fun t ht => by have := mem_bulk ht; omega⟩
theorem small_list {l : List S44} {a : Int} {b : Bool} {n : Int} (h : bulkL (preL l) + 1 ≤ 1048576) : Small ⟨a, b, n, (⟨#[]⟩ : ByteArray), l⟩ := by
  refine small_of ?_
  rw [preT]
  have e : bulkL ((⟨a, b, n, (⟨#[]⟩ : ByteArray), l⟩ : S44) :: preL l) = 0 + 1 + bulkL (preL l) := by simp [bulkL]; rfl
  rw [e]; omega
end Go.Proofs.Ytfcfnnkepjoncaa.Hand
