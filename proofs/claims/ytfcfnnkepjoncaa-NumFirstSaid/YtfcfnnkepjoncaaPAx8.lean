-- Written by wip/pp.py (a driver of the kit's print.py) for this claim
import Derived.Test.YtfcfnnkepjoncaaPAx0
import Derived.Test.YtfcfnnkepjoncaaPAx2
import Derived.Test.YtfcfnnkepjoncaaPAx6
import Derived.Test.YtfcfnnkepjoncaaHand1
namespace Go.Proofs.Ytfcfnnkepjoncaa.PA
open Go.RowKit Go.Proofs.YtfcfnnkepjoncaaW.PrintWords Go.Proofs.YtfcfnnkepjoncaaW.PrintLast Go.Proofs.YtfcfnnkepjoncaaW.PrintMore
attribute [local go_sem] max2_int min2_int max_two min_two max_three min_three max_four min_four   -- for this text's walks alone
set_option linter.unusedVariables false
set_option linter.unusedSimpArgs false

open Go.Proofs.Ytfcfnnkepjoncaa.Hand
/-! ### glossatorlaw07_NumFirst: function 7 -/
mutual
def glossatorlaw07_NumFirst.j0 : Nat → ByteArray → ByteArray → Int → Int → Bool → Option (Bool)
  | 0, _, _, _, _, _ => none
  | k + 1, x0, x1, x5, x6, x25 => if x25 = true then (some false) else (if x6 = 0 then (if 0 ≤ x5 then (if x5 ≤ (x0.size : Int) then ((num_Scan.f k (x0.extract 0 (x5 : Int).toNat)).bind fun bt122 => (if bt122.1 = x5 then (if bt122.2 = 0 then ((glossatorlaw07_awake.f k).bind fun t124 => (some t124)) else (some false)) else (some false))) else (none)) else (none)) else (if 0 ≤ x5 then (if x5 ≤ (x0.size : Int) then (if (x0.extract 0 (x5 : Int).toNat).size + 1 ≤ 9223372036854775807 then ((num_Scan.f k ((x0.extract 0 (x5 : Int).toNat) ++ (⟨#[49]⟩ : ByteArray))).bind fun bt125 => (if bt125.2 = 0 then (glossatorlaw07_NumFirst.j1 k x0 x1 x5 x6 (bt125.1 != (wrap64 (x5 + 1)))) else (glossatorlaw07_NumFirst.j1 k x0 x1 x5 x6 true))) else (none)) else (none)) else (none)))
def glossatorlaw07_NumFirst.j1 : Nat → ByteArray → ByteArray → Int → Int → Bool → Option (Bool)
  | 0, _, _, _, _, _ => none
  | k + 1, x0, x1, x5, x6, x60 => if x60 = true then (some false) else (if x6 = 3 then (some (x5 == (x0.size : Int))) else (if x5 = (x0.size : Int) then (some false) else (if x6 = 4 then (if 0 ≤ (wrap64 (x5 + 1)) then (if (wrap64 (x5 + 1)) ≤ (x0.size : Int) then (if (x0.extract 0 ((wrap64 (x5 + 1)) : Int).toNat).size + x1.size ≤ 9223372036854775807 then ((num_Scan.f k ((x0.extract 0 ((wrap64 (x5 + 1)) : Int).toNat) ++ x1)).bind fun bt127 => (if bt127.1 = x5 then (some (bt127.2 == 4)) else (some false))) else (none)) else (none)) else (none)) else (some false))))
end
def glossatorlaw07_NumFirst.f (k : Nat) (a0 : ByteArray) (a1 : ByteArray) : Option (Bool) := (num_Scan.f k a0).bind fun bt120 => (if bt120.1 < 0 then (glossatorlaw07_NumFirst.j0 k a0 a1 bt120.1 bt120.2 true) else (glossatorlaw07_NumFirst.j0 k a0 a1 bt120.1 bt120.2 (decide (bt120.1 > (a0.size : Int)))))
theorem glossatorlaw07_NumFirst.mono_l : ∀ k, (∀ y0 y1 y2 y3 y4, LeO (glossatorlaw07_NumFirst.j0 k y0 y1 y2 y3 y4) (glossatorlaw07_NumFirst.j0 (k + 1) y0 y1 y2 y3 y4)) ∧ (∀ y0 y1 y2 y3 y4, LeO (glossatorlaw07_NumFirst.j1 k y0 y1 y2 y3 y4) (glossatorlaw07_NumFirst.j1 (k + 1) y0 y1 y2 y3 y4))
  | 0 => ⟨fun _ _ _ _ _ r h => by simp [glossatorlaw07_NumFirst.j0] at h, fun _ _ _ _ _ r h => by simp [glossatorlaw07_NumFirst.j1] at h⟩
  | k + 1 => by
    obtain ⟨ih0, ih1⟩ := glossatorlaw07_NumFirst.mono_l k
    refine ⟨?_, ?_⟩
    · intro y0 y1 y2 y3 y4
      unfold glossatorlaw07_NumFirst.j0
      repeat' first
      | (with_reducible exact ih0 _ _ _ _ _)
      | (with_reducible exact ih1 _ _ _ _ _)
      | (with_reducible exact glossatorlaw07_awake.mono _)
      | (with_reducible exact num_Scan.mono _ _)
      | (with_reducible exact LeO.refl _)
      | (with_reducible exact LeO.none _)
      | (with_reducible refine LeO.ite ?_ ?_)
      | (with_reducible refine LeO.bind ?_ (fun _ => ?_))
      | exact ih0 _ _ _ _ _
      | exact ih1 _ _ _ _ _
      | exact glossatorlaw07_awake.mono _
      | exact num_Scan.mono _ _
      | exact LeO.none _
      | refine LeO.ite ?_ ?_
      | refine LeO.bind ?_ (fun _ => ?_)
    · intro y0 y1 y2 y3 y4
      unfold glossatorlaw07_NumFirst.j1
      repeat' first
      | (with_reducible exact ih0 _ _ _ _ _)
      | (with_reducible exact ih1 _ _ _ _ _)
      | (with_reducible exact glossatorlaw07_awake.mono _)
      | (with_reducible exact num_Scan.mono _ _)
      | (with_reducible exact LeO.refl _)
      | (with_reducible exact LeO.none _)
      | (with_reducible refine LeO.ite ?_ ?_)
      | (with_reducible refine LeO.bind ?_ (fun _ => ?_))
      | exact ih0 _ _ _ _ _
      | exact ih1 _ _ _ _ _
      | exact glossatorlaw07_awake.mono _
      | exact num_Scan.mono _ _
      | exact LeO.none _
      | refine LeO.ite ?_ ?_
      | refine LeO.bind ?_ (fun _ => ?_)
theorem glossatorlaw07_NumFirst.mono : ∀ a0 a1 k, LeO (glossatorlaw07_NumFirst.f k a0 a1) (glossatorlaw07_NumFirst.f (k + 1) a0 a1) := by
  intro a0 a1 k
  obtain ⟨ih0, ih1⟩ := glossatorlaw07_NumFirst.mono_l k
  unfold glossatorlaw07_NumFirst.f
  repeat' first
      | (with_reducible exact ih0 _ _ _ _ _)
      | (with_reducible exact ih1 _ _ _ _ _)
      | (with_reducible exact glossatorlaw07_awake.mono _)
      | (with_reducible exact num_Scan.mono _ _)
      | (with_reducible exact LeO.refl _)
      | (with_reducible exact LeO.none _)
      | (with_reducible refine LeO.ite ?_ ?_)
      | (with_reducible refine LeO.bind ?_ (fun _ => ?_))
      | exact ih0 _ _ _ _ _
      | exact ih1 _ _ _ _ _
      | exact glossatorlaw07_awake.mono _
      | exact num_Scan.mono _ _
      | exact LeO.none _
      | refine LeO.ite ?_ ?_
      | refine LeO.bind ?_ (fun _ => ?_)
set_option maxHeartbeats 8000000 in
set_option maxRecDepth 100000 in
theorem glossatorlaw07_NumFirst.calls (k : Nat) (a0 : ByteArray) (a1 : ByteArray) (r : Bool) (w : World) (h : glossatorlaw07_NumFirst.f k a0 a1 = some r) :
    Calls Try.prog 7 #[.string a0, .string a1] w fun e w' => e = .returned (.bool r) ∧ Below w.heap.size w w' := by
  have HB := Aside0.mk (Below.refl w.heap.size w)
  have H : ((num_Scan.f k a0).bind fun bt120 => (if bt120.1 < 0 then (glossatorlaw07_NumFirst.j0 k a0 a1 bt120.1 bt120.2 true) else (glossatorlaw07_NumFirst.j0 k a0 a1 bt120.1 bt120.2 (decide (bt120.1 > (a0.size : Int)))))) = some r := h
  clear h
  replace H := Option.bind_eq_some_iff.mp H
  obtain ⟨⟨t120, t121⟩, A30, H⟩ := H
  replace H : (if t120 < 0 then (glossatorlaw07_NumFirst.j0 k a0 a1 t120 t121 true) else (glossatorlaw07_NumFirst.j0 k a0 a1 t120 t121 (decide (t120 > (a0.size : Int))))) = some r := H
  have A3 := Aside0.mk A30
  clear A30
  have HC4 := Aside0.mk H
  clear H
  go_enter Try.func7, Try.ntmps7
  go_upto_region 2 with (first | ((with_reducible refine gate_callee (f := 16) rfl ?_); refine goesL_ (some 15) rfl rfl Try.func16 (by kernel_rfl) rfl #[.string a0] rfl (by (try simp only [List.map_toArray, List.map_cons, List.map_nil]); first | done | rfl | (simp only [List.length_drop, List.length_take]; rfl)) ?_; (with_reducible refine (num_Scan.calls k a0 t120 t121 _ A3.out).mono ?_); rintro e w5 ⟨rfl, hb⟩; refine ⟨_, rfl, ?_⟩; have n0_ := Aside0.mk (below_step (by repeat (first | (with_reducible first | exact HB.out | apply below_alloc | apply pw_below_drewN | apply below_drew1) | exact HB.out)) hb); clear HB; have HB := n0_; clear n0_; (try clear hb); (try clear hb2); (try clear hk); (try clear hi)))
  (try simp only [Act.put, List.setIfInBounds_toArray, List.set_cons_zero, List.set_cons_succ])
  go_cut [25] (fun v25 wc => ∃ (kq : Nat) (x25_3 : Bool), v25 = .bool x25_3 ∧ Aside0 (glossatorlaw07_NumFirst.j0 kq a0 a1 t120 t121 x25_3 = some r) ∧ Aside0 (kq ≤ k) ∧ Aside0 (Below w.heap.size w wc))
  case first =>
    have H := HC4.out
    clear HC4
    by_cases c6 : t120 < 0
    · rw [if_pos c6] at H
      have c6b0 : decide (t120 < 0) = true := decide_eq_true c6
      clear c6
      (first | rw [c6b0] | (simp only [i64_w, i32_w]; rw [c6b0]) | skip)
      have H' := Aside0.mk H
      clear H
      go_wp2
      go_meet
      case rel => exact ⟨_, (true), (by first | rfl | (simp; done) | (simp [*]; done)), (by first | exact H' | (subst_vars; exact H')), ⟨by first | omega | exact Nat.le_refl _⟩, ⟨by repeat (first | (with_reducible first | exact HB.out | apply below_alloc | apply pw_below_drewN | apply below_drew1) | exact HB.out)⟩⟩
    · rw [if_neg c6] at H
      have c6b0 : decide (t120 < 0) = false := decide_eq_false c6
      clear c6
      (first | rw [c6b0] | (simp only [i64_w, i32_w]; rw [c6b0]) | skip)
      have H' := Aside0.mk H
      clear H
      go_wp2
      go_meet
      case rel => exact ⟨_, (decide (t120 > (a0.size : Int))), (by first | rfl | (simp; done) | (simp [*]; done)), (by first | exact H' | (subst_vars; exact H')), ⟨by first | omega | exact Nat.le_refl _⟩, ⟨by repeat (first | (with_reducible first | exact HB.out | apply below_alloc | apply pw_below_drewN | apply below_drew1) | exact HB.out)⟩⟩
  case rest =>
    clear HC4
    try clear c1
    try clear p2
    try clear c6
    try clear c6b0
    obtain ⟨kq, x25_3, rfl, HA, HJ3, HB⟩ := hcut
    cases kq with
    | zero => exact absurd HA.out (by simp [glossatorlaw07_NumFirst.j0])
    | succ kj3 =>
      have H := HA.out
      clear HA
      simp only [glossatorlaw07_NumFirst.j0] at H
      by_cases c7 : x25_3 = true
      · subst c7
        have H1 : (some false) = some r := by rw [if_pos rfl] at H; exact H
        clear H
        have H := H1
        clear H1
        obtain rfl := Option.some.inj H
        go_wp2
        go_ret
        exact ⟨by first | rfl | (simp [errW_none, errW_some] <;> rfl) | (simp [*, errW_none, errW_some] <;> rfl), by repeat (first | (with_reducible first | exact HB.out | apply below_alloc | apply pw_below_drewN | apply below_drew1) | exact HB.out)⟩
      · replace c7 := Bool.eq_false_iff.mpr c7
        subst c7
        have H1 : (if t121 = 0 then (if 0 ≤ t120 then (if t120 ≤ (a0.size : Int) then ((num_Scan.f kj3 (a0.extract 0 (t120 : Int).toNat)).bind fun bt122 => (if bt122.1 = t120 then (if bt122.2 = 0 then ((glossatorlaw07_awake.f kj3).bind fun t124 => (some t124)) else (some false)) else (some false))) else (none)) else (none)) else (if 0 ≤ t120 then (if t120 ≤ (a0.size : Int) then (if (a0.extract 0 (t120 : Int).toNat).size + 1 ≤ 9223372036854775807 then ((num_Scan.f kj3 ((a0.extract 0 (t120 : Int).toNat) ++ (⟨#[49]⟩ : ByteArray))).bind fun bt125 => (if bt125.2 = 0 then (glossatorlaw07_NumFirst.j1 kj3 a0 a1 t120 t121 (bt125.1 != (wrap64 (t120 + 1)))) else (glossatorlaw07_NumFirst.j1 kj3 a0 a1 t120 t121 true))) else (none)) else (none)) else (none))) = some r := by rw [if_neg (show ¬ (false = true) by decide)] at H; exact H
        clear H
        have H := H1
        clear H1
        by_cases c8 : t121 = 0
        · rw [if_pos c8] at H
          have c8b0 : (t121 == 0) = true := beq_iff_eq.mpr c8
          have c8b1 : (t121 != 0) = false := bne_eq_false_iff_eq.mpr c8
          clear c8
          by_cases c9 : 0 ≤ t120
          · rw [if_pos c9] at H
            have c9b0 := eq_true c9
            have c9b1 : decide (0 ≤ t120) = true := decide_eq_true c9
            clear c9
            by_cases c10 : t120 ≤ (a0.size : Int)
            · rw [if_pos c10] at H
              have c10b0 := eq_true c10
              have c10b1 : decide (t120 ≤ (a0.size : Int)) = true := decide_eq_true c10
              clear c10
              replace H := Option.bind_eq_some_iff.mp H
              obtain ⟨⟨t122, t123⟩, A110, H⟩ := H
              replace H : (if t122 = t120 then (if t123 = 0 then ((glossatorlaw07_awake.f kj3).bind fun t124 => (some t124)) else (some false)) else (some false)) = some r := H
              have A11 := Aside0.mk A110
              clear A110
              by_cases c12 : t122 = t120
              · rw [if_pos c12] at H
                have c12b0 : (t122 == t120) = true := beq_iff_eq.mpr c12
                have c12b1 : (t122 != t120) = false := bne_eq_false_iff_eq.mpr c12
                clear c12
                by_cases c13 : t123 = 0
                · rw [if_pos c13] at H
                  have c13b0 : (t123 == 0) = true := beq_iff_eq.mpr c13
                  have c13b1 : (t123 != 0) = false := bne_eq_false_iff_eq.mpr c13
                  clear c13
                  replace H := Option.bind_eq_some_iff.mp H
                  obtain ⟨t124, A140, H⟩ := H
                  replace H : (some t124) = some r := H
                  have A14 := Aside0.mk A140
                  clear A140
                  obtain rfl := Option.some.inj H
                  go_wp2_with (first | ((with_reducible refine gate_callee (f := 16) rfl ?_); refine goesL_ (some 32) rfl rfl Try.func16 (by kernel_rfl) rfl #[.string (a0.extract 0 (t120 : Int).toNat)] rfl (by (try simp only [List.map_toArray, List.map_cons, List.map_nil]); first | done | rfl | (simp only [List.length_drop, List.length_take]; rfl)) ?_; (with_reducible refine (num_Scan.calls kj3 (a0.extract 0 (t120 : Int).toNat) t122 t123 _ A11.out).mono ?_); rintro e w15 ⟨rfl, hb⟩; refine ⟨_, rfl, ?_⟩; have n0_ := Aside0.mk (below_step (by repeat (first | (with_reducible first | exact HB.out | apply below_alloc | apply pw_below_drewN | apply below_drew1) | exact HB.out)) hb); clear HB; have HB := n0_; clear n0_; (try clear hb); (try clear hb2); (try clear hk); (try clear hi)) | (go_at_call 18; (with_reducible refine (glossatorlaw07_awake.calls kj3  t124 _ A14.out).mono ?_); rintro e w16 ⟨rfl, hb⟩; have n0_ := Aside0.mk (below_step (by repeat (first | (with_reducible first | exact HB.out | apply below_alloc | apply pw_below_drewN | apply below_drew1) | exact HB.out)) hb); clear HB; have HB := n0_; clear n0_; (try clear hb); (try clear hb2); (try clear hk); (try clear hi)))
                  go_ret
                  exact ⟨by first | rfl | (simp [errW_none, errW_some] <;> rfl) | (simp [*, errW_none, errW_some] <;> rfl), by repeat (first | (with_reducible first | exact HB.out | apply below_alloc | apply pw_below_drewN | apply below_drew1) | exact HB.out)⟩
                · rw [if_neg c13] at H
                  have c13b0 : (t123 == 0) = false := beq_eq_false_iff_ne.mpr c13
                  have c13b1 : (t123 != 0) = true := bne_iff_ne.mpr c13
                  obtain rfl := Option.some.inj H
                  go_wp2_with (first | ((with_reducible refine gate_callee (f := 16) rfl ?_); refine goesL_ (some 32) rfl rfl Try.func16 (by kernel_rfl) rfl #[.string (a0.extract 0 (t120 : Int).toNat)] rfl (by (try simp only [List.map_toArray, List.map_cons, List.map_nil]); first | done | rfl | (simp only [List.length_drop, List.length_take]; rfl)) ?_; (with_reducible refine (num_Scan.calls kj3 (a0.extract 0 (t120 : Int).toNat) t122 t123 _ A11.out).mono ?_); rintro e w17 ⟨rfl, hb⟩; refine ⟨_, rfl, ?_⟩; have n0_ := Aside0.mk (below_step (by repeat (first | (with_reducible first | exact HB.out | apply below_alloc | apply pw_below_drewN | apply below_drew1) | exact HB.out)) hb); clear HB; have HB := n0_; clear n0_; (try clear hb); (try clear hb2); (try clear hk); (try clear hi)))
                  go_ret
                  exact ⟨by first | rfl | (simp [errW_none, errW_some] <;> rfl) | (simp [*, errW_none, errW_some] <;> rfl), by repeat (first | (with_reducible first | exact HB.out | apply below_alloc | apply pw_below_drewN | apply below_drew1) | exact HB.out)⟩
              · rw [if_neg c12] at H
                have c12b0 : (t122 == t120) = false := beq_eq_false_iff_ne.mpr c12
                have c12b1 : (t122 != t120) = true := bne_iff_ne.mpr c12
                obtain rfl := Option.some.inj H
                go_wp2_with (first | ((with_reducible refine gate_callee (f := 16) rfl ?_); refine goesL_ (some 32) rfl rfl Try.func16 (by kernel_rfl) rfl #[.string (a0.extract 0 (t120 : Int).toNat)] rfl (by (try simp only [List.map_toArray, List.map_cons, List.map_nil]); first | done | rfl | (simp only [List.length_drop, List.length_take]; rfl)) ?_; (with_reducible refine (num_Scan.calls kj3 (a0.extract 0 (t120 : Int).toNat) t122 t123 _ A11.out).mono ?_); rintro e w18 ⟨rfl, hb⟩; refine ⟨_, rfl, ?_⟩; have n0_ := Aside0.mk (below_step (by repeat (first | (with_reducible first | exact HB.out | apply below_alloc | apply pw_below_drewN | apply below_drew1) | exact HB.out)) hb); clear HB; have HB := n0_; clear n0_; (try clear hb); (try clear hb2); (try clear hk); (try clear hi)))
                go_ret
                exact ⟨by first | rfl | (simp [errW_none, errW_some] <;> rfl) | (simp [*, errW_none, errW_some] <;> rfl), by repeat (first | (with_reducible first | exact HB.out | apply below_alloc | apply pw_below_drewN | apply below_drew1) | exact HB.out)⟩
            · rw [if_neg c10] at H
              exact absurd H (by simp)
          · rw [if_neg c9] at H
            exact absurd H (by simp)
        · rw [if_neg c8] at H
          have c8b0 : (t121 == 0) = false := beq_eq_false_iff_ne.mpr c8
          have c8b1 : (t121 != 0) = true := bne_iff_ne.mpr c8
          by_cases c19 : 0 ≤ t120
          · rw [if_pos c19] at H
            have c19b0 := eq_true c19
            have c19b1 : decide (0 ≤ t120) = true := decide_eq_true c19
            clear c19
            by_cases c20 : t120 ≤ (a0.size : Int)
            · rw [if_pos c20] at H
              have c20b0 := eq_true c20
              have c20b1 : decide (t120 ≤ (a0.size : Int)) = true := decide_eq_true c20
              clear c20
              by_cases c21 : (a0.extract 0 (t120 : Int).toNat).size + 1 ≤ 9223372036854775807
              · rw [if_pos c21] at H
                have c21b0 := eq_true c21
                have c21b1 : decide ((a0.extract 0 (t120 : Int).toNat).size + 1 ≤ 9223372036854775807) = true := decide_eq_true c21
                try have c21b2 : (9223372036854775807 < (a0.extract 0 (t120 : Int).toNat).size + 1) = False := eq_false (Nat.not_lt.2 c21)
                try have c21b3 : (9223372036854775807 < (t120 : Int).toNat + 1) = False := eq_false (by have h_ := c21; rw [ByteArray.size_extract] at h_; have h1_ := of_decide_eq_true ‹decide (t120 ≤ (a0.size : Int)) = true›; omega)
                replace H := Option.bind_eq_some_iff.mp H
                obtain ⟨⟨t125, t126⟩, A220, H⟩ := H
                replace H : (if t126 = 0 then (glossatorlaw07_NumFirst.j1 kj3 a0 a1 t120 t121 (t125 != (wrap64 (t120 + 1)))) else (glossatorlaw07_NumFirst.j1 kj3 a0 a1 t120 t121 true)) = some r := H
                have A22 := Aside0.mk A220
                clear A220
                have HC23 := Aside0.mk H
                clear H
                go_upto_region 8 with (first | ((with_reducible refine gate_callee (f := 16) rfl ?_); refine goesL_ (some 50) rfl rfl Try.func16 (by kernel_rfl) rfl #[.string ((a0.extract 0 (t120 : Int).toNat) ++ (⟨#[49]⟩ : ByteArray))] rfl (by (try simp only [List.map_toArray, List.map_cons, List.map_nil]); first | done | rfl | (simp only [List.length_drop, List.length_take]; rfl)) ?_; (with_reducible refine (num_Scan.calls kj3 ((a0.extract 0 (t120 : Int).toNat) ++ (⟨#[49]⟩ : ByteArray)) t125 t126 _ A22.out).mono ?_); rintro e w24 ⟨rfl, hb⟩; refine ⟨_, rfl, ?_⟩; have n0_ := Aside0.mk (below_step (by repeat (first | (with_reducible first | exact HB.out | apply below_alloc | apply pw_below_drewN | apply below_drew1) | exact HB.out)) hb); clear HB; have HB := n0_; clear n0_; (try clear hb); (try clear hb2); (try clear hk); (try clear hi)))
                (try simp only [Act.put, List.setIfInBounds_toArray, List.set_cons_zero, List.set_cons_succ])
                go_cut [60] (fun v60 wc => ∃ (kq : Nat) (x60_22 : Bool), v60 = .bool x60_22 ∧ Aside0 (glossatorlaw07_NumFirst.j1 kq a0 a1 t120 t121 x60_22 = some r) ∧ Aside0 (kq ≤ kj3) ∧ Aside0 (Below w.heap.size w wc))
                case first =>
                  have H := HC23.out
                  clear HC23
                  by_cases c25 : t126 = 0
                  · rw [if_pos c25] at H
                    have c25b0 : (t126 == 0) = true := beq_iff_eq.mpr c25
                    have c25b1 : (t126 != 0) = false := bne_eq_false_iff_eq.mpr c25
                    clear c25
                    (first | rw [c25b0] | (simp only [i64_w, i32_w]; rw [c25b0]) | skip)
                    have H' := Aside0.mk H
                    clear H
                    go_wp2
                    go_meet
                    case rel => exact ⟨_, ((t125 != (wrap64 (t120 + 1)))), (by first | rfl | (simp; done) | (simp [*]; done)), (by first | exact H' | (subst_vars; exact H')), ⟨by have := HJ3.out; first | omega | exact Nat.le_refl _⟩, ⟨by repeat (first | (with_reducible first | exact HB.out | apply below_alloc | apply pw_below_drewN | apply below_drew1) | exact HB.out)⟩⟩
                  · rw [if_neg c25] at H
                    have c25b0 : (t126 == 0) = false := beq_eq_false_iff_ne.mpr c25
                    have c25b1 : (t126 != 0) = true := bne_iff_ne.mpr c25
                    (first | rw [c25b0] | (simp only [i64_w, i32_w]; rw [c25b0]) | skip)
                    have H' := Aside0.mk H
                    clear H
                    go_wp2
                    go_meet
                    case rel => exact ⟨_, (true), (by first | rfl | (simp; done) | (simp [*]; done)), (by first | exact H' | (subst_vars; exact H')), ⟨by have := HJ3.out; first | omega | exact Nat.le_refl _⟩, ⟨by repeat (first | (with_reducible first | exact HB.out | apply below_alloc | apply pw_below_drewN | apply below_drew1) | exact HB.out)⟩⟩
                case rest =>
                  clear HC23
                  try clear c1
                  try clear c2
                  try clear p2
                  try clear c6
                  try clear c6b0
                  try clear p6
                  try clear c7
                  try clear c8
                  try clear c8b0
                  try clear c8b1
                  try clear c9
                  try clear c9b0
                  try clear c9b1
                  try clear c10
                  try clear c10b0
                  try clear c10b1
                  try clear c12
                  try clear c12b0
                  try clear c12b1
                  try clear c13
                  try clear c13b0
                  try clear c13b1
                  try clear c16
                  try clear c19
                  try clear c19b0
                  try clear c19b1
                  try clear c20
                  try clear c20b0
                  try clear c20b1
                  try clear c21
                  try clear c21b0
                  try clear c21b1
                  try clear c21b2
                  try clear c25
                  try clear c25b0
                  try clear c25b1
                  try clear p2
                  obtain ⟨kq, x60_22, rfl, HA, HJ22, HB⟩ := hcut
                  cases kq with
                  | zero => exact absurd HA.out (by simp [glossatorlaw07_NumFirst.j1])
                  | succ kj22 =>
                    have H := HA.out
                    clear HA
                    simp only [glossatorlaw07_NumFirst.j1] at H
                    by_cases c26 : x60_22 = true
                    · subst c26
                      have H1 : (some false) = some r := by rw [if_pos rfl] at H; exact H
                      clear H
                      have H := H1
                      clear H1
                      obtain rfl := Option.some.inj H
                      go_wp2
                      go_ret
                      exact ⟨by first | rfl | (simp [errW_none, errW_some] <;> rfl) | (simp [*, errW_none, errW_some] <;> rfl), by repeat (first | (with_reducible first | exact HB.out | apply below_alloc | apply pw_below_drewN | apply below_drew1) | exact HB.out)⟩
                    · replace c26 := Bool.eq_false_iff.mpr c26
                      subst c26
                      have H1 : (if t121 = 3 then (some (t120 == (a0.size : Int))) else (if t120 = (a0.size : Int) then (some false) else (if t121 = 4 then (if 0 ≤ (wrap64 (t120 + 1)) then (if (wrap64 (t120 + 1)) ≤ (a0.size : Int) then (if (a0.extract 0 ((wrap64 (t120 + 1)) : Int).toNat).size + a1.size ≤ 9223372036854775807 then ((num_Scan.f kj22 ((a0.extract 0 ((wrap64 (t120 + 1)) : Int).toNat) ++ a1)).bind fun bt127 => (if bt127.1 = t120 then (some (bt127.2 == 4)) else (some false))) else (none)) else (none)) else (none)) else (some false)))) = some r := by rw [if_neg (show ¬ (false = true) by decide)] at H; exact H
                      clear H
                      have H := H1
                      clear H1
                      by_cases c27 : t121 = 3
                      · rw [if_pos c27] at H
                        have c27b0 : (t121 == 3) = true := beq_iff_eq.mpr c27
                        have c27b1 : (t121 != 3) = false := bne_eq_false_iff_eq.mpr c27
                        clear c27
                        obtain rfl := Option.some.inj H
                        go_wp2
                        go_ret
                        exact ⟨by first | rfl | (simp [errW_none, errW_some] <;> rfl) | (simp [*, errW_none, errW_some] <;> rfl), by repeat (first | (with_reducible first | exact HB.out | apply below_alloc | apply pw_below_drewN | apply below_drew1) | exact HB.out)⟩
                      · rw [if_neg c27] at H
                        have c27b0 : (t121 == 3) = false := beq_eq_false_iff_ne.mpr c27
                        have c27b1 : (t121 != 3) = true := bne_iff_ne.mpr c27
                        by_cases c28 : t120 = (a0.size : Int)
                        · rw [if_pos c28] at H
                          have c28b0 : (t120 == (a0.size : Int)) = true := beq_iff_eq.mpr c28
                          have c28b1 : (t120 != (a0.size : Int)) = false := bne_eq_false_iff_eq.mpr c28
                          clear c28
                          obtain rfl := Option.some.inj H
                          go_wp2
                          go_ret
                          exact ⟨by first | rfl | (simp [errW_none, errW_some] <;> rfl) | (simp [*, errW_none, errW_some] <;> rfl), by repeat (first | (with_reducible first | exact HB.out | apply below_alloc | apply pw_below_drewN | apply below_drew1) | exact HB.out)⟩
                        · rw [if_neg c28] at H
                          have c28b0 : (t120 == (a0.size : Int)) = false := beq_eq_false_iff_ne.mpr c28
                          have c28b1 : (t120 != (a0.size : Int)) = true := bne_iff_ne.mpr c28
                          by_cases c29 : t121 = 4
                          · rw [if_pos c29] at H
                            have c29b0 : (t121 == 4) = true := beq_iff_eq.mpr c29
                            have c29b1 : (t121 != 4) = false := bne_eq_false_iff_eq.mpr c29
                            clear c29
                            obtain ⟨ji30, hji30⟩ : ∃ j_ : Int, (wrap64 (t120 + 1)) = j_ := ⟨_, rfl⟩
                            replace H : (if 0 ≤ (ji30) then (if (ji30) ≤ (a0.size : Int) then (if (a0.extract 0 ((ji30) : Int).toNat).size + a1.size ≤ 9223372036854775807 then ((num_Scan.f kj22 ((a0.extract 0 ((ji30) : Int).toNat) ++ a1)).bind fun bt127 => (if bt127.1 = t120 then (some (bt127.2 == 4)) else (some false))) else (none)) else (none)) else (none)) = some r := by first | (rw [hji30] at H; exact H) | (simp only [hji30] at H ⊢; exact H)
                            have hji30w : (IntKind.i64.wrap (t120 + 1)) = ji30 := (i64_w _).trans hji30
                            by_cases c31 : 0 ≤ (ji30)
                            · rw [if_pos c31] at H
                              have c31b0 := eq_true c31
                              have c31b1 : decide (0 ≤ (ji30)) = true := decide_eq_true c31
                              clear c31
                              by_cases c32 : (ji30) ≤ (a0.size : Int)
                              · rw [if_pos c32] at H
                                have c32b0 := eq_true c32
                                have c32b1 : decide ((ji30) ≤ (a0.size : Int)) = true := decide_eq_true c32
                                clear c32
                                by_cases c33 : (a0.extract 0 ((ji30) : Int).toNat).size + a1.size ≤ 9223372036854775807
                                · rw [if_pos c33] at H
                                  have c33b0 := eq_true c33
                                  have c33b1 : decide ((a0.extract 0 ((ji30) : Int).toNat).size + a1.size ≤ 9223372036854775807) = true := decide_eq_true c33
                                  try have c33b2 : (9223372036854775807 < (a0.extract 0 ((ji30) : Int).toNat).size + a1.size) = False := eq_false (Nat.not_lt.2 c33)
                                  try have c33b3 : (9223372036854775807 < ((ji30) : Int).toNat + a1.size) = False := eq_false (by have h_ := c33; rw [ByteArray.size_extract] at h_; have h1_ := of_decide_eq_true ‹decide ((ji30) ≤ (a0.size : Int)) = true›; omega)
                                  replace H := Option.bind_eq_some_iff.mp H
                                  obtain ⟨⟨t127, t128⟩, A340, H⟩ := H
                                  replace H : (if t127 = t120 then (some (t128 == 4)) else (some false)) = some r := H
                                  have A34 := Aside0.mk A340
                                  clear A340
                                  by_cases c35 : t127 = t120
                                  · rw [if_pos c35] at H
                                    have c35b0 : (t127 == t120) = true := beq_iff_eq.mpr c35
                                    have c35b1 : (t127 != t120) = false := bne_eq_false_iff_eq.mpr c35
                                    clear c35
                                    obtain rfl := Option.some.inj H
                                    go_wp2_with (first | ((with_reducible refine gate_callee (f := 16) rfl ?_); refine goesL_ (some 82) rfl rfl Try.func16 (by kernel_rfl) rfl #[.string ((a0.extract 0 ((ji30) : Int).toNat) ++ a1)] rfl (by (try simp only [List.map_toArray, List.map_cons, List.map_nil]); first | done | (simp only [hji30]; rfl) | rfl | (simp only [List.length_drop, List.length_take]; rfl)) ?_; (with_reducible refine (num_Scan.calls kj22 ((a0.extract 0 ((ji30) : Int).toNat) ++ a1) t127 t128 _ A34.out).mono ?_); rintro e w36 ⟨rfl, hb⟩; refine ⟨_, rfl, ?_⟩; have n0_ := Aside0.mk (below_step (by repeat (first | (with_reducible first | exact HB.out | apply below_alloc | apply pw_below_drewN | apply below_drew1) | exact HB.out)) hb); clear HB; have HB := n0_; clear n0_; (try clear hb); (try clear hb2); (try clear hk); (try clear hi)))
                                    go_ret
                                    exact ⟨by first | rfl | (simp [errW_none, errW_some] <;> rfl) | (simp only [← hji30]; first | rfl | (simp [errW_none, errW_some] <;> rfl)) | (simp [*, errW_none, errW_some] <;> rfl), by repeat (first | (with_reducible first | exact HB.out | apply below_alloc | apply pw_below_drewN | apply below_drew1) | exact HB.out)⟩
                                  · rw [if_neg c35] at H
                                    have c35b0 : (t127 == t120) = false := beq_eq_false_iff_ne.mpr c35
                                    have c35b1 : (t127 != t120) = true := bne_iff_ne.mpr c35
                                    obtain rfl := Option.some.inj H
                                    go_wp2_with (first | ((with_reducible refine gate_callee (f := 16) rfl ?_); refine goesL_ (some 82) rfl rfl Try.func16 (by kernel_rfl) rfl #[.string ((a0.extract 0 ((ji30) : Int).toNat) ++ a1)] rfl (by (try simp only [List.map_toArray, List.map_cons, List.map_nil]); first | done | (simp only [hji30]; rfl) | rfl | (simp only [List.length_drop, List.length_take]; rfl)) ?_; (with_reducible refine (num_Scan.calls kj22 ((a0.extract 0 ((ji30) : Int).toNat) ++ a1) t127 t128 _ A34.out).mono ?_); rintro e w37 ⟨rfl, hb⟩; refine ⟨_, rfl, ?_⟩; have n0_ := Aside0.mk (below_step (by repeat (first | (with_reducible first | exact HB.out | apply below_alloc | apply pw_below_drewN | apply below_drew1) | exact HB.out)) hb); clear HB; have HB := n0_; clear n0_; (try clear hb); (try clear hb2); (try clear hk); (try clear hi)))
                                    go_ret
                                    exact ⟨by first | rfl | (simp [errW_none, errW_some] <;> rfl) | (simp only [← hji30]; first | rfl | (simp [errW_none, errW_some] <;> rfl)) | (simp [*, errW_none, errW_some] <;> rfl), by repeat (first | (with_reducible first | exact HB.out | apply below_alloc | apply pw_below_drewN | apply below_drew1) | exact HB.out)⟩
                                · rw [if_neg c33] at H
                                  exact absurd H (by simp)
                              · rw [if_neg c32] at H
                                exact absurd H (by simp)
                            · rw [if_neg c31] at H
                              exact absurd H (by simp)
                          · rw [if_neg c29] at H
                            have c29b0 : (t121 == 4) = false := beq_eq_false_iff_ne.mpr c29
                            have c29b1 : (t121 != 4) = true := bne_iff_ne.mpr c29
                            obtain rfl := Option.some.inj H
                            go_wp2
                            go_ret
                            exact ⟨by first | rfl | (simp [errW_none, errW_some] <;> rfl) | (simp [*, errW_none, errW_some] <;> rfl), by repeat (first | (with_reducible first | exact HB.out | apply below_alloc | apply pw_below_drewN | apply below_drew1) | exact HB.out)⟩
              · rw [if_neg c21] at H
                exact absurd H (by simp)
            · rw [if_neg c20] at H
              exact absurd H (by simp)
          · rw [if_neg c19] at H
            exact absurd H (by simp)

/-- THE ONE PURE STATEMENT of glossatorlaw07_NumFirst: yours. -/
def glossatorlaw07_NumFirst.Pure : Prop := ∀ (a0 : ByteArray) (a1 : ByteArray), a0.size ≤ 140737488351232 → a1.size ≤ 140737488351232 → ∃ k, glossatorlaw07_NumFirst.f k a0 a1 = some true
theorem glossatorlaw07_NumFirst.walk (P : glossatorlaw07_NumFirst.Pure) (a0 : ByteArray) (a1 : ByteArray) (w : World) (w0 : a0.size ≤ 140737488351232) (w1 : a1.size ≤ 140737488351232) :
    Calls Try.prog 7 #[.string a0, .string a1] w fun e w' => e = .returned (.bool true) ∧ Below w.heap.size w w' := by
  obtain ⟨k, h⟩ := P a0 a1 w0 w1
  refine (glossatorlaw07_NumFirst.calls k a0 a1 true w h).mono ?_
  rintro e w' ⟨rfl, hd⟩
  exact ⟨rfl, hd⟩

end Go.Proofs.Ytfcfnnkepjoncaa.PA
