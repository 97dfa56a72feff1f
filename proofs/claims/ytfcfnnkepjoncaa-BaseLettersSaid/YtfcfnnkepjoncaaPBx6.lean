-- Written by wip/pp.py (a driver of the kit's print.py) for this claim
import Derived.Test.YtfcfnnkepjoncaaPBx0
import Derived.Test.YtfcfnnkepjoncaaPBx4
import Derived.Test.YtfcfnnkepjoncaaHand5
namespace Go.Proofs.Ytfcfnnkepjoncaa.PB
open Go.RowKit Go.Proofs.YtfcfnnkepjoncaaW.PrintWords Go.Proofs.YtfcfnnkepjoncaaW.PrintLast Go.Proofs.YtfcfnnkepjoncaaW.PrintMore
attribute [local go_sem] max2_int min2_int max_two min_two max_three min_three max_four min_four   -- for this text's walks alone
set_option linter.unusedVariables false
set_option linter.unusedSimpArgs false

open Go.Proofs.Ytfcfnnkepjoncaa.Hand
/-! ### glossatorlaw04_BaseLetters: function 4 -/
mutual
def glossatorlaw04_BaseLetters.j0 : Nat → ByteArray → ByteArray → Bool → Option (Bool)
  | 0, _, _, _ => none
  | k + 1, x3, x5, x56 => if x56 = true then (some false) else (glossatorlaw04_BaseLetters.l0 k x3 x5 0)
def glossatorlaw04_BaseLetters.l0 : Nat → ByteArray → ByteArray → Int → Option (Bool)
  | 0, _, _, _ => none
  | k + 1, x3, x5, x9 => if x9 < (x3.size : Int) then (if 0 ≤ x9 then (if x9 ≥ (x5.size : Int) then (if (bt x3 x9) = 61 then (glossatorlaw04_BaseLetters.l0 k x3 x5 (wrap64 (x9 + 1))) else (some false)) else (if (bt x3 x9) = 43 then (glossatorlaw04_BaseLetters.j2 k x3 x5 x9 45) else (glossatorlaw04_BaseLetters.j2 k x3 x5 x9 (bt x3 x9)))) else (none)) else ((glossatorlaw04_awake.f).bind fun t143 => (some t143))
def glossatorlaw04_BaseLetters.j2 : Nat → ByteArray → ByteArray → Int → Int → Option (Bool)
  | 0, _, _, _, _ => none
  | k + 1, x3, x5, x9, x10 => if x10 = 47 then (if 0 ≤ x9 then (if x9 < (x5.size : Int) then (if (bt x5 x9) = 95 then (glossatorlaw04_BaseLetters.l0 k x3 x5 (wrap64 (x9 + 1))) else (some false)) else (none)) else (none)) else (if 0 ≤ x9 then (if x9 < (x5.size : Int) then (if (bt x5 x9) = x10 then (glossatorlaw04_BaseLetters.l0 k x3 x5 (wrap64 (x9 + 1))) else (some false)) else (none)) else (none))
end
def glossatorlaw04_BaseLetters.f (k : Nat) (l0 : List Int) : Option (Bool) := if (l0.length : Int) > 10000 then ((glossatorlaw04_awake.f).bind fun t136 => (some t136)) else ((base_Encode.f 1 l0).bind fun bt137 => ((base_Encode.f 2 l0).bind fun bt139 => ((base_Encode.f 0 l0).bind fun bt141 => (if (bt141.1.size : Int) = (wrap64 (2 * (l0.length : Int))) then (if ((bt137.1.size : Int) % 4) = 0 then (if (bt139.1.size : Int) > (bt137.1.size : Int) then (glossatorlaw04_BaseLetters.j0 k bt137.1 bt139.1 true) else (glossatorlaw04_BaseLetters.j0 k bt137.1 bt139.1 (decide ((wrap64 ((bt137.1.size : Int) - (bt139.1.size : Int))) > 2)))) else (glossatorlaw04_BaseLetters.j0 k bt137.1 bt139.1 true)) else (glossatorlaw04_BaseLetters.j0 k bt137.1 bt139.1 true)))))
theorem glossatorlaw04_BaseLetters.mono_l : ∀ k, (∀ y0 y1 y2, LeO (glossatorlaw04_BaseLetters.j0 k y0 y1 y2) (glossatorlaw04_BaseLetters.j0 (k + 1) y0 y1 y2)) ∧ (∀ y0 y1 y2, LeO (glossatorlaw04_BaseLetters.l0 k y0 y1 y2) (glossatorlaw04_BaseLetters.l0 (k + 1) y0 y1 y2)) ∧ (∀ y0 y1 y2 y3, LeO (glossatorlaw04_BaseLetters.j2 k y0 y1 y2 y3) (glossatorlaw04_BaseLetters.j2 (k + 1) y0 y1 y2 y3))
  | 0 => ⟨fun _ _ _ r h => by simp [glossatorlaw04_BaseLetters.j0] at h, fun _ _ _ r h => by simp [glossatorlaw04_BaseLetters.l0] at h, fun _ _ _ _ r h => by simp [glossatorlaw04_BaseLetters.j2] at h⟩
  | k + 1 => by
    obtain ⟨ih0, ih1, ih2⟩ := glossatorlaw04_BaseLetters.mono_l k
    refine ⟨?_, ?_, ?_⟩
    · intro y0 y1 y2
      unfold glossatorlaw04_BaseLetters.j0
      repeat' first
      | (with_reducible exact ih0 _ _ _)
      | (with_reducible exact ih1 _ _ _)
      | (with_reducible exact ih2 _ _ _ _)
      | (with_reducible exact LeO.refl _)
      | (with_reducible exact LeO.none _)
      | (with_reducible refine LeO.ite ?_ ?_)
      | (with_reducible refine LeO.bind ?_ (fun _ => ?_))
      | exact ih0 _ _ _
      | exact ih1 _ _ _
      | exact ih2 _ _ _ _
      | exact LeO.none _
      | refine LeO.ite ?_ ?_
      | refine LeO.bind ?_ (fun _ => ?_)
    · intro y0 y1 y2
      unfold glossatorlaw04_BaseLetters.l0
      repeat' first
      | (with_reducible exact ih0 _ _ _)
      | (with_reducible exact ih1 _ _ _)
      | (with_reducible exact ih2 _ _ _ _)
      | (with_reducible exact LeO.refl _)
      | (with_reducible exact LeO.none _)
      | (with_reducible refine LeO.ite ?_ ?_)
      | (with_reducible refine LeO.bind ?_ (fun _ => ?_))
      | exact ih0 _ _ _
      | exact ih1 _ _ _
      | exact ih2 _ _ _ _
      | exact LeO.none _
      | refine LeO.ite ?_ ?_
      | refine LeO.bind ?_ (fun _ => ?_)
    · intro y0 y1 y2 y3
      unfold glossatorlaw04_BaseLetters.j2
      repeat' first
      | (with_reducible exact ih0 _ _ _)
      | (with_reducible exact ih1 _ _ _)
      | (with_reducible exact ih2 _ _ _ _)
      | (with_reducible exact LeO.refl _)
      | (with_reducible exact LeO.none _)
      | (with_reducible refine LeO.ite ?_ ?_)
      | (with_reducible refine LeO.bind ?_ (fun _ => ?_))
      | exact ih0 _ _ _
      | exact ih1 _ _ _
      | exact ih2 _ _ _ _
      | exact LeO.none _
      | refine LeO.ite ?_ ?_
      | refine LeO.bind ?_ (fun _ => ?_)
theorem glossatorlaw04_BaseLetters.mono : ∀ a0 k, LeO (glossatorlaw04_BaseLetters.f k a0) (glossatorlaw04_BaseLetters.f (k + 1) a0) := by
  intro a0 k
  obtain ⟨ih0, ih1, ih2⟩ := glossatorlaw04_BaseLetters.mono_l k
  unfold glossatorlaw04_BaseLetters.f
  repeat' first
      | (with_reducible exact ih0 _ _ _)
      | (with_reducible exact ih1 _ _ _)
      | (with_reducible exact ih2 _ _ _ _)
      | (with_reducible exact LeO.refl _)
      | (with_reducible exact LeO.none _)
      | (with_reducible refine LeO.ite ?_ ?_)
      | (with_reducible refine LeO.bind ?_ (fun _ => ?_))
      | exact ih0 _ _ _
      | exact ih1 _ _ _
      | exact ih2 _ _ _ _
      | exact LeO.none _
      | refine LeO.ite ?_ ?_
      | refine LeO.bind ?_ (fun _ => ?_)
set_option maxHeartbeats 8000000 in
set_option maxRecDepth 100000 in
theorem glossatorlaw04_BaseLetters.calls (k : Nat) (A0 : Option Addr) (c0 : Nat) (l0 : List Int) (r : Bool) (w : World) (hr0 : Kd.C (Kd.int .u8) w A0 l0.length l0) (hc0 : l0.length ≤ c0) (h : glossatorlaw04_BaseLetters.f k l0 = some r) :
    Calls Try.prog 4 #[.slice A0 l0.length c0] w fun e w' => e = .returned (.bool r) ∧ Below w.heap.size w w' := by
  have HR0 := Aside0.mk hr0
  have HC0 := Aside0.mk hc0
  clear hr0 hc0
  have HB := Aside0.mk (Below.refl w.heap.size w)
  have H : (if (l0.length : Int) > 10000 then ((glossatorlaw04_awake.f).bind fun t136 => (some t136)) else ((base_Encode.f 1 l0).bind fun bt137 => ((base_Encode.f 2 l0).bind fun bt139 => ((base_Encode.f 0 l0).bind fun bt141 => (if (bt141.1.size : Int) = (wrap64 (2 * (l0.length : Int))) then (if ((bt137.1.size : Int) % 4) = 0 then (if (bt139.1.size : Int) > (bt137.1.size : Int) then (glossatorlaw04_BaseLetters.j0 k bt137.1 bt139.1 true) else (glossatorlaw04_BaseLetters.j0 k bt137.1 bt139.1 (decide ((wrap64 ((bt137.1.size : Int) - (bt139.1.size : Int))) > 2)))) else (glossatorlaw04_BaseLetters.j0 k bt137.1 bt139.1 true)) else (glossatorlaw04_BaseLetters.j0 k bt137.1 bt139.1 true)))))) = some r := h
  clear h
  by_cases c2 : (l0.length : Int) > 10000
  · rw [if_pos c2] at H
    have c2b0 : decide (10000 < (l0.length : Int)) = true := decide_eq_true c2
    have c2b1 : decide (10000 < l0.length) = true := decide_eq_true (by omega)
    clear c2
    replace H := Option.bind_eq_some_iff.mp H
    obtain ⟨t136, A30, H⟩ := H
    replace H : (some t136) = some r := H
    have A3 := Aside0.mk A30
    clear A30
    obtain rfl := Option.some.inj H
    go_enter Try.func4, Try.ntmps4
    go_wp2_with (first | ((with_reducible refine gate_callee (f := 15) rfl ?_); refine goesL_ (some 14) rfl rfl Try.func15 (by kernel_rfl) rfl #[] rfl (by (try simp only [List.map_toArray, List.map_cons, List.map_nil]); first | done | rfl | (simp only [List.length_drop, List.length_take]; rfl)) ?_; (with_reducible refine (glossatorlaw04_awake.calls  t136 _ A3.out).mono ?_); rintro e w4 ⟨rfl, hb⟩; refine ⟨_, rfl, ?_⟩; have n0_ := Aside0.mk (below_step (by repeat (first | (with_reducible first | exact HB.out | apply below_alloc | apply pw_below_drewN | apply below_drew1) | exact HB.out)) hb); clear HB; have HB := n0_; clear n0_; (try clear hb); (try clear hb2); (try clear hk); (try clear hi)))
    go_ret
    exact ⟨by first | rfl | (simp [errW_none, errW_some] <;> rfl) | (simp [*, errW_none, errW_some] <;> rfl), by repeat (first | (with_reducible first | exact HB.out | apply below_alloc | apply pw_below_drewN | apply below_drew1) | exact HB.out)⟩
  · rw [if_neg c2] at H
    have c2b0 : decide (10000 < (l0.length : Int)) = false := decide_eq_false c2
    have c2b1 : decide (10000 < l0.length) = false := decide_eq_false (by omega)
    clear c2
    replace H := Option.bind_eq_some_iff.mp H
    obtain ⟨⟨t137, t138⟩, A50, H⟩ := H
    replace H : ((base_Encode.f 2 l0).bind fun bt139 => ((base_Encode.f 0 l0).bind fun bt141 => (if (bt141.1.size : Int) = (wrap64 (2 * (l0.length : Int))) then (if ((t137.size : Int) % 4) = 0 then (if (bt139.1.size : Int) > (t137.size : Int) then (glossatorlaw04_BaseLetters.j0 k t137 bt139.1 true) else (glossatorlaw04_BaseLetters.j0 k t137 bt139.1 (decide ((wrap64 ((t137.size : Int) - (bt139.1.size : Int))) > 2)))) else (glossatorlaw04_BaseLetters.j0 k t137 bt139.1 true)) else (glossatorlaw04_BaseLetters.j0 k t137 bt139.1 true)))) = some r := H
    have A5 := Aside0.mk A50
    clear A50
    replace H := Option.bind_eq_some_iff.mp H
    obtain ⟨⟨t139, t140⟩, A60, H⟩ := H
    replace H : ((base_Encode.f 0 l0).bind fun bt141 => (if (bt141.1.size : Int) = (wrap64 (2 * (l0.length : Int))) then (if ((t137.size : Int) % 4) = 0 then (if (t139.size : Int) > (t137.size : Int) then (glossatorlaw04_BaseLetters.j0 k t137 t139 true) else (glossatorlaw04_BaseLetters.j0 k t137 t139 (decide ((wrap64 ((t137.size : Int) - (t139.size : Int))) > 2)))) else (glossatorlaw04_BaseLetters.j0 k t137 t139 true)) else (glossatorlaw04_BaseLetters.j0 k t137 t139 true))) = some r := H
    have A6 := Aside0.mk A60
    clear A60
    replace H := Option.bind_eq_some_iff.mp H
    obtain ⟨⟨t141, t142⟩, A70, H⟩ := H
    replace H : (if (t141.size : Int) = (wrap64 (2 * (l0.length : Int))) then (if ((t137.size : Int) % 4) = 0 then (if (t139.size : Int) > (t137.size : Int) then (glossatorlaw04_BaseLetters.j0 k t137 t139 true) else (glossatorlaw04_BaseLetters.j0 k t137 t139 (decide ((wrap64 ((t137.size : Int) - (t139.size : Int))) > 2)))) else (glossatorlaw04_BaseLetters.j0 k t137 t139 true)) else (glossatorlaw04_BaseLetters.j0 k t137 t139 true)) = some r := H
    have A7 := Aside0.mk A70
    clear A70
    have HC8 := Aside0.mk H
    clear H
    go_enter Try.func4, Try.ntmps4
    go_upto_region 6 with (first | ((with_reducible refine gate_callee (f := 11) rfl ?_); refine goesL_ (some 17) rfl rfl Try.func11 (by kernel_rfl) rfl #[.int .i64 1, .slice A0 l0.length c0] rfl (by (try simp only [List.map_toArray, List.map_cons, List.map_nil]); first | done | rfl | (simp only [List.length_drop, List.length_take]; rfl)) ?_; (with_reducible refine (base_Encode.calls 1 _ _ l0 t137 t138 _ ?side1 ?side2 A5.out).mono ?_); (case side1 => repeat (first | exact HR0.out | (with_reducible refine Kd.C_alloc ?_ _) | (with_reducible refine Kd.C_drewN ?_ _) | (with_reducible refine Kd.C_drew ?_))); (case side2 => exact HC0.out); rintro e w9 ⟨rfl, hb⟩; refine ⟨_, rfl, ?_⟩; have n0_ := Aside0.mk (below_step (by repeat (first | (with_reducible first | exact HB.out | apply below_alloc | apply pw_below_drewN | apply below_drew1) | exact HB.out)) hb); clear HB; have HB := n0_; clear n0_; (try clear hb); (try clear hb2); (try clear hk); (try clear hi)) | ((with_reducible refine gate_callee (f := 11) rfl ?_); refine goesL_ (some 22) rfl rfl Try.func11 (by kernel_rfl) rfl #[.int .i64 2, .slice A0 l0.length c0] rfl (by (try simp only [List.map_toArray, List.map_cons, List.map_nil]); first | done | rfl | (simp only [List.length_drop, List.length_take]; rfl)) ?_; (with_reducible refine (base_Encode.calls 2 _ _ l0 t139 t140 _ ?side1 ?side2 A6.out).mono ?_); (case side1 => repeat (first | exact (Kd.C_below HR0.out HB.out) | (with_reducible refine Kd.C_alloc ?_ _) | (with_reducible refine Kd.C_drewN ?_ _) | (with_reducible refine Kd.C_drew ?_))); (case side2 => exact HC0.out); rintro e w10 ⟨rfl, hb⟩; refine ⟨_, rfl, ?_⟩; have n0_ := Aside0.mk (below_step (by repeat (first | (with_reducible first | exact HB.out | apply below_alloc | apply pw_below_drewN | apply below_drew1) | exact HB.out)) hb); clear HB; have HB := n0_; clear n0_; (try clear hb); (try clear hb2); (try clear hk); (try clear hi)) | ((with_reducible refine gate_callee (f := 11) rfl ?_); refine goesL_ (some 27) rfl rfl Try.func11 (by kernel_rfl) rfl #[.int .i64 0, .slice A0 l0.length c0] rfl (by (try simp only [List.map_toArray, List.map_cons, List.map_nil]); first | done | rfl | (simp only [List.length_drop, List.length_take]; rfl)) ?_; (with_reducible refine (base_Encode.calls 0 _ _ l0 t141 t142 _ ?side1 ?side2 A7.out).mono ?_); (case side1 => repeat (first | exact (Kd.C_below HR0.out HB.out) | (with_reducible refine Kd.C_alloc ?_ _) | (with_reducible refine Kd.C_drewN ?_ _) | (with_reducible refine Kd.C_drew ?_))); (case side2 => exact HC0.out); rintro e w11 ⟨rfl, hb⟩; refine ⟨_, rfl, ?_⟩; have n0_ := Aside0.mk (below_step (by repeat (first | (with_reducible first | exact HB.out | apply below_alloc | apply pw_below_drewN | apply below_drew1) | exact HB.out)) hb); clear HB; have HB := n0_; clear n0_; (try clear hb); (try clear hb2); (try clear hk); (try clear hi)))
    (try simp only [Act.put, List.setIfInBounds_toArray, List.set_cons_zero, List.set_cons_succ])
    go_cut [56] (fun v56 wc => ∃ (kq : Nat) (x56_7 : Bool), v56 = .bool x56_7 ∧ Aside0 (glossatorlaw04_BaseLetters.j0 kq t137 t139 x56_7 = some r) ∧ Aside0 (kq ≤ k) ∧ Aside0 (Below w.heap.size w wc))
    case first =>
      have H := HC8.out
      clear HC8
      by_cases c12 : (t141.size : Int) = (wrap64 (2 * (l0.length : Int)))
      · rw [if_pos c12] at H
        have c12b0 : ((t141.size : Int) == (wrap64 (2 * (l0.length : Int)))) = true := beq_iff_eq.mpr c12
        have c12b1 : ((t141.size : Int) != (wrap64 (2 * (l0.length : Int)))) = false := bne_eq_false_iff_eq.mpr c12
        clear c12
        (first | rw [c12b0] | (simp only [i64_w, i32_w]; rw [c12b0]) | skip)
        by_cases c13 : ((t137.size : Int) % 4) = 0
        · rw [if_pos c13] at H
          have c13b0 : (((t137.size : Int) % 4) == 0) = true := beq_iff_eq.mpr c13
          have c13b1 : (((t137.size : Int) % 4) != 0) = false := bne_eq_false_iff_eq.mpr c13
          clear c13
          by_cases c14 : (t139.size : Int) > (t137.size : Int)
          · rw [if_pos c14] at H
            have c14b0 : decide ((t137.size : Int) < (t139.size : Int)) = true := decide_eq_true c14
            have c14b1 : decide (t137.size < t139.size) = true := decide_eq_true (Int.ofNat_lt.mp c14)
            clear c14
            have H' := Aside0.mk H
            clear H
            go_wp2
            go_meet
            case rel => exact ⟨_, (true), (by first | rfl | (simp; done) | (simp [*]; done)), (by first | exact H' | (subst_vars; exact H')), ⟨by first | omega | exact Nat.le_refl _⟩, ⟨by repeat (first | (with_reducible first | exact HB.out | apply below_alloc | apply pw_below_drewN | apply below_drew1) | exact HB.out)⟩⟩
          · rw [if_neg c14] at H
            have c14b0 : decide ((t137.size : Int) < (t139.size : Int)) = false := decide_eq_false c14
            have c14b1 : decide (t137.size < t139.size) = false := decide_eq_false (fun h => c14 (Int.ofNat_lt.mpr h))
            clear c14
            have H' := Aside0.mk H
            clear H
            go_wp2
            go_meet
            case rel => exact ⟨_, (decide ((wrap64 ((t137.size : Int) - (t139.size : Int))) > 2)), (by first | rfl | (simp; done) | (simp [*]; done)), (by first | exact H' | (subst_vars; exact H')), ⟨by first | omega | exact Nat.le_refl _⟩, ⟨by repeat (first | (with_reducible first | exact HB.out | apply below_alloc | apply pw_below_drewN | apply below_drew1) | exact HB.out)⟩⟩
        · rw [if_neg c13] at H
          have c13b0 : (((t137.size : Int) % 4) == 0) = false := beq_eq_false_iff_ne.mpr c13
          have c13b1 : (((t137.size : Int) % 4) != 0) = true := bne_iff_ne.mpr c13
          have H' := Aside0.mk H
          clear H
          go_wp2
          go_meet
          case rel => exact ⟨_, (true), (by first | rfl | (simp; done) | (simp [*]; done)), (by first | exact H' | (subst_vars; exact H')), ⟨by first | omega | exact Nat.le_refl _⟩, ⟨by repeat (first | (with_reducible first | exact HB.out | apply below_alloc | apply pw_below_drewN | apply below_drew1) | exact HB.out)⟩⟩
      · rw [if_neg c12] at H
        have c12b0 : ((t141.size : Int) == (wrap64 (2 * (l0.length : Int)))) = false := beq_eq_false_iff_ne.mpr c12
        have c12b1 : ((t141.size : Int) != (wrap64 (2 * (l0.length : Int)))) = true := bne_iff_ne.mpr c12
        (first | rw [c12b0] | (simp only [i64_w, i32_w]; rw [c12b0]) | skip)
        have H' := Aside0.mk H
        clear H
        go_wp2
        go_meet
        case rel => exact ⟨_, (true), (by first | rfl | (simp; done) | (simp [*]; done)), (by first | exact H' | (subst_vars; exact H')), ⟨by first | omega | exact Nat.le_refl _⟩, ⟨by repeat (first | (with_reducible first | exact HB.out | apply below_alloc | apply pw_below_drewN | apply below_drew1) | exact HB.out)⟩⟩
    case rest =>
      clear HC8
      try clear c1
      try clear c2
      try clear c2b0
      try clear c2b1
      try clear p2
      try clear c4
      try clear p6
      try clear c11
      try clear c12
      try clear c12b0
      try clear c12b1
      try clear c13
      try clear c13b0
      try clear c13b1
      try clear c14
      try clear c14b0
      try clear c14b1
      obtain ⟨kq, x56_7, rfl, HA, HJ7, HB⟩ := hcut
      cases kq with
      | zero => exact absurd HA.out (by simp [glossatorlaw04_BaseLetters.j0])
      | succ kj7 =>
        have H := HA.out
        clear HA
        simp only [glossatorlaw04_BaseLetters.j0] at H
        by_cases c15 : x56_7 = true
        · subst c15
          have H1 : (some false) = some r := by rw [if_pos rfl] at H; exact H
          clear H
          have H := H1
          clear H1
          obtain rfl := Option.some.inj H
          go_wp2
          go_ret
          exact ⟨by first | rfl | (simp [errW_none, errW_some] <;> rfl) | (simp [*, errW_none, errW_some] <;> rfl), by repeat (first | (with_reducible first | exact HB.out | apply below_alloc | apply pw_below_drewN | apply below_drew1) | exact HB.out)⟩
        · replace c15 := Bool.eq_false_iff.mpr c15
          subst c15
          have H1 : (glossatorlaw04_BaseLetters.l0 kj7 t137 t139 0) = some r := by rw [if_neg (show ¬ (false = true) by decide)] at H; exact H
          clear H
          have H := H1
          clear H1
          have H' := Aside0.mk H
          clear H
          go_wp2
          go_loopg [9] kj7 (fun kq v9 w' => ∃ (x9_2 : Int), v9 = .int .i64 x9_2 ∧ Aside0 (glossatorlaw04_BaseLetters.l0 kq t137 t139 x9_2 = some r) ∧ Aside0 (kq ≤ kj7) ∧ Aside0 (Below w.heap.size w w'))
          case atStart => exact ⟨(0), (by first | rfl | (simp; done) | (simp [*]; done)), H', ⟨Nat.le_refl _⟩, ⟨by repeat (first | (with_reducible first | exact HB.out | apply below_alloc | apply pw_below_drewN | apply below_drew1) | exact HB.out)⟩⟩
          case round =>
            clear H'
            try clear c1
            try clear c2
            try clear c2b0
            try clear c2b1
            try clear p2
            try clear c4
            try clear p6
            try clear c11
            try clear c12
            try clear c12b0
            try clear c12b1
            try clear c13
            try clear c13b0
            try clear c13b1
            try clear c14
            try clear c14b0
            try clear c14b1
            try clear c15
            try clear p2
            try clear p6
            obtain ⟨x9_2, rfl, HA, HK2, HB⟩ := hrel
            cases gk with
            | zero => exact absurd HA.out (by simp [glossatorlaw04_BaseLetters.l0])
            | succ k2 =>
              have H := HA.out
              clear HA
              simp only [glossatorlaw04_BaseLetters.l0] at H
              by_cases c16 : x9_2 < (t137.size : Int)
              · rw [if_pos c16] at H
                have c16b0 : decide (x9_2 < (t137.size : Int)) = true := decide_eq_true c16
                clear c16
                by_cases c17 : 0 ≤ x9_2
                · rw [if_pos c17] at H
                  have c17b0 : decide (0 ≤ x9_2) = true := decide_eq_true c17
                  clear c17
                  by_cases c19 : x9_2 ≥ (t139.size : Int)
                  · rw [if_pos c19] at H
                    have c19b0 : decide ((t139.size : Int) ≤ x9_2) = true := decide_eq_true c19
                    clear c19
                    by_cases c20 : (bt t137 x9_2) = 61
                    · rw [if_pos c20] at H
                      have c20b0 : ((bt t137 x9_2) == 61) = true := beq_iff_eq.mpr c20
                      have c20b1 : ((bt t137 x9_2) != 61) = false := bne_eq_false_iff_eq.mpr c20
                      clear c20
                      have H' := Aside0.mk H
                      clear H
                      have p18 : 0 ≤ (x9_2 : Int) := of_decide_eq_true (by first | (with_reducible assumption) | assumption)
                      have q18 : x9_2 < (t137.size : Int) := of_decide_eq_true (by first | (with_reducible assumption) | assumption)
                      have hx18 := bt_at t137 x9_2
                      replace p18 := eq_true p18
                      replace q18 := eq_true q18
                      go_wp2
                      go_roundg k2
                      case measure => have := HJ7.out; have := HK2.out; omega
                      case rel => exact ⟨(wrap64 (x9_2 + 1)), (by first | rfl | (simp; done) | (simp [*]; done)), (by first | exact H' | (subst_vars; exact H')), ⟨by have := HJ7.out; have := HK2.out; omega⟩, ⟨by repeat (first | (with_reducible first | exact HB.out | apply below_alloc | apply pw_below_drewN | apply below_drew1) | exact HB.out)⟩⟩
                    · rw [if_neg c20] at H
                      have c20b0 : ((bt t137 x9_2) == 61) = false := beq_eq_false_iff_ne.mpr c20
                      have c20b1 : ((bt t137 x9_2) != 61) = true := bne_iff_ne.mpr c20
                      obtain rfl := Option.some.inj H
                      have p18 : 0 ≤ (x9_2 : Int) := of_decide_eq_true (by first | (with_reducible assumption) | assumption)
                      have q18 : x9_2 < (t137.size : Int) := of_decide_eq_true (by first | (with_reducible assumption) | assumption)
                      have hx18 := bt_at t137 x9_2
                      replace p18 := eq_true p18
                      replace q18 := eq_true q18
                      go_wp2
                      go_ret
                      exact ⟨by first | rfl | (simp [errW_none, errW_some] <;> rfl) | (simp [*, errW_none, errW_some] <;> rfl), by repeat (first | (with_reducible first | exact HB.out | apply below_alloc | apply pw_below_drewN | apply below_drew1) | exact HB.out)⟩
                  · rw [if_neg c19] at H
                    have c19b0 : decide ((t139.size : Int) ≤ x9_2) = false := decide_eq_false c19
                    clear c19
                    have HC21 := Aside0.mk H
                    clear H
                    have p18 : 0 ≤ (x9_2 : Int) := of_decide_eq_true (by first | (with_reducible assumption) | assumption)
                    have q18 : x9_2 < (t137.size : Int) := of_decide_eq_true (by first | (with_reducible assumption) | assumption)
                    have hx18 := bt_at t137 x9_2
                    replace p18 := eq_true p18
                    replace q18 := eq_true q18
                    go_upto_if 73 with (fail)
                    go_cut [10] (fun v10 wc => ∃ (kq : Nat) (x10_20 : Int), v10 = .int .u8 x10_20 ∧ Aside0 (glossatorlaw04_BaseLetters.j2 kq t137 t139 x9_2 x10_20 = some r) ∧ Aside0 (kq ≤ k2) ∧ Aside0 (Below w.heap.size w wc))
                    case first =>
                      have H := HC21.out
                      clear HC21
                      by_cases c22 : (bt t137 x9_2) = 43
                      · rw [if_pos c22] at H
                        have c22b0 : ((bt t137 x9_2) == 43) = true := beq_iff_eq.mpr c22
                        have c22b1 : ((bt t137 x9_2) != 43) = false := bne_eq_false_iff_eq.mpr c22
                        clear c22
                        (first | rw [c22b0] | (simp only [i64_w, i32_w]; rw [c22b0]) | skip)
                        have H' := Aside0.mk H
                        clear H
                        go_wp2
                        go_meet
                        case rel => exact ⟨_, (45), (by first | rfl | (simp; done) | (simp [*]; done)), (by first | exact H' | (subst_vars; exact H')), ⟨by have := HJ7.out; have := HK2.out; first | omega | exact Nat.le_refl _⟩, ⟨by repeat (first | (with_reducible first | exact HB.out | apply below_alloc | apply pw_below_drewN | apply below_drew1) | exact HB.out)⟩⟩
                      · rw [if_neg c22] at H
                        have c22b0 : ((bt t137 x9_2) == 43) = false := beq_eq_false_iff_ne.mpr c22
                        have c22b1 : ((bt t137 x9_2) != 43) = true := bne_iff_ne.mpr c22
                        (first | rw [c22b0] | (simp only [i64_w, i32_w]; rw [c22b0]) | skip)
                        have H' := Aside0.mk H
                        clear H
                        go_wp2
                        go_meet
                        case rel => exact ⟨_, (bt t137 x9_2), (by first | rfl | (simp; done) | (simp [*]; done)), (by first | exact H' | (subst_vars; exact H')), ⟨by have := HJ7.out; have := HK2.out; first | omega | exact Nat.le_refl _⟩, ⟨by repeat (first | (with_reducible first | exact HB.out | apply below_alloc | apply pw_below_drewN | apply below_drew1) | exact HB.out)⟩⟩
                    case rest =>
                      clear HC21
                      try clear c1
                      try clear p1
                      try clear q1
                      try clear hx1
                      try clear c2
                      try clear c2b0
                      try clear c2b1
                      try clear p2
                      try clear c4
                      try clear p6
                      try clear c11
                      try clear c12
                      try clear c12b0
                      try clear c12b1
                      try clear c13
                      try clear c13b0
                      try clear c13b1
                      try clear c14
                      try clear c14b0
                      try clear c14b1
                      try clear c15
                      try clear c16
                      try clear c16b0
                      try clear c17
                      try clear c17b0
                      try clear p18
                      try clear q18
                      try clear hx18
                      try clear c19
                      try clear c19b0
                      try clear c20
                      try clear c20b0
                      try clear c20b1
                      try clear c22
                      try clear c22b0
                      try clear c22b1
                      try clear p18
                      try clear p2
                      try clear p6
                      try clear q18
                      obtain ⟨kq, x10_20, rfl, HA, HJ20, HB⟩ := hcut
                      cases kq with
                      | zero => exact absurd HA.out (by simp [glossatorlaw04_BaseLetters.j2])
                      | succ kj20 =>
                        have H := HA.out
                        clear HA
                        simp only [glossatorlaw04_BaseLetters.j2] at H
                        by_cases c23 : x10_20 = 47
                        · rw [if_pos c23] at H
                          have c23b0 : (x10_20 == 47) = true := beq_iff_eq.mpr c23
                          have c23b1 : (x10_20 != 47) = false := bne_eq_false_iff_eq.mpr c23
                          clear c23
                          by_cases c24 : 0 ≤ x9_2
                          · rw [if_pos c24] at H
                            have c24b0 : decide (0 ≤ x9_2) = true := decide_eq_true c24
                            clear c24
                            by_cases c25 : x9_2 < (t139.size : Int)
                            · rw [if_pos c25] at H
                              have c25b0 : decide (x9_2 < (t139.size : Int)) = true := decide_eq_true c25
                              clear c25
                              by_cases c27 : (bt t139 x9_2) = 95
                              · rw [if_pos c27] at H
                                have c27b0 : ((bt t139 x9_2) == 95) = true := beq_iff_eq.mpr c27
                                have c27b1 : ((bt t139 x9_2) != 95) = false := bne_eq_false_iff_eq.mpr c27
                                clear c27
                                have H' := Aside0.mk H
                                clear H
                                have p26 : 0 ≤ (x9_2 : Int) := of_decide_eq_true (by first | (with_reducible assumption) | assumption)
                                have q26 : x9_2 < (t139.size : Int) := of_decide_eq_true (by first | (with_reducible assumption) | assumption)
                                have hx26 := bt_at t139 x9_2
                                replace p26 := eq_true p26
                                replace q26 := eq_true q26
                                go_wp2
                                go_roundg kj20
                                case measure => have := HJ7.out; have := HK2.out; have := HJ20.out; omega
                                case rel => exact ⟨(wrap64 (x9_2 + 1)), (by first | rfl | (simp; done) | (simp [*]; done)), (by first | exact H' | (subst_vars; exact H')), ⟨by have := HJ7.out; have := HK2.out; have := HJ20.out; omega⟩, ⟨by repeat (first | (with_reducible first | exact HB.out | apply below_alloc | apply pw_below_drewN | apply below_drew1) | exact HB.out)⟩⟩
                              · rw [if_neg c27] at H
                                have c27b0 : ((bt t139 x9_2) == 95) = false := beq_eq_false_iff_ne.mpr c27
                                have c27b1 : ((bt t139 x9_2) != 95) = true := bne_iff_ne.mpr c27
                                obtain rfl := Option.some.inj H
                                have p26 : 0 ≤ (x9_2 : Int) := of_decide_eq_true (by first | (with_reducible assumption) | assumption)
                                have q26 : x9_2 < (t139.size : Int) := of_decide_eq_true (by first | (with_reducible assumption) | assumption)
                                have hx26 := bt_at t139 x9_2
                                replace p26 := eq_true p26
                                replace q26 := eq_true q26
                                go_wp2
                                go_ret
                                exact ⟨by first | rfl | (simp [errW_none, errW_some] <;> rfl) | (simp [*, errW_none, errW_some] <;> rfl), by repeat (first | (with_reducible first | exact HB.out | apply below_alloc | apply pw_below_drewN | apply below_drew1) | exact HB.out)⟩
                            · rw [if_neg c25] at H
                              exact absurd H (by simp)
                          · rw [if_neg c24] at H
                            exact absurd H (by simp)
                        · rw [if_neg c23] at H
                          have c23b0 : (x10_20 == 47) = false := beq_eq_false_iff_ne.mpr c23
                          have c23b1 : (x10_20 != 47) = true := bne_iff_ne.mpr c23
                          by_cases c28 : 0 ≤ x9_2
                          · rw [if_pos c28] at H
                            have c28b0 : decide (0 ≤ x9_2) = true := decide_eq_true c28
                            clear c28
                            by_cases c29 : x9_2 < (t139.size : Int)
                            · rw [if_pos c29] at H
                              have c29b0 : decide (x9_2 < (t139.size : Int)) = true := decide_eq_true c29
                              clear c29
                              by_cases c31 : (bt t139 x9_2) = x10_20
                              · rw [if_pos c31] at H
                                have c31b0 : ((bt t139 x9_2) == x10_20) = true := beq_iff_eq.mpr c31
                                have c31b1 : ((bt t139 x9_2) != x10_20) = false := bne_eq_false_iff_eq.mpr c31
                                clear c31
                                have H' := Aside0.mk H
                                clear H
                                have p30 : 0 ≤ (x9_2 : Int) := of_decide_eq_true (by first | (with_reducible assumption) | assumption)
                                have q30 : x9_2 < (t139.size : Int) := of_decide_eq_true (by first | (with_reducible assumption) | assumption)
                                have hx30 := bt_at t139 x9_2
                                replace p30 := eq_true p30
                                replace q30 := eq_true q30
                                go_wp2
                                go_roundg kj20
                                case measure => have := HJ7.out; have := HK2.out; have := HJ20.out; omega
                                case rel => exact ⟨(wrap64 (x9_2 + 1)), (by first | rfl | (simp; done) | (simp [*]; done)), (by first | exact H' | (subst_vars; exact H')), ⟨by have := HJ7.out; have := HK2.out; have := HJ20.out; omega⟩, ⟨by repeat (first | (with_reducible first | exact HB.out | apply below_alloc | apply pw_below_drewN | apply below_drew1) | exact HB.out)⟩⟩
                              · rw [if_neg c31] at H
                                have c31b0 : ((bt t139 x9_2) == x10_20) = false := beq_eq_false_iff_ne.mpr c31
                                have c31b1 : ((bt t139 x9_2) != x10_20) = true := bne_iff_ne.mpr c31
                                obtain rfl := Option.some.inj H
                                have p30 : 0 ≤ (x9_2 : Int) := of_decide_eq_true (by first | (with_reducible assumption) | assumption)
                                have q30 : x9_2 < (t139.size : Int) := of_decide_eq_true (by first | (with_reducible assumption) | assumption)
                                have hx30 := bt_at t139 x9_2
                                replace p30 := eq_true p30
                                replace q30 := eq_true q30
                                go_wp2
                                go_ret
                                exact ⟨by first | rfl | (simp [errW_none, errW_some] <;> rfl) | (simp [*, errW_none, errW_some] <;> rfl), by repeat (first | (with_reducible first | exact HB.out | apply below_alloc | apply pw_below_drewN | apply below_drew1) | exact HB.out)⟩
                            · rw [if_neg c29] at H
                              exact absurd H (by simp)
                          · rw [if_neg c28] at H
                            exact absurd H (by simp)
                · rw [if_neg c17] at H
                  exact absurd H (by simp)
              · rw [if_neg c16] at H
                have c16b0 : decide (x9_2 < (t137.size : Int)) = false := decide_eq_false c16
                clear c16
                replace H := Option.bind_eq_some_iff.mp H
                obtain ⟨t143, A320, H⟩ := H
                replace H : (some t143) = some r := H
                have A32 := Aside0.mk A320
                clear A320
                obtain rfl := Option.some.inj H
                go_wp2_with (first | ((with_reducible refine gate_callee (f := 15) rfl ?_); refine goesL_ (some 81) rfl rfl Try.func15 (by kernel_rfl) rfl #[] rfl (by (try simp only [List.map_toArray, List.map_cons, List.map_nil]); first | done | rfl | (simp only [List.length_drop, List.length_take]; rfl)) ?_; (with_reducible refine (glossatorlaw04_awake.calls  t143 _ A32.out).mono ?_); rintro e w33 ⟨rfl, hb⟩; refine ⟨_, rfl, ?_⟩; have n0_ := Aside0.mk (below_step (by repeat (first | (with_reducible first | exact HB.out | apply below_alloc | apply pw_below_drewN | apply below_drew1) | exact HB.out)) hb); clear HB; have HB := n0_; clear n0_; (try clear hb); (try clear hb2); (try clear hk); (try clear hi)))
                go_ret
                exact ⟨by first | rfl | (simp [errW_none, errW_some] <;> rfl) | (simp [*, errW_none, errW_some] <;> rfl), by repeat (first | (with_reducible first | exact HB.out | apply below_alloc | apply pw_below_drewN | apply below_drew1) | exact HB.out)⟩

/-- THE ONE PURE STATEMENT of glossatorlaw04_BaseLetters: yours. -/
def glossatorlaw04_BaseLetters.Pure : Prop := ∀ (l0 : List Int), l0.length ≤ maxLen → l0.length * 1 ≤ 140737488351232 → (∀ x ∈ l0, (Lit.int .u8 x).wf = true) → ∃ k, glossatorlaw04_BaseLetters.f k l0 = some true
theorem glossatorlaw04_BaseLetters.walk (P : glossatorlaw04_BaseLetters.Pure) (a0 : Option Addr) (len0 cap0 : Nat) (z0 : List Int) (w : World) (w0 : (a0 = none ∧ len0 = 0 ∧ cap0 = 0 ∧ z0 = []) ∨ ∃ x, a0 = some x ∧ len0 ≤ cap0 ∧ cap0 ≤ maxLen ∧ z0.length = cap0 ∧ (∀ i, i < z0.length → w.cell? (x.add i) = some (.int .u8 (z0.getD i 0))) ∧ ∀ n ∈ z0, (Lit.int .u8 n).wf = true) (y0 : len0 * 1 ≤ 140737488351232) :
    Calls Try.prog 4 #[.slice a0 len0 cap0] w fun e w' => e = .returned (.bool true) ∧ Below w.heap.size w w' := by
  obtain ⟨l0, rfl, hr0, hm0, hw0, hc0⟩ := ReadsInt.ofRowC w0
  obtain ⟨k, h⟩ := P l0 hm0 y0 hw0
  refine (glossatorlaw04_BaseLetters.calls k _ _ l0 true w (Kd.C_of_reads (d := (0 : Int)) (h1 := fun _ => rfl) hr0) hc0 h).mono ?_
  rintro e w' ⟨rfl, hd⟩
  exact ⟨rfl, hd⟩

end Go.Proofs.Ytfcfnnkepjoncaa.PB
