/- fits.First where a tree may not be; fits.Fits: its contract, as the print has it. -/
import Derived.Test.YtfcfnnkepjoncaaHand17
namespace Go.Proofs.Ytfcfnnkepjoncaa.Hand
open Go.RowKit Go.Shelf Go.Proofs.YtfcfnnkepjoncaaW.PrintWords Go.Proofs.YtfcfnnkepjoncaaW.PrintLast Go.Proofs.YtfcfnnkepjoncaaW.PrintMore Go.Proofs.Ytfcfnnkepjoncaa.PC
attribute [local go_sem] Oper.semAt_some
set_option linter.unusedVariables false
set_option linter.unusedSimpArgs false
theorem right_true {f : Int} (h : 0 ≤ f ∧ f ≤ 3) : fits_right.f f = some true := by
  unfold fits_right.f; rw [if_pos h.1, decide_eq_true h.2]
theorem right_false {f : Int} (h : ¬ (0 ≤ f ∧ f ≤ 3)) : fits_right.f f = some false := by
  unfold fits_right.f
  by_cases h0 : f ≥ 0
  · rw [if_pos h0, decide_eq_false (by omega)]
  · rw [if_neg h0]
set_option maxRecDepth 100000 in
set_option maxHeartbeats 8000000 in
theorem first_wrong (f : Int) (x : S44) (A : Option Addr) (c : Nat) (w : World) (hf : fits_right.f f = some false) :
    CallsIn Fence.wide 4 Try.prog 23 #[.int .i64 f, .agg #[.int .i64 x.f0, .bool x.f1, .int .u64 x.f2, .string x.f3, .slice A x.f4.length c]] w fun e w' => e = .returned (.tuple #[.slice none 0 0, .bool false, .int .i64 1]) ∧ Below w.heap.size w w' := by
  refine callsIn_of_wp_marks Try.func23 rfl trivial ?_ rfl
  simp only [Try.ntmps23, List.size_toArray, List.length_cons, List.length_nil, Nat.reduceAdd, Nat.reduceSub, Array.replicate_succ, Array.replicate_zero, List.push_toArray, List.append_toArray, List.nil_append, List.cons_append]
  have B1 : Below w.heap.size w ((w.alloc (.cells #[.int .i64 f] 3)).alloc (.cells #[.int .i64 x.f0, .bool x.f1, .int .u64 x.f2, .string x.f3, .slice A x.f4.length c] 44)) := ((Below.refl _ w).alloc (Nat.le_refl _) _).alloc (by simp) _
  gi_wp2
  refine wpIn_wide.2 ?_
  apply wp_scope_straight
  refine (wpIn_wide (n := 4)).1 ?_
  gi_wp2_with (refine ⟨trivial, ?_⟩; gi_at_call 42; refine (callsIn_wide.2 (fits_right.calls f _ _ hf)).mono ?_; rintro e w' ⟨rfl, hd_⟩; have hb1 := hd_.below; clear hd_; have B2 := below_step B1 hb1)
  exact ⟨.tuple #[.slice none 0 0, .bool false, .int .i64 1], by simp [go_sem, results, Try.results23], rfl, B2⟩
set_option maxRecDepth 100000 in
set_option maxHeartbeats 8000000 in
theorem first_not (f : Int) (x : S44) (A : Option Addr) (c : Nat) (w : World) (k : Nat) (ce : Int) (hf : fits_right.f f = some true) (hchk : value_Check.f k x.f0 x.f1 x.f2 x.f3 x.f4 = some ce) (hce : ce ≠ 0) (hc : x.f4.length ≤ c) (hC : Kd.C k44 w A x.f4.length x.f4) :
    CallsIn Fence.wide 4 Try.prog 23 #[.int .i64 f, .agg #[.int .i64 x.f0, .bool x.f1, .int .u64 x.f2, .string x.f3, .slice A x.f4.length c]] w fun e w' => e = .returned (.tuple #[.slice none 0 0, .bool false, .int .i64 ce]) ∧ Below w.heap.size w w' := by
  have hce1 : (ce != 0) = true := bne_iff_ne.mpr hce
  clear hce
  refine callsIn_of_wp_marks Try.func23 rfl trivial ?_ rfl
  simp only [Try.ntmps23, List.size_toArray, List.length_cons, List.length_nil, Nat.reduceAdd, Nat.reduceSub, Array.replicate_succ, Array.replicate_zero, List.push_toArray, List.append_toArray, List.nil_append, List.cons_append]
  have B1 : Below w.heap.size w ((w.alloc (.cells #[.int .i64 f] 3)).alloc (.cells #[.int .i64 x.f0, .bool x.f1, .int .u64 x.f2, .string x.f3, .slice A x.f4.length c] 44)) := ((Below.refl _ w).alloc (Nat.le_refl _) _).alloc (by simp) _
  have bv1 : ((w.alloc (.cells #[.int .i64 f] 3)).alloc (.cells #[.int .i64 x.f0, .bool x.f1, .int .u64 x.f2, .string x.f3, .slice A x.f4.length c] 44)).heap[w.heap.size + 1]? = some (.cells #[.int .i64 x.f0, .bool x.f1, .int .u64 x.f2, .string x.f3, .slice A x.f4.length c] 44 (0, 0)) := by have h_ := heap_alloc_new (w.alloc (.cells #[.int .i64 f] 3)) (.cells #[.int .i64 x.f0, .bool x.f1, .int .u64 x.f2, .string x.f3, .slice A x.f4.length c] 44); rwa [World.size_alloc] at h_
  have C1 := Kd.C_below hC B1
  gi_wp2
  refine wpIn_wide.2 ?_
  apply wp_scope_straight
  refine (wpIn_wide (n := 4)).1 ?_
  gi_wp2_with (first
    | (refine ⟨trivial, ?_⟩; gi_at_call 42; refine (callsIn_wide.2 (fits_right.calls f _ _ hf)).mono ?_; rintro e w' ⟨rfl, hd_⟩; have hb1 := hd_.below; clear hd_; have bv2 := blk_below bv1 hb1; have k0 := (blk_cell bv2 0).trans rfl; have k1 := (blk_cell bv2 1).trans rfl; have k2 := (blk_cell bv2 2).trans rfl; have k3 := (blk_cell bv2 3).trans rfl; have k4 := (blk_cell bv2 4).trans rfl; have C2 := Kd.C_below C1 hb1; have B2 := below_step B1 hb1)
    | (refine ⟨trivial, ?_⟩; gi_at_call 21; refine (callsIn_wide.2 (value_Check.calls k _ _ _ _ A c _ _ _ C2 hc hchk)).mono ?_; rintro e w2 ⟨rfl, hb2⟩; have B3 := below_step B2 hb2))
  exact ⟨.tuple #[.slice none 0 0, .bool false, .int .i64 ce], by simp [go_sem, results, Try.results23], rfl, B3⟩
/-- fits.Fits, as a plain function -/
def fits_Fits.f (k : Nat) (a0 : Int) (a1_0 : Int) (a1_1 : Bool) (a1_2 : Int) (a1_3 : ByteArray) (l1_4 : List S44) : Option (Bool × Int) :=
  if 0 ≤ a0 ∧ a0 ≤ 3 then (value_Check.f k a1_0 a1_1 a1_2 a1_3 l1_4).bind fun e => if e = 0 then some (((preS ⟨a1_0, a1_1, a1_2, a1_3, l1_4⟩ [] false).find? (badK a0)).isNone, 0) else some (false, e) else some (false, 1)
theorem check_small {k : Nat} {x : S44} (h : value_Check.f k x.f0 x.f1 x.f2 x.f3 x.f4 = some 0) : (preT x).length ≤ 65536 := by
  obtain ⟨a, b, c, d, l⟩ := x
  dsimp only at h
  unfold value_Check.f at h
  obtain ⟨d, hd, h⟩ := Option.bind_eq_some_iff.1 h
  split at h
  · cases h
  · split at h
    · split at h
      · cases h
      · omega
    · cases h
set_option maxRecDepth 100000 in
set_option maxHeartbeats 8000000 in
/-- the walk of fits.Fits over what First answers -/
theorem fits_over (f : Int) (x : S44) (A : Option Addr) (c : Nat) (w : World) (b : Bool) (ce : Int) (hC : Kd.C k44 w A x.f4.length x.f4) (hf : ∀ W, Kd.C k44 W A x.f4.length x.f4 → CallsIn Fence.wide 4 Try.prog 23 #[.int .i64 f, .agg #[.int .i64 x.f0, .bool x.f1, .int .u64 x.f2, .string x.f3, .slice A x.f4.length c]] W fun e w' => ∃ p, e = .returned (.tuple #[p, .bool b, .int .i64 ce]) ∧ Below W.heap.size W w') :
    Calls Try.prog 19 #[.int .i64 f, .agg #[.int .i64 x.f0, .bool x.f1, .int .u64 x.f2, .string x.f3, .slice A x.f4.length c]] w fun e w' => e = .returned (.tuple #[.bool (!b && ce == 0), .int .i64 ce]) ∧ Below w.heap.size w w' := by
  have B1 : Below w.heap.size w (w.alloc (.cells #[.int .i64 x.f0, .bool x.f1, .int .u64 x.f2, .string x.f3, .slice A x.f4.length c] 44)) := ((Below.refl _ w).alloc (Nat.le_refl _) _)
  have hF := callsIn_wide.1 (hf _ (Kd.C_below hC B1))
  clear hf
  cases b
  · go_enter Try.func19, Try.ntmps19
    go_wp2_with (go_at_call 23; refine hF.mono ?_; rintro e w1 ⟨p, rfl, hb1⟩)
    go_ret2
    exact ⟨by simp, below_step B1 hb1⟩
  · go_enter Try.func19, Try.ntmps19
    go_wp2_with (go_at_call 23; refine hF.mono ?_; rintro e w1 ⟨p, rfl, hb1⟩)
    go_ret2
    exact ⟨by simp, below_step B1 hb1⟩
theorem fits_Fits.calls (k : Nat) (a0 : Int) (a1_0 : Int) (a1_1 : Bool) (a1_2 : Int) (a1_3 : ByteArray) (A1_4 : Option Addr) (c1_4 : Nat) (l1_4 : List S44) (r : Bool × Int) (w : World) (hr1_4 : Kd.C k44 w A1_4 l1_4.length l1_4) (hc1_4 : l1_4.length ≤ c1_4) (h : fits_Fits.f k a0 a1_0 a1_1 a1_2 a1_3 l1_4 = some r) :
    Calls Try.prog 19 #[.int .i64 a0, .agg #[.int .i64 a1_0, .bool a1_1, .int .u64 a1_2, .string a1_3, .slice A1_4 l1_4.length c1_4]] w fun e w' => e = .returned (.tuple #[.bool r.1, .int .i64 r.2]) ∧ Below w.heap.size w w' := by
  unfold fits_Fits.f at h
  split at h
  · rename_i hr
    obtain ⟨e, he, h⟩ := Option.bind_eq_some_iff.1 h
    split at h
    · rename_i he0
      subst he0
      cases h
      have hs := check_small (x := ⟨a1_0, a1_1, a1_2, a1_3, l1_4⟩) he
      refine (fits_over a0 ⟨a1_0, a1_1, a1_2, a1_3, l1_4⟩ A1_4 c1_4 w ((preS ⟨a1_0, a1_1, a1_2, a1_3, l1_4⟩ [] false).find? (badK a0)).isSome 0 hr1_4 (fun W hW => (first_tree a0 ⟨a1_0, a1_1, a1_2, a1_3, l1_4⟩ A1_4 c1_4 W k (right_true hr) he (by omega) hc1_4 hW).mono ?_)).mono ?_
      · rintro e w' ⟨p, b, rfl, hb, hm⟩
        refine ⟨p, ?_, hb⟩
        split at hm
        · rename_i h_; rw [h_, hm.2]; rfl
        · rename_i h_; rw [h_, hm.1]; rfl
      · rintro e w' ⟨rfl, hb⟩
        refine ⟨?_, hb⟩
        cases (preS ⟨a1_0, a1_1, a1_2, a1_3, l1_4⟩ [] false).find? (badK a0) <;> rfl
    · rename_i he0
      cases h
      refine (fits_over a0 ⟨a1_0, a1_1, a1_2, a1_3, l1_4⟩ A1_4 c1_4 w false e hr1_4 (fun W hW => (first_not a0 ⟨a1_0, a1_1, a1_2, a1_3, l1_4⟩ A1_4 c1_4 W k e (right_true hr) he he0 hc1_4 hW).mono ?_)).mono ?_
      · rintro e w' ⟨rfl, hb⟩
        exact ⟨_, rfl, hb⟩
      · rintro e' w' ⟨rfl, hb⟩
        refine ⟨?_, hb⟩
        rw [beq_eq_false_iff_ne.mpr he0]; rfl
  · rename_i hr
    cases h
    refine (fits_over a0 ⟨a1_0, a1_1, a1_2, a1_3, l1_4⟩ A1_4 c1_4 w false 1 hr1_4 (fun W hW => (first_wrong a0 ⟨a1_0, a1_1, a1_2, a1_3, l1_4⟩ A1_4 c1_4 W (right_false hr)).mono ?_)).mono ?_
    · rintro e w' ⟨rfl, hb⟩
      exact ⟨_, rfl, hb⟩
    · rintro e' w' ⟨rfl, hb⟩
      exact ⟨rfl, hb⟩
theorem fits_Fits.mono : ∀ a0 a1_0 a1_1 a1_2 a1_3 l1_4 k, LeO (fits_Fits.f k a0 a1_0 a1_1 a1_2 a1_3 l1_4) (fits_Fits.f (k + 1) a0 a1_0 a1_1 a1_2 a1_3 l1_4) := by
  intro f a b c d l k
  unfold fits_Fits.f
  exact LeO.ite (LeO.bind (value_Check.mono a b c d l k) (fun _ => LeO.refl _)) (LeO.refl _)
end Go.Proofs.Ytfcfnnkepjoncaa.Hand
