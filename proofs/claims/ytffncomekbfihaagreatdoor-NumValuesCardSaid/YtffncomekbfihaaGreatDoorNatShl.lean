/- nat.Shl. -/
import Derived.Test.YtffncomekbfihaaGreatDoorNatShr
import Derived.Maps.AppendAt
import Derived.Deep.RegionLaw
import Derived.Shelf.RegionOpen
namespace Go.Proofs.YtffncomekbfihaaGreatDoor.Nat
open Go.RowKit Go.Shelf
set_option linter.unusedVariables false
theorem step_append_own {P : Program} {ops : Array Oper} {o : Oper} {a : Act} {Q : Exit → Act → World → Prop} {K : Act → World → Prop} {E : Prop} {W : World} (hgd : o.guard = none) (s x : Operand) (t e : TypeId) (z : Value) (bytes base : Nat)
    (ho : o.op = .call { callee := .builtin .append, args := #[s, x], argTypes := #[t, t] })
    (ht : P.underlying t = some (.slice e)) (hinfo : (P.info? e).map (fun i => (i.zero, i.size, i.bytes)) = some (some z, 1, bytes)) (hz : z.cells.size = 1)
    (v : Value) (n : Nat) (xs : List Value) (hs : a.eval s = v) (hown : W.ownsRow base e 1 v n xs) (ad : Addr) (m c : Nat) (ys : List Value) (hx : a.eval x = .slice (some ad) m c)
    (hys : ys.length = m) (hnews : ∀ j u, ys[j]? = some u → W.cell? (ad.add j) = some u) (h1 : ∀ u ∈ ys, u.oneCell' = true) (b1 : n + m ≤ maxLen) (b2 : (n + m) * bytes ≤ 140737488355328) (b3 : base ≤ W.heap.size)
    (h : ∀ v1 w1, w1.ownsRow base e 1 v1 (n + m) (xs ++ ys) → W.grownBy w1 v.ownBlock → K (a.put o.dst v1) w1) :
    if Region.wanted o (yielded ops a.tmps) = true then Oper.wp P o a W K Q else E := by
  have hw : Region.wanted o (yielded ops a.tmps) = true := by simp [Region.wanted, hgd]
  rw [if_pos hw]
  obtain ⟨i0, hi, hzz⟩ := Option.map_eq_some_iff.1 hinfo
  simp only [Prod.mk.injEq] at hzz
  obtain ⟨hz0, hz1, hz2⟩ := hzz
  obtain ⟨v1, w1, hr, hown1, hg, _, _⟩ := run_append_own_at (P := P) W base t o.type e i0 z 1 bytes ht hi hz0 hz1 hz2 hz (by decide) v n xs hown ad m c ys (by rw [hys]; simp) hnews h1 b1 b2 b3
  unfold Oper.wp execOp
  simp only [ho, resolve, invoke, builtin, Sem.run_bind, Sem.run_pure, Result.andThen_ok, List.map_toArray, List.map_cons, List.map_nil, hs, hx, hr]
  exact h v1 w1 (by simpa using hown1) hg
theorem make_own {B : Nat} {W : World} (k : Nat) (hb : B ≤ W.heap.size) (hk : k ≤ maxLen) : (W.alloc (.cells (madeCells #[Value.int .u32 0] k) 53)).ownsRow B 53 1 (.slice (some ⟨W.heap.size, 0, none⟩) k k) k (cv (List.replicate k 0)) := by
  have h := World.ownsRow_lit (base := B) (e := 53) (size := 1) W (madeCells #[Value.int .u32 0] k) k hb hk ((size_madeCells _ _).trans (Nat.mul_one k).symm)
  rwa [toList_madeCells_one, ← cv_replicate] at h
theorem below_al {B : Nat} {w W : World} (h : Below B w W) (hB : B ≤ W.heap.size) (o : Obj) : Below B w (W.alloc o) := h.alloc hB o
theorem step_b {B : Nat} {w W w1 : World} (h : Below B w W) (hB : B ≤ W.heap.size) (h2 : Below W.heap.size W w1) : Below B w w1 := h.trans (h2.mono hB)
theorem own_news {w : World} {B T n c : Nat} {g : Nat} {l : List Nat} (h : w.ownsRow B T 1 (.slice (some ⟨g, 0, none⟩) n c) n (cv l)) : ∀ (j : Nat) (u : Value), (cv l)[j]? = some u → w.cell? ((⟨g, 0, none⟩ : Addr).add j) = some u := h.cells rfl
theorem told_own {W : World} {B g c n : Nat} {l : List Nat} (h : W.ownsRow B 53 1 (.slice (some ⟨g, 0, none⟩) n c) n (cv l)) (hO : Ok l) (hn : n ≤ 1099511627776) (hfit : (limbs (nv l)).length ≤ 4096) :
    Calls Tryz.prog 62 #[.slice (some ⟨g, 0, none⟩) n c] W fun e w' => ∃ v', e = .returned (.tuple #[v', .int .i64 0]) ∧ NatV w' v' (nv l) ∧ Below W.heap.size W w' := by
  have hnl : n = l.length := by have h1 := h.1; rw [cv_length] at h1; omega
  subst hnl
  exact told_calls _ l c W (own_good h hn).1 hO (by rw [tn_eq hO]; exact hfit)
theorem bl_mul {v n : Nat} (h : v ≠ 0) : bl (v * 2 ^ n) = bl v + n := by
  have h1 := bl_bounds h
  have e : bl v + n = (bl v - 1 + n) + 1 := by omega
  rw [e]
  refine bl_of ?_ ?_
  · rw [Nat.pow_add]; exact Nat.mul_le_mul_right _ h1.2.1
  · rw [show bl v - 1 + n + 1 = bl v + n by omega, Nat.pow_add]; exact Nat.mul_lt_mul_of_pos_right h1.2.2 (Nat.two_pow_pos n)
theorem limbs_bl {v L : Nat} (h : bl v ≤ 32 * L) : (limbs v).length ≤ L := by
  by_cases h0 : v = 0
  · rw [h0, limbs_zero]; exact Nat.zero_le _
  · refine limbs_len_le ?_
    rw [pow32]
    exact Nat.lt_of_lt_of_le (bl_bounds h0).2.2 (Nat.pow_le_pow_right (by decide) h)
theorem one_cv (l : List Nat) : ∀ u ∈ cv l, u.oneCell' = true := fun u hu => by obtain ⟨x, _, rfl⟩ := List.mem_map.1 hu; rfl
set_option maxHeartbeats 8000000 in
set_option maxRecDepth 100000 in
theorem shl_calls (A : Option Addr) (l : List Nat) (c n : Nat) (w : World) (hG : Good w (A, l, c)) (hO : Ok l) (h4 : nv l = 0 ∨ bl (nv l) + n ≤ 131072) (hz4 : tn l ≤ 4096) :
    Calls Tryz.prog 52 #[.slice A l.length c, .int .i64 (n : Int)] w fun e w' => ∃ v', e = .returned (.tuple #[v', .int .i64 0]) ∧ NatV w' v' (nv l * 2 ^ n) ∧ Below w.heap.size w w' := by
  have hle := tn_le l
  have hl := hG.2.2
  have hcc := hG.2.1
  dsimp only at hl hcc
  have hb0 := below_alloc w (.cells #[.slice A l.length c] 50)
  have k0 := fits_calls (some ⟨w.heap.size, 0, none⟩) [(A, l, c)] 1 _ (one_slat w A l c 50) (fun q hq => by simp at hq; subst hq; exact hG.below hb0) (by simp)
  rw [show ([(A, l, c)].all (fun q : Option Addr × List Nat × Nat => decide (tn q.2.1 ≤ 4096))) = true by simpa using hz4] at k0
  simp only [List.length_cons, List.length_nil, Nat.zero_add] at k0
  have k2 := fun W (hb : Below w.heap.size w W) => bits_calls A l c W (hG.below hb) hO
  by_cases h0 : nv l = 0
  · rw [h0] at k2 ⊢
    have k2' : ∀ W, Below w.heap.size w W → Calls Tryz.prog 90 #[.slice A l.length c] W fun e w' => e = .returned (.int .i64 0) ∧ Below W.heap.size W w' := k2
    clear k2
    have hnn : ¬ (n : Int) < 0 := by omega
    go_enter Tryz.func52, Tryz.ntmps52
    go_wp2_with (first | (go_at_call 56; (with_reducible refine k0.mono ?_); clear k0; rintro e1 w1 ⟨rfl, hb1⟩; have hb4 := below_step hb0 hb1) | (go_at_call 90; (with_reducible refine (k2' _ hb4).mono ?_); clear k2'; rintro e2 w3 ⟨rfl, hb5⟩; have hb6 := below_step hb4 hb5))
    go_ret2
    refine ⟨_, rfl, ?_, hb6⟩
    rw [Nat.zero_mul]
    exact ⟨none, 0, by rw [limbs_zero]; rfl, by rw [limbs_zero]; exact Nat.le_refl _, by rw [limbs_zero]; exact rd_nil _ _⟩
  · have h4' : bl (nv l) + n ≤ 131072 := by omega
    have hbl := bl_bounds h0
    have q0 : ¬ (bl (nv l) : Int) = 0 := by omega
    have q1 : ¬ (131072 : Int) - (bl (nv l) : Int) < (n : Int) := by omega
    have hnn : ¬ (n : Int) < 0 := by omega
    obtain ⟨i0, hi, hz0, hz1, hz2⟩ := info_parts info40
    obtain ⟨k, hk⟩ : ∃ k, n / 32 = k := ⟨_, rfl⟩
    obtain ⟨m, hm⟩ : ∃ m, n % 32 = m := ⟨_, rfl⟩
    have hm32 : m < 32 := by omega
    have hkI : Int.tdiv (n : Int) 32 = (k : Int) := by rw [Int.tdiv_eq_ediv_of_nonneg (by omega)]; omega
    have hmI : Int.tmod (n : Int) 32 = (m : Int) := by rw [Int.tmod_eq_emod_of_nonneg (by omega)]; omega
    have hkw : IntKind.i64.wrap (k : Int) = (k : Int) := by rw [IntKind.wrap_i64]; omega
    have hmw : IntKind.i64.wrap (m : Int) = (m : Int) := by rw [IntKind.wrap_i64]; omega
    have hkI2 : (n : Int) / 32 = (k : Int) := by omega
    have hmI2 : (n : Int) % 32 = (m : Int) := by omega
    have hmk : ∀ W, (Instr.makeSlice 50 (.int .i64 (k : Int)) (.int .i64 (k : Int))).run Tryz.prog W = .ok (.slice (some ⟨W.heap.size, 0, none⟩) k k) (W.alloc (.cells (madeCells #[Value.int .u32 0] k) 53)) := fun W => by
      have h_ := run_make (P := Tryz.prog) W 50 53 i0 (.int .u32 0) Tryz.underlying50 hi hz0 .i64 .i64 k k (by omega) (by omega) (by rw [hz2]; omega) (by omega)
      rw [hz1, Nat.mul_one] at h_
      exact h_
    have k1 := fun W (hb : Below w.heap.size w W) => trim_calls A l c W (hG.1.below hb) hG.2.1 hG.2.2
    have hT := tl_length l
    have k3 : ∀ W, Below w.heap.size w W → Calls Tryz.prog 100 #[.slice A (tl l).length c, .int .i64 (m : Int), .int .i64 1] W fun e w' => ∃ v' o, e = .returned v' ∧ w'.ownsRow W.heap.size 53 1 v' ((tl l).length + 1) (cv o) ∧ Ok o ∧ o.length = (tl l).length + 1 ∧ nv o = nv (tl l) * 2 ^ m ∧ Below W.heap.size W w' := fun W (hb : Below w.heap.size w W) => left_calls A (tl l) c m 1 W ((hG.1.below hb).take _) (by rw [hT]; omega) (by rw [hT]; omega) (ok_tl hO) hm32 (.inl rfl)
    rw [hT, nv_tl hO] at k3
    have hbn : bl (nv l * 2 ^ n) ≤ 32 * 4096 := by rw [bl_mul h0]; omega
    have hfit := limbs_bl hbn
    clear hbn
    generalize bl (nv l) = b at *
    clear hbl h4'
    have HFIT : Hid _ := Lib.hid hfit
    clear hfit
    go_enter Tryz.func52, Tryz.ntmps52
    go_wp2_with (first | (go_at_call 56; (with_reducible refine k0.mono ?_); clear k0; rintro e1 w1 ⟨rfl, hb1⟩; have hb4 := below_step hb0 hb1) | (go_at_call 90; (with_reducible refine (k2 _ hb4).mono ?_); rintro e2 w3 ⟨rfl, hb5⟩; have hb6 := below_step hb4 hb5) | (go_at_call 90; (with_reducible refine (k2 _ hb6).mono ?_); clear k2; rintro e3 w5 ⟨rfl, hb7⟩; have hb8 := below_step hb6 hb7))
    clear hb0 hb1 hb4 hb5 hb6 hb7 hnn q0 q1 hi hz0 hz1 hz2 hkI2 hmI2
    have hk63 : k ≤ maxLen := by unfold maxLen; omega
    have hbN := hb8.drew
    have hbA := (below_al hb8 hb8.size (.cells (madeCells #[Value.int .u32 0] k) 53)).drew
    have hmA := (make_own (W := w5) k hb8.size hk63).drew
    generalize tn l = N at *
    go_region_law (first
      | (go_simp; go_at_call 58; (first | (with_reducible refine (k1 _ hbA).mono ?_) | (with_reducible refine (k1 _ hbN).mono ?_)); rintro e5 w6 ⟨rfl, hb9⟩)
      | (go_simp; go_at_call 100; (first | refine (k3 _ (step_b hbA hbA.size hb9)).mono ?_ | refine (k3 _ (step_b hbN hbN.size hb9)).mono ?_ | refine (k3 _ (below_al (step_b hbN hbN.size hb9) (step_b hbN hbN.size hb9).size _)).mono ?_); rintro e6 w7 ⟨v', o, rfl, hown7, hoO, hol, hov, hb10⟩; obtain ⟨g7, c7, rfl⟩ := own_form hown7 (by omega))
      | (have hW := step_b (step_b hbA hbA.size hb9) (step_b hbA hbA.size hb9).size hb10; have hz := own_keep (own_keep hmA hb9) hb10; refine step_append_own rfl (.tmp 26) (.tmp 31) 50 53 (.int .u32 0) 4 w.heap.size rfl Tryz.underlying50 info40 rfl _ k _ (by rfl) hz ⟨g7, 0, none⟩ (N + 1) c7 (cv o) (by rfl) (by rw [cv_length]; exact hol) (own_news hown7) (one_cv o) (by unfold maxLen; omega) (by omega) hW.size ?_; intro v1 w8 hown8 hg8; have hb12 := hW.grown hg8 hW.size (own_lo hz); obtain ⟨g8, c8, rfl⟩ := own_form hown8 (by omega); rw [← cv_append] at hown8)
      | (have hW := step_b (below_al (step_b hbN hbN.size hb9) (step_b hbN hbN.size hb9).size (.cells (madeCells #[Value.int .u32 0] k) 53)) (below_al (step_b hbN hbN.size hb9) (step_b hbN hbN.size hb9).size (.cells (madeCells #[Value.int .u32 0] k) 53)).size hb10; have hz := own_keep (make_own (W := w6) k (step_b hbN hbN.size hb9).size hk63) hb10; refine step_append_own rfl (.tmp 26) (.tmp 31) 50 53 (.int .u32 0) 4 w.heap.size rfl Tryz.underlying50 info40 rfl _ k _ (by rfl) hz ⟨g7, 0, none⟩ (N + 1) c7 (cv o) (by rfl) (by rw [cv_length]; exact hol) (own_news hown7) (one_cv o) (by unfold maxLen; omega) (by omega) hW.size ?_; intro v1 w8 hown8 hg8; have hb12 := hW.grown hg8 hW.size (own_lo hz); obtain ⟨g8, c8, rfl⟩ := own_form hown8 (by omega); rw [← cv_append] at hown8)
      | (have hW := below_al (step_b (step_b hbN hbN.size hb9) (step_b hbN hbN.size hb9).size hb10) (step_b (step_b hbN hbN.size hb9) (step_b hbN hbN.size hb9).size hb10).size (.cells (madeCells #[Value.int .u32 0] k) 53); have hz := make_own (W := w7) k (step_b (step_b hbN hbN.size hb9) (step_b hbN hbN.size hb9).size hb10).size hk63; refine step_append_own rfl (.tmp 26) (.tmp 31) 50 53 (.int .u32 0) 4 w.heap.size rfl Tryz.underlying50 info40 rfl _ k _ (by rfl) hz ⟨g7, 0, none⟩ (N + 1) c7 (cv o) (by rfl) (by rw [cv_length]; exact hol) (own_news (hown7.alloc _)) (one_cv o) (by unfold maxLen; omega) (by omega) hW.size ?_; intro v1 w8 hown8 hg8; have hb12 := hW.grown hg8 hW.size (own_lo hz); obtain ⟨g8, c8, rfl⟩ := own_form hown8 (by omega); rw [← cv_append] at hown8)
      | (have hzo : nv (List.replicate k 0 ++ o) = nv l * 2 ^ n := by (rw [nv_append, nv_replicate, List.length_replicate, hov, pow32, Nat.zero_add, Nat.mul_comm, Nat.mul_assoc, ← Nat.pow_add]; congr 2; omega)
         have k9 := told_own hown8 ((ok_replicate k).append hoO) (by omega) (by rw [hzo]; exact HFIT.out)
         rw [hzo] at k9
         go_simp; go_at_call 62; (with_reducible refine k9.mono ?_); rintro e9 w9 ⟨v9, rfl, hv9, hb13⟩))
    all_goals
      clear hown8 k9 hg8 hown7 hmk k1 k3
      go_wp2_with fail
      go_ret2
      exact ⟨_, rfl, hv9, below_step hb12 hb13⟩
end Go.Proofs.YtffncomekbfihaaGreatDoor.Nat
