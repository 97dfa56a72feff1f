import Derived.Test.YtfcfnnkepjoncaaHand13
import Derived.Lib.Hide
namespace Go.Proofs.Ytfcfnnkepjoncaa.Hand
open Go.RowKit Go.Shelf Go.Proofs.YtfcfnnkepjoncaaW.PrintWords Go.Proofs.YtfcfnnkepjoncaaW.PrintLast Go.Proofs.YtfcfnnkepjoncaaW.PrintMore Go.Proofs.Ytfcfnnkepjoncaa.PC
attribute [local go_sem] Oper.semAt_some
set_option linter.unusedVariables false
set_option linter.unusedSimpArgs false

/-- value.Leaf, as a plain function -/
def leafK (t : S44) : Bool := (value_Leaf.f t.f0 t.f1 t.f2 t.f3 t.f4).getD false
theorem leafK_eq (t : S44) : value_Leaf.f t.f0 t.f1 t.f2 t.f3 t.f4 = some (leafK t) := by
  obtain ⟨r, hr⟩ := leaf_some t.f0 t.f1 t.f2 t.f3 t.f4
  unfold leafK; rw [hr]; rfl
/-- may a value stand in a tree? -/
def rightK (t : S44) : Bool := oneK t && !(leafK t && decide (0 < t.f4.length))
def checkL : List S44 → Int
  | [] => 0
  | t :: ts => if rightK t = true then checkL ts else 9
def value_Check.f (k : Nat) (a0_0 : Int) (a0_1 : Bool) (a0_2 : Int) (a0_3 : ByteArray) (l0_4 : List S44) : Option Int :=
  (value_Depth.f k a0_0 a0_1 a0_2 a0_3 l0_4).bind fun d => if d > 64 then some 2 else
    if (preT ⟨a0_0, a0_1, a0_2, a0_3, l0_4⟩).length ≤ 1099511627776 ∧ ∀ t ∈ preT ⟨a0_0, a0_1, a0_2, a0_3, l0_4⟩, t.f3.size < 9223372036854775807 then
      (if (preT ⟨a0_0, a0_1, a0_2, a0_3, l0_4⟩).length > 65536 then some 2 else some (checkL (preT ⟨a0_0, a0_1, a0_2, a0_3, l0_4⟩)))
    else none

theorem checkL_all {l : List S44} (h : ∀ t ∈ l, rightK t = true) : checkL l = 0 := by
  induction l with
  | nil => rfl
  | cons t ts ih => rw [checkL, if_pos (h t (by simp))]; exact ih (fun u hu => h u (by simp [hu]))
theorem checkL_part {q r : List S44} {y : S44} (h : ∀ t ∈ q, rightK t = true) (hy : rightK y = false) : checkL (q ++ y :: r) = 9 := by
  induction q with
  | nil => rw [List.nil_append, checkL, hy]; rfl
  | cons t ts ih => rw [List.cons_append, checkL, if_pos (h t (by simp))]; exact ih (fun u hu => h u (by simp [hu]))
theorem keep_below {n B B2 : Nat} {W W' : World} (h : Below W.heap.size W W') (hn : n ≤ W.heap.size) : KeepsFrom B W W' ∧ KpN n B2 W W' :=
  ⟨⟨h.size, fun k o _ hk _ => (h.block k (Array.getElem?_eq_some_iff.1 hk).1).trans hk⟩, h.mono hn, fun b cs t fr _ hc => (h.block b (Array.getElem?_eq_some_iff.1 hc).1).trans hc⟩
set_option maxRecDepth 100000 in
set_option maxHeartbeats 8000000 in
theorem check_tree (x : S44) (A : Option Addr) (c : Nat) (w : World) (k : Nat) (d : Int) (hd : value_Depth.f k x.f0 x.f1 x.f2 x.f3 x.f4 = some d) (hd64 : ¬ d > 64) (hNb : (preT x).length ≤ 1099511627776) (hn : ¬ (preT x).length > 65536) (hs : ∀ t ∈ preT x, t.f3.size < 9223372036854775807) (hc : x.f4.length ≤ c) (hC : Kd.C k44 w A x.f4.length x.f4) :
    CallsIn Fence.wide 4 Try.prog 21 #[.agg #[.int .i64 x.f0, .bool x.f1, .int .u64 x.f2, .string x.f3, .slice A x.f4.length c]] w fun e w' => e = .returned (.int .i64 (checkL (preT x))) ∧ Below w.heap.size w w' := by
  have hn' : ¬ ((65536 : Int) < ((preT x).length : Int)) := by omega
  have hd' : ¬ (64 < d) := hd64
  refine callsIn_of_wp_marks Try.func21 rfl trivial ?_ rfl
  simp only [Try.ntmps21, List.size_toArray, List.length_cons, List.length_nil, Nat.reduceAdd, Nat.reduceSub, Array.replicate_succ, Array.replicate_zero, List.push_toArray, List.append_toArray, List.nil_append, List.cons_append]
  have B1 : Below w.heap.size w ((w.alloc (.cells #[.int .i64 x.f0, .bool x.f1, .int .u64 x.f2, .string x.f3, .slice A x.f4.length c] 44)).alloc (.cells #[.int .i64 0] 23)) := ((Below.refl _ w).alloc (Nat.le_refl _) _).alloc (by simp) _
  have bv1 := blk_alloc (heap_alloc_new w (.cells #[.int .i64 x.f0, .bool x.f1, .int .u64 x.f2, .string x.f3, .slice A x.f4.length c] 44)) (.cells #[.int .i64 0] 23)
  have br1 : ((w.alloc (.cells #[.int .i64 x.f0, .bool x.f1, .int .u64 x.f2, .string x.f3, .slice A x.f4.length c] 44)).alloc (.cells #[.int .i64 0] 23)).heap[w.heap.size + 1]? = some (.cells #[.int .i64 0] 23 (0, 0)) := by have h_ := heap_alloc_new (w.alloc (.cells #[.int .i64 x.f0, .bool x.f1, .int .u64 x.f2, .string x.f3, .slice A x.f4.length c] 44)) (.cells #[.int .i64 0] 23); rwa [World.size_alloc] at h_
  have C1 := Kd.C_below hC B1
  gi_wp2_with (first
    | (refine ⟨trivial, ?_⟩; gi_at_call 37; refine (callsIn_wide.2 (value_Depth.calls k _ _ _ _ A c x.f4 d _ C1 hc hd)).mono ?_; rintro e w1 ⟨rfl, hb1⟩; have bv2 := blk_below bv1 hb1; have br2 := blk_below br1 hb1; have k0 := (blk_cell bv2 0).trans rfl; have k1 := (blk_cell bv2 1).trans rfl; have k2 := (blk_cell bv2 2).trans rfl; have k3 := (blk_cell bv2 3).trans rfl; have k4 := (blk_cell bv2 4).trans rfl; have C2 := Kd.C_below C1 hb1; have B2 := below_step B1 hb1)
    | (refine ⟨trivial, ?_⟩; gi_at_call 38; refine (callsIn_wide.2 (callsIn_wide.1 (count_any x A c _ hNb hc C2))).mono ?_; rintro e w2 ⟨rfl, hb2⟩; have bv3 := blk_below bv2 hb2; have br3 := blk_below br2 hb2; have l0 := (blk_cell bv3 0).trans rfl; have l1 := (blk_cell bv3 1).trans rfl; have l2 := (blk_cell bv3 2).trans rfl; have l3 := (blk_cell bv3 3).trans rfl; have l4 := (blk_cell bv3 4).trans rfl; have C3 := Kd.C_below C2 hb2; have B3 := below_step B2 hb2)
    | (refine ⟨trivial, ?_⟩; gi_at_call 39; refine (each_in _ x A c _).mono ?_; rintro e w' ⟨rfl, rfl⟩))
  obtain ⟨W0, hW0⟩ : ∃ W0, w2.alloc (.cells #[.int .i64 x.f0, .bool x.f1, .int .u64 x.f2, .string x.f3, .slice A x.f4.length c] 44) = W0 := ⟨_, rfl⟩
  have hsz : W0.heap.size = w2.heap.size + 1 := by rw [← hW0]; simp
  have hB0 : Below w.heap.size w W0 := by rw [← hW0]; exact below_alloc B3 _
  have hv0 : W0.heap[w2.heap.size]? = some (.cells #[.int .i64 x.f0, .bool x.f1, .int .u64 x.f2, .string x.f3, .slice A x.f4.length c] 44 (0, 0)) := by rw [← hW0]; exact heap_alloc_new w2 _
  have hr0 : W0.heap[w.heap.size + 1]? = some (.cells #[.int .i64 0] 23 (0, 0)) := by rw [← hW0]; exact blk_alloc br3 _
  have hlt3 := blk_lt br3
  rw [hW0]
  clear hW0 k0 k1 k2 k3 k4 l0 l1 l2 l3 l4 bv1 bv2 bv3 br1 br2 br3 C1 C2 C3
  refine wpIn_rangeFunc_ownH rfl (by decide) (gf := 49) (lb := #[.pointer (some ⟨w2.heap.size, 0, none⟩)]) rfl trivial (enters_of Try.func49 (by kernel_rfl) rfl)
    (each_stops w (fun t => t.f3.size < 9223372036854775807) 3 w2.heap.size w2.heap.size x A c hNb hs hc hC W0 (by omega) hB0 (by omega) hv0) (fun h k => KpN.trans h k) (fun W l o o' hle hl ho hw => KpN.putObj (w1 := W0) o' (by omega) hle hl ho hw) (Below.refl _ _) (fun _ => rfl)
    (fun pre W => W.heap[w.heap.size + 1]? = some (.cells #[.int .i64 0] 23 (0, 0)) ∧ Below w.heap.size w W ∧ ∀ y ∈ pre, rightK y.1.2.2 = true)
    (fun c pre W => c = .ret ∧ W.heap[w.heap.size + 1]? = some (.cells #[.int .i64 9] 23 (0, 0)) ∧ Below w.heap.size w W ∧ ∃ (q : List (Nd w (fun t => t.f3.size < 9223372036854775807))) (y : Nd w (fun t => t.f3.size < 9223372036854775807)), pre = q ++ [y] ∧ (∀ z : Nd w (fun t => t.f3.size < 9223372036854775807), z ∈ q → rightK z.1.2.2 = true) ∧ rightK y.1.2.2 = false)
    (fun s W W' row hs hg hr => ⟨blk_grown hs.1 hg (fun e => by have := (hr _ e.symm).1; omega), hs.2.1.grown hg hs.2.1.size (fun k e => by have := (hr k e).1; omega), hs.2.2⟩)
    (fun _ s W W' row hs hg hr => ⟨hs.1, blk_grown hs.2.1 hg (fun e => by have := (hr _ e.symm).1; omega), hs.2.2.1.grown hg hs.2.2.1.size (fun k e => by have := (hr k e).1; omega), hs.2.2.2⟩)
    ⟨hr0, hB0, fun y hy => by cases hy⟩
    (fun y a' W => ∃ Bx A' c', w.heap.size ≤ Bx ∧ y.1.2.1 = .agg #[.int .i64 y.1.2.2.f0, .bool y.1.2.2.f1, .int .u64 y.1.2.2.f2, .string y.1.2.2.f3, .slice A' y.1.2.2.f4.length c'] ∧ y.1.2.2.f4.length ≤ c' ∧ Kd.C k44 w A' y.1.2.2.f4.length y.1.2.2.f4 ∧ W.heap[Bx]? = some (.cells #[.int .i64 y.1.2.2.f0, .bool y.1.2.2.f1, .int .u64 y.1.2.2.f2, .string y.1.2.2.f3, .slice A' y.1.2.2.f4.length c'] 44 (0, 0)) ∧ a' = { tmps := #[.agg #[.int .i64 x.f0, .bool x.f1, .int .u64 x.f2, .string x.f3, .slice A x.f4.length c], .pointer (some ⟨w.heap.size, 0, none⟩), .pointer (some ⟨w.heap.size + 1, 0, none⟩), undef, .pointer (some ⟨Bx, 0, none⟩), .agg #[.int .i64 x.f0, .bool x.f1, .int .u64 x.f2, .string x.f3, .slice A x.f4.length c], .int .i64 d, .bool (decide (64 < d)), .bool (decide (64 < d)), .agg #[.int .i64 x.f0, .bool x.f1, .int .u64 x.f2, .string x.f3, .slice A x.f4.length c], .int .i64 (preT x).length, .bool (decide (65536 < ((preT x).length : Int))), .bool (decide (64 < d) || decide (65536 < ((preT x).length : Int))), .agg #[.int .i64 x.f0, .bool x.f1, .int .u64 x.f2, .string x.f3, .slice A x.f4.length c], .func (.func 49) #[] #[.pointer (some ⟨w2.heap.size, 0, none⟩)], y.1.1, y.1.2.1, undef, undef, undef, undef, undef, undef, undef, undef, undef, undef, undef, undef, undef], defers := [] })
    (fun y a' _ W W' row hs hg hr => by
      obtain ⟨Bx, A', c', h1, h2, h3, h4, h5, h6⟩ := hs
      exact ⟨Bx, A', c', h1, h2, h3, h4, (hg.block Bx (blk_lt h5) (fun e => by obtain ⟨_, o, ho, hc⟩ := hr _ e.symm; rw [h5] at ho; cases ho; cases hc)).trans h5, h6⟩) ?assign ?body ?done ?stop
  case done =>
    rintro D ys W hD hys ⟨hn, hBW, hall⟩ hK
    have cc := (blk_cell hn 0).trans rfl
    have ff := blk_frozen hn 0
    gi_wp2
    have h0 : checkL (preT x) = 0 := by
      rw [← hys]
      exact checkL_all (fun t ht => by obtain ⟨z, hz, rfl⟩ := List.mem_map.1 ht; exact hall z hz)
    have hs0 := blk_set hn 0 (.int .i64 0)
    have cs0 := (blk_cell hs0 0).trans rfl
    have hBs : Below w.heap.size w (W.setCell ⟨w.heap.size + 1, 0, none⟩ (.int .i64 0)) := hBW.setCell (p := ⟨w.heap.size + 1, 0, none⟩) (by show w.heap.size ≤ w.heap.size + 1; omega) _
    have hK' := (KeepsOthers.setCell W ⟨w.heap.size + 1, 0, none⟩ (.int .i64 0)).same D _ hK rfl
    have ck := cell_kept cs0 (grownBy_putObj' _ D (.deferred none)) (fun r e => by cases e; exact ⟨_, hK', rfl⟩)
    refine ⟨by simp, .inl ⟨_, _, rfl, run_takeDeferred hK', ?_⟩⟩
    refine ⟨.int .i64 0, by simp [go_sem, results, Try.results21, ck], by rw [h0], hBs.trans (belowK_b (w := w) (Nat.le_refl _) _ D _ _ (by have := hB0.size; omega) hK' rfl rfl)⟩
  case stop =>
    rintro D c pre W hD hpre ⟨rfl, hn, hBW, hq⟩ hK
    have cc := (blk_cell hn 0).trans rfl
    have ff := blk_frozen hn 0
    gi_wp2
    obtain ⟨q, y, rfl, hq1, hq2⟩ := hq
    have h9 : checkL (preT x) = 9 := by
      obtain ⟨r, hr⟩ := hpre
      rw [← hr, List.map_append, List.append_assoc]
      exact checkL_part (fun t ht => by obtain ⟨z, hz, rfl⟩ := List.mem_map.1 ht; exact hq1 z hz) hq2
    refine ⟨by simp, .inl ⟨_, _, rfl, run_takeDeferred hK, ?_⟩⟩
    have ck := cell_kept cc (grownBy_putObj' W D (.deferred none)) (fun r e => by cases e; exact ⟨_, hK, rfl⟩)
    refine ⟨.int .i64 9, by simp [go_sem, results, Try.results21, ck], by rw [h9], hBW.trans (belowK_b (w := w) (Nat.le_refl _) W D _ _ (by have := hB0.size; omega) hK rfl rfl)⟩
  case assign =>
    rintro l pre y W K ⟨hr, hBW, hall⟩ hK
    obtain ⟨A', c', hv, hc', hC'⟩ := id y.2.1
    unfold VE at hv
    simp [encN]
    rw [hv]
    gi_wp2
    exact hK _ _ ((KeepsOthers.alloc _ _).from _) (KpN.of_grown (World.grownBy_alloc W _ none) hBW.size) ⟨blk_alloc hr _, below_alloc hBW _, hall⟩ ⟨W.heap.size, A', c', hBW.size, hv, hc', hC', heap_alloc_new W _, by rw [hv]⟩
  case body =>
    rintro l pre y a' W hl ⟨r, hr⟩ ⟨hc0, hBW, hall⟩ ⟨Bx, A', c', hge, hv, hc', hC', hbx, rfl⟩ hlt
    obtain ⟨⟨p, v, t⟩, hN, hS⟩ := y
    dsimp only at hv hc' hC' hbx hS ⊢
    subst hv
    have CW := Kd.C_below hC' hBW
    have k0 := (blk_cell hbx 0).trans rfl
    have k1 := (blk_cell hbx 1).trans rfl
    have k2 := (blk_cell hbx 2).trans rfl
    have k3 := (blk_cell hbx 3).trans rfl
    have k4 := (blk_cell hbx 4).trans rfl
    have hne : w.heap.size + 1 < W.heap.size := blk_lt hc0
    obtain ⟨b1, hb1⟩ : ∃ b, oneK t = b := ⟨_, rfl⟩
    obtain ⟨b2, hb2⟩ : ∃ b, leafK t = b := ⟨_, rfl⟩
    have h1 := oneK_eq t hS
    have h2 := leafK_eq t
    rw [hb1] at h1
    rw [hb2] at h2
    have ev : ∀ b3 : Bool, decide (0 < t.f4.length) = b3 → rightK t = (b1 && !(b2 && b3)) := fun b3 h3 => by unfold rightK; rw [hb1, hb2, h3]
    have H1 : Hid _ := Lib.hid hb1
    have H2 : Hid _ := Lib.hid hb2
    clear hb1 hb2
    cases b1
    case false =>
      gi_wp2_with (first | (refine ⟨trivial, ?_⟩; gi_at_call 40; refine (CallsIn.inRound l (callsIn_wide.2 (value_One.calls 3 _ _ _ _ A' c' _ _ _ CW hc' h1))).mono ?_; rintro e W1 ⟨rfl, hW1⟩; have bx1 := blk_below hbx hW1; have bc1 := blk_below hc0 hW1; have j0 := (blk_cell bx1 0).trans rfl; have j1 := (blk_cell bx1 1).trans rfl; have j2 := (blk_cell bx1 2).trans rfl; have j3 := (blk_cell bx1 3).trans rfl; have j4 := (blk_cell bx1 4).trans rfl; have jc := (blk_cell bc1 0).trans rfl; have jf := blk_frozen bc1 0; have CW1 := Kd.C_below CW hW1) | (refine ⟨trivial, ?_⟩; gi_at_call 41; refine (CallsIn.inRound l (callsIn_wide.2 (value_Leaf.calls _ _ _ _ A' c' _ _ _ CW1 hc' h2))).mono ?_; rintro e W2 ⟨rfl, hW2⟩; have bx2 := blk_below bx1 hW2; have bc2 := blk_below bc1 hW2; have i4 := (blk_cell bx2 4).trans rfl; have ic := (blk_cell bc2 0).trans rfl; have jf2 := blk_frozen bc2 0))
      refine ⟨trivial, ?_⟩
      gi_wp2
      all_goals try (rename some undef = some (Value.bool _) => h_; exact absurd h_ (by simp [undef]))
      have hs := blk_set bc1 0 (.int .i64 9)
      have kb := keep_below (B := W0.heap.size) (B2 := w2.heap.size) hW1 hBW.size
      refine ⟨kb.1.trans ((KeepsOthers.setCell _ _ _).from _), rfl, by simpa using hs, (below_step hBW hW1).setCell (p := ⟨w.heap.size + 1, 0, none⟩) (by show w.heap.size ≤ w.heap.size + 1; omega) _, pre, _, rfl, hall, ?_⟩
      rw [ev _ rfl]; rfl
    case true =>
      cases b2
      case false =>
        gi_wp2_with (first | (refine ⟨trivial, ?_⟩; gi_at_call 40; refine (CallsIn.inRound l (callsIn_wide.2 (value_One.calls 3 _ _ _ _ A' c' _ _ _ CW hc' h1))).mono ?_; rintro e W1 ⟨rfl, hW1⟩; have bx1 := blk_below hbx hW1; have bc1 := blk_below hc0 hW1; have j0 := (blk_cell bx1 0).trans rfl; have j1 := (blk_cell bx1 1).trans rfl; have j2 := (blk_cell bx1 2).trans rfl; have j3 := (blk_cell bx1 3).trans rfl; have j4 := (blk_cell bx1 4).trans rfl; have jc := (blk_cell bc1 0).trans rfl; have jf := blk_frozen bc1 0; have CW1 := Kd.C_below CW hW1) | (refine ⟨trivial, ?_⟩; gi_at_call 41; refine (CallsIn.inRound l (callsIn_wide.2 (value_Leaf.calls _ _ _ _ A' c' _ _ _ CW1 hc' h2))).mono ?_; rintro e W2 ⟨rfl, hW2⟩; have bx2 := blk_below bx1 hW2; have bc2 := blk_below bc1 hW2; have i4 := (blk_cell bx2 4).trans rfl; have ic := (blk_cell bc2 0).trans rfl; have jf2 := blk_frozen bc2 0))
        have kb := keep_below (B := W0.heap.size) (B2 := w2.heap.size) hW1 hBW.size
        have kb2 := keep_below (B := W0.heap.size) (B2 := w2.heap.size) hW2 (below_step hBW hW1).size
        refine ⟨kb.1.trans kb2.1, kb.2.trans kb2.2, bc2, below_step (below_step hBW hW1) hW2, fun z hz => ?_⟩
        rcases List.mem_append.1 hz with hz | hz
        · exact hall z hz
        · obtain rfl := List.mem_singleton.1 hz
          rw [ev _ rfl]; rfl
      case true =>
        by_cases h3 : (0 : Int) < (t.f4.length : Int)
        · gi_wp2_with (first | (refine ⟨trivial, ?_⟩; gi_at_call 40; refine (CallsIn.inRound l (callsIn_wide.2 (value_One.calls 3 _ _ _ _ A' c' _ _ _ CW hc' h1))).mono ?_; rintro e W1 ⟨rfl, hW1⟩; have bx1 := blk_below hbx hW1; have bc1 := blk_below hc0 hW1; have j0 := (blk_cell bx1 0).trans rfl; have j1 := (blk_cell bx1 1).trans rfl; have j2 := (blk_cell bx1 2).trans rfl; have j3 := (blk_cell bx1 3).trans rfl; have j4 := (blk_cell bx1 4).trans rfl; have jc := (blk_cell bc1 0).trans rfl; have jf := blk_frozen bc1 0; have CW1 := Kd.C_below CW hW1) | (refine ⟨trivial, ?_⟩; gi_at_call 41; refine (CallsIn.inRound l (callsIn_wide.2 (value_Leaf.calls _ _ _ _ A' c' _ _ _ CW1 hc' h2))).mono ?_; rintro e W2 ⟨rfl, hW2⟩; have bx2 := blk_below bx1 hW2; have bc2 := blk_below bc1 hW2; have i4 := (blk_cell bx2 4).trans rfl; have ic := (blk_cell bc2 0).trans rfl; have jf2 := blk_frozen bc2 0))
          have hs := blk_set bc2 0 (.int .i64 9)
          have kb := keep_below (B := W0.heap.size) (B2 := w2.heap.size) hW1 hBW.size
          have kb2 := keep_below (B := W0.heap.size) (B2 := w2.heap.size) hW2 (below_step hBW hW1).size
          refine ⟨(kb.1.trans kb2.1).trans ((KeepsOthers.setCell _ _ _).from _), rfl, by simpa using hs, (below_step (below_step hBW hW1) hW2).setCell (p := ⟨w.heap.size + 1, 0, none⟩) (by show w.heap.size ≤ w.heap.size + 1; omega) _, pre, _, rfl, hall, ?_⟩
          rw [ev true (decide_eq_true (by omega))]; rfl
        · gi_wp2_with (first | (refine ⟨trivial, ?_⟩; gi_at_call 40; refine (CallsIn.inRound l (callsIn_wide.2 (value_One.calls 3 _ _ _ _ A' c' _ _ _ CW hc' h1))).mono ?_; rintro e W1 ⟨rfl, hW1⟩; have bx1 := blk_below hbx hW1; have bc1 := blk_below hc0 hW1; have j0 := (blk_cell bx1 0).trans rfl; have j1 := (blk_cell bx1 1).trans rfl; have j2 := (blk_cell bx1 2).trans rfl; have j3 := (blk_cell bx1 3).trans rfl; have j4 := (blk_cell bx1 4).trans rfl; have jc := (blk_cell bc1 0).trans rfl; have jf := blk_frozen bc1 0; have CW1 := Kd.C_below CW hW1) | (refine ⟨trivial, ?_⟩; gi_at_call 41; refine (CallsIn.inRound l (callsIn_wide.2 (value_Leaf.calls _ _ _ _ A' c' _ _ _ CW1 hc' h2))).mono ?_; rintro e W2 ⟨rfl, hW2⟩; have bx2 := blk_below bx1 hW2; have bc2 := blk_below bc1 hW2; have i4 := (blk_cell bx2 4).trans rfl; have ic := (blk_cell bc2 0).trans rfl; have jf2 := blk_frozen bc2 0))
          have kb := keep_below (B := W0.heap.size) (B2 := w2.heap.size) hW1 hBW.size
          have kb2 := keep_below (B := W0.heap.size) (B2 := w2.heap.size) hW2 (below_step hBW hW1).size
          refine ⟨kb.1.trans kb2.1, kb.2.trans kb2.2, bc2, below_step (below_step hBW hW1) hW2, fun z hz => ?_⟩
          rcases List.mem_append.1 hz with hz | hz
          · exact hall z hz
          · obtain rfl := List.mem_singleton.1 hz
            rw [ev false (decide_eq_false (by omega))]; rfl
set_option maxRecDepth 100000 in
set_option maxHeartbeats 8000000 in
theorem check_deep (x : S44) (A : Option Addr) (c : Nat) (w : World) (k : Nat) (d : Int) (hd : value_Depth.f k x.f0 x.f1 x.f2 x.f3 x.f4 = some d) (hd64 : d > 64) (hc : x.f4.length ≤ c) (hC : Kd.C k44 w A x.f4.length x.f4) :
    CallsIn Fence.wide 4 Try.prog 21 #[.agg #[.int .i64 x.f0, .bool x.f1, .int .u64 x.f2, .string x.f3, .slice A x.f4.length c]] w fun e w' => e = .returned (.int .i64 2) ∧ Below w.heap.size w w' := by
  have hd' : 64 < d := hd64
  refine callsIn_of_wp_marks Try.func21 rfl trivial ?_ rfl
  simp only [Try.ntmps21, List.size_toArray, List.length_cons, List.length_nil, Nat.reduceAdd, Nat.reduceSub, Array.replicate_succ, Array.replicate_zero, List.push_toArray, List.append_toArray, List.nil_append, List.cons_append]
  have B1 : Below w.heap.size w ((w.alloc (.cells #[.int .i64 x.f0, .bool x.f1, .int .u64 x.f2, .string x.f3, .slice A x.f4.length c] 44)).alloc (.cells #[.int .i64 0] 23)) := ((Below.refl _ w).alloc (Nat.le_refl _) _).alloc (by simp) _
  have bv1 := blk_alloc (heap_alloc_new w (.cells #[.int .i64 x.f0, .bool x.f1, .int .u64 x.f2, .string x.f3, .slice A x.f4.length c] 44)) (.cells #[.int .i64 0] 23)
  have br1 : ((w.alloc (.cells #[.int .i64 x.f0, .bool x.f1, .int .u64 x.f2, .string x.f3, .slice A x.f4.length c] 44)).alloc (.cells #[.int .i64 0] 23)).heap[w.heap.size + 1]? = some (.cells #[.int .i64 0] 23 (0, 0)) := by have h_ := heap_alloc_new (w.alloc (.cells #[.int .i64 x.f0, .bool x.f1, .int .u64 x.f2, .string x.f3, .slice A x.f4.length c] 44)) (.cells #[.int .i64 0] 23); rwa [World.size_alloc] at h_
  have C1 := Kd.C_below hC B1
  gi_wp2_with (refine ⟨trivial, ?_⟩; gi_at_call 37; refine (callsIn_wide.2 (value_Depth.calls k _ _ _ _ A c x.f4 d _ C1 hc hd)).mono ?_; rintro e w1 ⟨rfl, hb1⟩; have bv2 := blk_below bv1 hb1; have br2 := blk_below br1 hb1; have k0 := (blk_cell bv2 0).trans rfl; have k1 := (blk_cell bv2 1).trans rfl; have k2 := (blk_cell bv2 2).trans rfl; have k3 := (blk_cell bv2 3).trans rfl; have k4 := (blk_cell bv2 4).trans rfl; have kr := (blk_cell br2 0).trans rfl; have kf := blk_frozen br2 0; have C2 := Kd.C_below C1 hb1; have B2 := below_step B1 hb1)
  refine ⟨trivial, ?_⟩
  gi_wp2
  have cs0 := (blk_cell (blk_set br2 0 (.int .i64 2)) 0).trans rfl
  exact ⟨.int .i64 2, by simp [go_sem, results, Try.results21, cs0], rfl, B2.setCell (p := ⟨w.heap.size + 1, 0, none⟩) (by show w.heap.size ≤ w.heap.size + 1; omega) _⟩
set_option maxRecDepth 100000 in
set_option maxHeartbeats 8000000 in
theorem check_long (x : S44) (A : Option Addr) (c : Nat) (w : World) (k : Nat) (d : Int) (hd : value_Depth.f k x.f0 x.f1 x.f2 x.f3 x.f4 = some d) (hd64 : ¬ d > 64) (hNb : (preT x).length ≤ 1099511627776) (hn : (preT x).length > 65536) (hc : x.f4.length ≤ c) (hC : Kd.C k44 w A x.f4.length x.f4) :
    CallsIn Fence.wide 4 Try.prog 21 #[.agg #[.int .i64 x.f0, .bool x.f1, .int .u64 x.f2, .string x.f3, .slice A x.f4.length c]] w fun e w' => e = .returned (.int .i64 2) ∧ Below w.heap.size w w' := by
  have hd' : ¬ (64 < d) := hd64
  have hn' : (65536 : Int) < ((preT x).length : Int) := by omega
  refine callsIn_of_wp_marks Try.func21 rfl trivial ?_ rfl
  simp only [Try.ntmps21, List.size_toArray, List.length_cons, List.length_nil, Nat.reduceAdd, Nat.reduceSub, Array.replicate_succ, Array.replicate_zero, List.push_toArray, List.append_toArray, List.nil_append, List.cons_append]
  have B1 : Below w.heap.size w ((w.alloc (.cells #[.int .i64 x.f0, .bool x.f1, .int .u64 x.f2, .string x.f3, .slice A x.f4.length c] 44)).alloc (.cells #[.int .i64 0] 23)) := ((Below.refl _ w).alloc (Nat.le_refl _) _).alloc (by simp) _
  have bv1 := blk_alloc (heap_alloc_new w (.cells #[.int .i64 x.f0, .bool x.f1, .int .u64 x.f2, .string x.f3, .slice A x.f4.length c] 44)) (.cells #[.int .i64 0] 23)
  have br1 : ((w.alloc (.cells #[.int .i64 x.f0, .bool x.f1, .int .u64 x.f2, .string x.f3, .slice A x.f4.length c] 44)).alloc (.cells #[.int .i64 0] 23)).heap[w.heap.size + 1]? = some (.cells #[.int .i64 0] 23 (0, 0)) := by have h_ := heap_alloc_new (w.alloc (.cells #[.int .i64 x.f0, .bool x.f1, .int .u64 x.f2, .string x.f3, .slice A x.f4.length c] 44)) (.cells #[.int .i64 0] 23); rwa [World.size_alloc] at h_
  have C1 := Kd.C_below hC B1
  gi_wp2_with (first | (refine ⟨trivial, ?_⟩; gi_at_call 37; refine (callsIn_wide.2 (value_Depth.calls k _ _ _ _ A c x.f4 d _ C1 hc hd)).mono ?_; rintro e w1 ⟨rfl, hb1⟩; have bv2 := blk_below bv1 hb1; have br2 := blk_below br1 hb1; have k0 := (blk_cell bv2 0).trans rfl; have k1 := (blk_cell bv2 1).trans rfl; have k2 := (blk_cell bv2 2).trans rfl; have k3 := (blk_cell bv2 3).trans rfl; have k4 := (blk_cell bv2 4).trans rfl; have kr := (blk_cell br2 0).trans rfl; have kf := blk_frozen br2 0; have C2 := Kd.C_below C1 hb1; have B2 := below_step B1 hb1) | (refine ⟨trivial, ?_⟩; gi_at_call 38; refine (callsIn_wide.2 (callsIn_wide.1 (count_any x A c _ hNb hc C2))).mono ?_; rintro e w2 ⟨rfl, hb2⟩; have br3 := blk_below br2 hb2; have lr := (blk_cell br3 0).trans rfl; have lf := blk_frozen br3 0; have B3 := below_step B2 hb2))
  have cs0 := (blk_cell (blk_set br3 0 (.int .i64 2)) 0).trans rfl
  exact ⟨.int .i64 2, by simp [go_sem, results, Try.results21, cs0], rfl, B3.setCell (p := ⟨w.heap.size + 1, 0, none⟩) (by show w.heap.size ≤ w.heap.size + 1; omega) _⟩
theorem value_Check.calls (k : Nat) (a0_0 : Int) (a0_1 : Bool) (a0_2 : Int) (a0_3 : ByteArray) (A0_4 : Option Addr) (c0_4 : Nat) (l0_4 : List S44) (r : Int) (w : World) (hr0_4 : Kd.C k44 w A0_4 l0_4.length l0_4) (hc0_4 : l0_4.length ≤ c0_4) (h : value_Check.f k a0_0 a0_1 a0_2 a0_3 l0_4 = some r) :
    Calls Try.prog 21 #[.agg #[.int .i64 a0_0, .bool a0_1, .int .u64 a0_2, .string a0_3, .slice A0_4 l0_4.length c0_4]] w fun e w' => e = .returned (.int .i64 r) ∧ Below w.heap.size w w' := by
  unfold value_Check.f at h
  obtain ⟨d, hd, h⟩ := Option.bind_eq_some_iff.1 h
  split at h
  · rename_i h64
    have h' := Option.some.inj h
    subst h'
    exact callsIn_wide.1 (check_deep ⟨a0_0, a0_1, a0_2, a0_3, l0_4⟩ A0_4 c0_4 w k d hd h64 hc0_4 hr0_4)
  · rename_i h64
    split at h
    · rename_i hb
      split at h
      · rename_i hl
        have h' := Option.some.inj h
        subst h'
        exact callsIn_wide.1 (check_long ⟨a0_0, a0_1, a0_2, a0_3, l0_4⟩ A0_4 c0_4 w k d hd h64 hb.1 hl hc0_4 hr0_4)
      · rename_i hl
        have h' := Option.some.inj h
        subst h'
        exact callsIn_wide.1 (check_tree ⟨a0_0, a0_1, a0_2, a0_3, l0_4⟩ A0_4 c0_4 w k d hd h64 hb.1 hl hb.2 hc0_4 hr0_4)
    · cases h
theorem value_Check.mono : ∀ a0_0 a0_1 a0_2 a0_3 l0_4 k, LeO (value_Check.f k a0_0 a0_1 a0_2 a0_3 l0_4) (value_Check.f (k + 1) a0_0 a0_1 a0_2 a0_3 l0_4) := by
  intro a b c d l k
  unfold value_Check.f
  exact LeO.bind (value_Depth.mono a b c d l k) (fun _ => LeO.refl _)
end Go.Proofs.Ytfcfnnkepjoncaa.Hand
