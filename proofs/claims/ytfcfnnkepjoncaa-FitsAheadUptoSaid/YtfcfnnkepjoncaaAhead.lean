/- value.Paths, value.At, the comparison of two paths, and the walk of the law FitsAhead. -/
import Derived.Test.YtfcfnnkepjoncaaHand21
import Derived.Laws.ResultCell
-- value.Paths: the paths of all values of a tree.
namespace Go.Proofs.Ytfcfnnkepjoncaa.Hand
open Go.RowKit Go.Shelf Go.Proofs.YtfcfnnkepjoncaaW.PrintWords Go.Proofs.YtfcfnnkepjoncaaW.PrintLast Go.Proofs.YtfcfnnkepjoncaaW.PrintMore Go.Proofs.Ytfcfnnkepjoncaa.PC
attribute [local go_sem] Oper.semAt_some
set_option linter.unusedVariables false
set_option linter.unusedSimpArgs false

theorem info49 : (Try.prog.info? 49).map (fun i => (i.zero, i.size, i.bytes)) = some (some (.slice none 0 0), 1, 24) := by kernel_rfl
theorem row_slice {W : World} {B : Nat} {e : TypeId} {z n : Nat} {p : Value} {ps : List Value} (h : W.ownsRow B e z p n ps) : ∃ Ap cp, p = .slice Ap n cp := by
  obtain ⟨h1, ⟨rfl, hn⟩ | ⟨g, cap, cur, rfl, _⟩⟩ := h
  · exact ⟨none, 0, by rw [hn]⟩
  · exact ⟨_, cap, rfl⟩
theorem row_apart {W : World} {B : Nat} {e : TypeId} {z n : Nat} {v : Value} {xs : List Value} (h : W.ownsRow B e z v n xs) {r : Nat} (hr : v.ownBlock = some r) : B ≤ r ∧ ∃ cs, W.heap[r]? = some (.cells cs e (0, 0)) := by
  obtain ⟨h1, ⟨rfl, hn⟩ | ⟨g, cap, cur, rfl, hg, hh, _⟩⟩ := h
  · cases hr
  · cases hr; exact ⟨hg, cur, hh⟩
theorem keeps_row {B : Nat} {W W' : World} {row : Option Nat} (hg : W.grownBy W' row) (hr : ∀ r, row = some r → ∃ cs t fr, W.heap[r]? = some (.cells cs t fr)) : KeepsFrom B W W' :=
  ⟨hg.size, fun k o _ hk ho => (hg.block k (blk_lt hk) (fun e => by obtain ⟨cs, t, fr, h⟩ := hr _ e.symm; rw [hk] at h; cases h; cases ho)).trans hk⟩
/-- what Paths' own variables hold between two rounds -/
def PaI (w : World) (pre : List (Np w)) (W : World) : Prop :=
  ∃ L : Value, W.heap[w.heap.size + 1]? = some (.cells #[L] 54 (0, 0)) ∧ W.ownsRow (w.heap.size + 2) 49 1 L pre.length (pre.map (·.1.1)) ∧ (∀ y ∈ pre, Np.reads (w.heap.size + 2) y W) ∧ Below w.heap.size w W
theorem PaI.grown {w : World} {pre : List (Np w)} {W W' : World} {row : Option Nat} (h : PaI w pre W) (hg : W.grownBy W' row) (hr : ∀ r, row = some r → w.heap.size + 2 ≤ r ∧ ∀ cs t fr, W.heap[r]? ≠ some (.cells cs t fr)) : PaI w pre W' := by
  obtain ⟨L, h1, h2, h3, h4⟩ := h
  refine ⟨L, blk_grown h1 hg (fun e => by have := (hr _ e.symm).1; omega), own_moved h2 (fun g cs hb hh => blk_grown hh hg (fun e => (hr _ e.symm).2 _ _ _ hh)), fun y hy => own_moved (h3 y hy) (fun g cs hb hh => blk_grown hh hg (fun e => (hr _ e.symm).2 _ _ _ hh)), h4.grown hg h4.size (fun k e => by have := (hr k e).1; omega)⟩
set_option maxRecDepth 100000 in
set_option maxHeartbeats 8000000 in
theorem paths_in (x : S44) (A : Option Addr) (c : Nat) (w : World) (hN : (preT x).length ≤ 65536) (hc : x.f4.length ≤ c) (hC : Kd.C k44 w A x.f4.length x.f4) :
    CallsIn Fence.wide 4 Try.prog 26 #[.agg #[.int .i64 x.f0, .bool x.f1, .int .u64 x.f2, .string x.f3, .slice A x.f4.length c]] w fun e w' => ∃ (L : Value) (ys : List (Np w)), e = .returned L ∧ ys.map Np.desc = preP x [] ∧
      w'.ownsRow w.heap.size 49 1 L ys.length (ys.map (·.1.1)) ∧ (∀ y ∈ ys, Np.reads w.heap.size y w') ∧ Below w.heap.size w w' := by
  refine callsIn_of_wp_marks Try.func26 rfl trivial ?_ rfl
  simp only [Try.ntmps26, List.size_toArray, List.length_cons, List.length_nil, Nat.reduceAdd, Nat.reduceSub, Array.replicate_succ, Array.replicate_zero, List.push_toArray, List.append_toArray, List.nil_append, List.cons_append]
  gi_wp2_with (refine ⟨trivial, ?_⟩; gi_at_call 39; refine (each_in _ x A c _).mono ?_; rintro e w' ⟨rfl, rfl⟩)
  obtain ⟨W0, hW0⟩ : ∃ W0, (((w.alloc (.cells #[.int .i64 x.f0, .bool x.f1, .int .u64 x.f2, .string x.f3, .slice A x.f4.length c] 44)).alloc (.cells #[.slice none 0 0] 54)).alloc (.cells #[.int .i64 x.f0, .bool x.f1, .int .u64 x.f2, .string x.f3, .slice A x.f4.length c] 44)) = W0 := ⟨_, rfl⟩
  have hsz : W0.heap.size = w.heap.size + 3 := by rw [← hW0]; simp
  have hB : Below w.heap.size w W0 := by rw [← hW0]; exact (((Below.refl _ w).alloc (Nat.le_refl _) _).alloc (by simp) _).alloc (by simp; omega) _
  have hn0 : W0.heap[w.heap.size + 1]? = some (.cells #[.slice none 0 0] 54 (0, 0)) := by
    rw [← hW0]; refine blk_alloc ?_ _; have h_ := heap_alloc_new (w.alloc (.cells #[.int .i64 x.f0, .bool x.f1, .int .u64 x.f2, .string x.f3, .slice A x.f4.length c] 44)) (.cells #[.slice none 0 0] 54); rwa [World.size_alloc] at h_
  have hv0 : W0.heap[w.heap.size + 2]? = some (.cells #[.int .i64 x.f0, .bool x.f1, .int .u64 x.f2, .string x.f3, .slice A x.f4.length c] 44 (0, 0)) := by
    rw [← hW0]; have h_ := heap_alloc_new ((w.alloc (.cells #[.int .i64 x.f0, .bool x.f1, .int .u64 x.f2, .string x.f3, .slice A x.f4.length c] 44)).alloc (.cells #[.slice none 0 0] 54)) (.cells #[.int .i64 x.f0, .bool x.f1, .int .u64 x.f2, .string x.f3, .slice A x.f4.length c] 44); rwa [World.size_alloc, World.size_alloc] at h_
  rw [hW0]
  clear hW0
  refine wpIn_rangeFunc_G rfl (by decide) (gf := 49) (lb := #[.pointer (some ⟨w.heap.size + 2, 0, none⟩)]) rfl trivial (enters_of Try.func49 (by kernel_rfl) rfl)
    (eachp_seq w 3 (w.heap.size + 2) (w.heap.size + 2) x A c (by omega) hc hC W0 (by omega) hB (by omega) hv0) (fun h k => KpM.trans h k) (fun W l o o' hle hl ho hw => KpM.putObj (w1 := W0) o' (by omega) hle hl ho hw) (Below.refl _ _) (fun _ => rfl)
    (fun A' B' hab k o h1 h2 hk => blk_grown hk hab (by simp))
    (PaI w) (fun _ _ _ => False)
    (fun pre y a' W => PaI w pre W ∧ Np.reads (w.heap.size + 2) y W ∧ a' = { tmps := #[.agg #[.int .i64 x.f0, .bool x.f1, .int .u64 x.f2, .string x.f3, .slice A x.f4.length c], .pointer (some ⟨w.heap.size, 0, none⟩), .slice none 0 0, .pointer (some ⟨w.heap.size + 1, 0, none⟩), y.1.1, .agg #[.int .i64 x.f0, .bool x.f1, .int .u64 x.f2, .string x.f3, .slice A x.f4.length c], .func (.func 49) #[] #[.pointer (some ⟨w.heap.size + 2, 0, none⟩)], y.1.1, y.1.2.1, undef, undef, undef, undef, undef, undef, undef, undef], defers := [] })
    ?hI ?hIx ?hAx ?hIA ⟨_, hn0, World.ownsRow_nil _ _ _ _, (fun y hy => by cases hy), hB⟩ ?assign ?body ?done ?stop
  case hI =>
    rintro s W W' row h hg hr
    exact h.grown hg (fun r e => by obtain ⟨h1, o, ho, hcc⟩ := hr r e; refine ⟨by omega, fun cs t fr hh => ?_⟩; rw [hh] at ho; cases ho; cases hcc)
  case hIx =>
    rintro cd s W W' row h hg hr
    exact h
  case hAx =>
    rintro pre y a' s W W' row ⟨h, h2, h3⟩ hg hr
    refine ⟨h.grown hg (fun r e => by obtain ⟨h1, o, ho, hcc⟩ := hr r e; refine ⟨by omega, fun cs t fr hh => ?_⟩; rw [hh] at ho; cases ho; cases hcc), own_moved h2 (fun g cs hb hh => blk_grown hh hg (fun e => ?_)), h3⟩
    obtain ⟨_, o, ho, hcc⟩ := hr _ e.symm
    rw [hh] at ho; cases ho; cases hcc
  case hIA =>
    rintro s W W' h hab
    exact h.grown hab (fun r e => by cases e)
  case assign =>
    rintro l pre y W K hi hy hK
    simp only [encP]
    dsimp only [Array.zip, Array.foldl]
    gi_wp2
    exact hK _ _ (KeepsFrom.refl _ _) (KpM.of_grown (World.grownBy.refl _ _) hi.choose_spec.2.2.2.size) ⟨hi, hy, rfl⟩
  case body =>
    rintro l pre y a' W ⟨⟨L, h1, h2, h3, h4⟩, hy, ha⟩ hlt
    subst ha
    obtain ⟨⟨p, v, t, ps⟩, hnd⟩ := y
    obtain ⟨AL, cL, rfl⟩ := row_slice h2
    obtain ⟨Ap, cp, rfl⟩ : ∃ Ap cp, p = .slice Ap ps.length cp := row_slice hy
    dsimp only
    have k1 := (blk_cell h1 0).trans rfl
    have hne : ¬ ((pre.length : Int) = 65536) := by omega
    have hne2 : ((pre.length : Int) == 65536) = false := by rw [beq_eq_false_iff_ne]; exact hne
    obtain ⟨i0, hi0, hz0, hz1, hz2⟩ := info_parts info49
    have ha1 := blk_alloc h1 (.cells #[.slice Ap ps.length cp] 49)
    have hsize := h4.size
    have hlt1 := blk_lt h1
    have hb1 : pre.length + 1 ≤ maxLen := by simp only [maxLen]; omega
    have hb2 : (pre.length + 1) * 24 ≤ 140737488355328 := by omega
    have hb3 : w.heap.size + 2 ≤ (W.alloc (.cells #[.slice Ap ps.length cp] 49)).heap.size := by rw [World.size_alloc]; omega
    have hown := own_moved h2 (fun g cs hg hh => blk_alloc hh (.cells #[.slice Ap ps.length cp] 49))
    gi_wp2_with (gi_at_builtin; refine wpListIn_append_own _ rfl _ _ 54 rfl (w.heap.size + 2) 49 i0 (.slice none 0 0) 1 24 Try.underlying54 hi0 hz0 hz1 hz2 rfl (by decide) _ _ _ rfl hown ⟨W.heap.size, 0, none⟩ 1 1 [.slice Ap ps.length cp] rfl rfl (cell_one_new _ _ _) (by simp [Value.oneCell']) hb1 hb2 hb3 ?_; intro v' w1 hown1 hg1 _; obtain ⟨g1, cp1, rfl⟩ := ownsRow_succ hown1; have ka := blk_grown ha1 hg1 (fun e => by have := (row_apart hown e.symm).1; omega); have kf := blk_frozen ka 0; have kc := (blk_cell ka 0).trans rfl)
    have hrow := fun r (e : Value.ownBlock (.slice AL pre.length cL) = some r) => row_apart hown e
    have hgt : W.grownBy w1 (Value.ownBlock (.slice AL pre.length cL)) := World.grownBy.trans (World.grownBy_alloc W _ _) hg1
    have hs1 := blk_set ka 0 (.slice (some ⟨g1, 0, none⟩) (pre.length + 1) cp1)
    have hk : ∀ g cs t fr, w.heap.size + 2 ≤ g → W.heap[g]? = some (.cells cs t fr) → t ≠ 49 → (w1.setCell ⟨w.heap.size + 1, 0, none⟩ (.slice (some ⟨g1, 0, none⟩) (pre.length + 1) cp1)).heap[g]? = some (.cells cs t fr) := fun g cs t fr hg hh ht =>
      (Below.heap_setCell w1 ⟨w.heap.size + 1, 0, none⟩ _ g (by show g ≠ w.heap.size + 1; omega)).trans (blk_grown hh hgt (fun e => by
        obtain ⟨_, cs2, hh2⟩ := row_apart h2 e.symm
        rw [hh] at hh2; cases hh2; exact ht rfl))
    refine ⟨(keeps_row hgt (fun r e => by obtain ⟨_, cs2, hh2⟩ := row_apart h2 e; exact ⟨_, _, _, hh2⟩)).trans ((KeepsOthers.setCell _ _ _).from _), ⟨?_, fun b cs t fr hb hcc ht => hk b cs t fr hb hcc ht⟩, _, by simpa using hs1, ?_, ?_, ?_⟩
    · exact ((Below.refl w.heap.size W).grown hgt h4.size (fun r e => by have := (row_apart h2 e).1; omega)).setCell (p := ⟨w.heap.size + 1, 0, none⟩) (by show w.heap.size ≤ w.heap.size + 1; omega) _
    · rw [List.length_append, List.map_append]
      exact own_moved hown1 (fun g cs hg hh => blk_far hh (by show g ≠ w.heap.size + 1; omega) _)
    · intro z hz
      rcases List.mem_append.1 hz with hz | hz
      · exact own_moved (h3 z hz) (fun g cs hg hh => hk g cs _ _ hg hh (by decide))
      · obtain rfl := List.mem_singleton.1 hz
        exact own_moved hy (fun g cs hg hh => hk g cs _ _ hg hh (by decide))
    · exact (h4.grown hgt h4.size (fun r e => by have := (row_apart h2 e).1; omega)).setCell (p := ⟨w.heap.size + 1, 0, none⟩) (by show w.heap.size ≤ w.heap.size + 1; omega) _
  case done =>
    rintro D ys W hD hys ⟨L, h1, h2, h3, h4⟩ hK
    have kc := (blk_cell h1 0).trans rfl
    obtain ⟨AL, cL, rfl⟩ := row_slice h2
    gi_wp2
    refine ⟨by simp, .inl ⟨_, _, rfl, run_takeDeferred hK, ?_⟩⟩
    exact ⟨_, results_tmp rfl _ _ _, _, ys, rfl, hys, ownsRow_putObj (own_weaken h2 (by omega)) _ hK rfl, fun y hy => ownsRow_putObj (own_weaken (h3 y hy) (by omega)) _ hK rfl, h4.trans (belowK_b (w := w) (Nat.le_refl _) W D _ _ (by omega) hK rfl rfl)⟩
  case stop =>
    rintro D c pre W _ _ h _
    exact h.elim
end Go.Proofs.Ytfcfnnkepjoncaa.Hand

-- value.At, and the comparison of two paths.
namespace Go.Proofs.Ytfcfnnkepjoncaa.Hand
open Go.RowKit Go.Shelf Go.Proofs.YtfcfnnkepjoncaaW.PrintWords Go.Proofs.YtfcfnnkepjoncaaW.PrintLast Go.Proofs.YtfcfnnkepjoncaaW.PrintMore Go.Proofs.Ytfcfnnkepjoncaa.PC
attribute [local go_sem] Oper.semAt_some
set_option linter.unusedVariables false
set_option linter.unusedSimpArgs false

/-- the value at a path -/
def getK : S44 → List Int → Option S44
  | t, [] => some t
  | t, i :: is => if 0 ≤ i ∧ i < (t.f4.length : Int) then getK (rd_T44 t.f4 i) is else none
mutual
theorem preP_get : ∀ (x : S44) (qs : List Int) (d : S44 × List Int), d ∈ preP x qs → ∃ rs, d.2 = qs ++ rs ∧ getK x rs = some d.1
  | ⟨a, b, c, e, l⟩, qs, d, h => by
    rw [preP] at h
    rcases List.mem_cons.1 h with rfl | h
    · exact ⟨[], by simp, rfl⟩
    · obtain ⟨j, rs, hj, h1, h2⟩ := prePL_get l qs 0 d h
      refine ⟨(((0 + j : Nat) : Nat) : Int) :: rs, h1, ?_⟩
      rw [getK]
      simp only [Nat.zero_add]
      rw [if_pos ⟨by omega, by show (j : Int) < (l.length : Int); omega⟩]; exact h2
theorem prePL_get : ∀ (l : List S44) (qs : List Int) (i : Nat) (d : S44 × List Int), d ∈ prePL l qs i → ∃ (j : Nat) (rs : List Int), j < l.length ∧ d.2 = qs ++ (((i + j : Nat) : Int) :: rs) ∧ getK (rd_T44 l (j : Int)) rs = some d.1
  | [], qs, i, d, h => by rw [prePL] at h; cases h
  | t :: ts, qs, i, d, h => by
    rw [prePL, List.mem_append] at h
    rcases h with h | h
    · obtain ⟨rs, h1, h2⟩ := preP_get t _ d h
      exact ⟨0, rs, by simp, by rw [h1, List.append_assoc]; rfl, h2⟩
    · obtain ⟨j, rs, hj, h1, h2⟩ := prePL_get ts qs (i + 1) d h
      refine ⟨j + 1, rs, by simp; omega, by rw [h1]; have e : i + 1 + j = i + (j + 1) := by omega
                                            rw [e], ?_⟩
      have e : rd_T44 (t :: ts) ((j + 1 : Nat) : Int) = rd_T44 ts (j : Int) := by unfold rd_T44; simp
      rw [e]; exact h2
end
/-- a path that reads -/
def PathAt (w : World) (Ap : Option Addr) (qs : List Int) : Prop := ∀ j : Nat, j < qs.length → ∃ ad q, Ap = some ad ∧ qs[j]? = some q ∧ w.cell? (ad.add j) = some (.int .i64 q)
theorem PathAt.of {w : World} {B : Nat} {p : Value} {qs : List Int} (h : w.ownsRow B 3 1 p qs.length (qs.map (Value.int .i64))) : ∃ Ap cp, p = .slice Ap qs.length cp ∧ PathAt w Ap qs := by
  have h' : w.ownsRow B 3 1 p (qs.map (Value.int .i64)).length (qs.map (Value.int .i64)) := by rw [List.length_map]; exact h
  obtain ⟨Ap, cp, h1, h2⟩ := path_open h'
  rw [List.length_map] at h1
  refine ⟨Ap, cp, h1, fun j hj => ?_⟩
  rcases h2 with ⟨_, h2, _⟩ | ⟨g, rfl, _, _, cs, hh, ht⟩
  · rw [List.map_eq_nil_iff] at h2; subst h2; simp at hj
  · refine ⟨⟨g, 0, none⟩, qs[j], rfl, List.getElem?_eq_getElem hj, path_cells hh ht j _ (by simp [List.getElem?_eq_getElem hj])⟩
theorem PathAt.below {w w' : World} {Ap : Option Addr} {qs : List Int} (h : PathAt w Ap qs) (hb : Below w.heap.size w w') : PathAt w' Ap qs := fun j hj => by
  obtain ⟨ad, q, h1, h2, h3⟩ := h j hj
  exact ⟨ad, q, h1, h2, (hb.cell (World.block_lt_of_cell? _ _ h3)).trans h3⟩
set_option maxRecDepth 100000 in
set_option maxHeartbeats 8000000 in
/-- the comparison of two paths -/
theorem path_calls (ps qs : List Int) (Ap Aq : Option Addr) (cp cq : Nat) (w : World) (hp : PathAt w Ap ps) (hq : PathAt w Aq qs) (hl : ps.length < 9223372036854775807) :
    Calls Try.prog 27 #[.slice Ap ps.length cp, .slice Aq qs.length cq] w fun e w' => e = .returned (.bool (decide (ps = qs))) ∧ Below w.heap.size w w' := by
  by_cases hlen : ps.length = qs.length
  · have hne : ¬ ((ps.length : Int) ≠ (qs.length : Int)) := by omega
    have hne2 : ((ps.length : Int) != (qs.length : Int)) = false := by rw [hlen]; simp
    have HB0 := Below.refl w.heap.size w
    go_enter Try.func27, Try.ntmps27
    go_wp2
    go_loopg [5] ps.length (fun kq v5 wr => ∃ j : Nat, v5 = .int .i64 j ∧ j + kq = ps.length ∧ ps.take j = qs.take j ∧ Below w.heap.size w wr)
    case atStart => exact ⟨0, rfl, by omega, rfl, HB0⟩
    case round =>
      clear HB0
      obtain ⟨j, rfl, hj, heq, HB⟩ := hrel
      cases gk with
      | zero =>
        obtain rfl : j = ps.length := by omega
        have hd : ps = qs := by rw [List.take_length, hlen, List.take_length] at heq; exact heq
        go_wp2
        go_ret
        exact ⟨by simp [hd], HB⟩
      | succ d =>
        have hlt : (j : Int) < (ps.length : Int) := by omega
        have hlt2 : (j : Int) < (qs.length : Int) := by omega
        obtain ⟨a1, q1, rfl, e1, z1⟩ := hp j (by omega)
        obtain ⟨a2, q2, rfl, e2, z2⟩ := hq j (by omega)
        have y1 := (HB.cell (World.block_lt_of_cell? _ _ z1)).trans z1
        have y2 := (HB.cell (World.block_lt_of_cell? _ _ z2)).trans z2
        have E1 : Hid _ := Lib.hid e1
        have E2 : Hid _ := Lib.hid e2
        have HQ : Hid _ := Lib.hid heq
        clear z1 z2 e1 e2 heq hp hq
        by_cases hqq : q1 = q2
        · have hq1 : (q1 != q2) = false := by rw [hqq]; simp
          go_wp2
          go_quiet (fail)
          go_wp2
          go_roundg d
          case rel => exact ⟨j + 1, by go_num, by omega, by rw [List.take_add_one, List.take_add_one, HQ.out, E1.out, E2.out, hqq], pw_below_drewN HB _⟩
          case measure => omega
        · have hq1 : (q1 != q2) = true := bne_iff_ne.mpr hqq
          go_wp2
          go_quiet (fail)
          go_wp2
          go_ret
          exact ⟨by have h_ : ¬ ps = qs := fun e => hqq (by have h1 := E1.out; rw [e, E2.out] at h1; exact (Option.some.inj h1).symm)
                    simp [h_], pw_below_drewN HB _⟩
  · have hne : ((ps.length : Int) ≠ (qs.length : Int)) := by omega
    have hne2 : ((ps.length : Int) != (qs.length : Int)) = true := bne_iff_ne.mpr hne
    have HB0 := Below.refl w.heap.size w
    go_enter Try.func27, Try.ntmps27
    go_wp2
    go_ret
    exact ⟨by have h_ : ¬ ps = qs := fun e => hlen (by rw [e]); simp [h_], HB0⟩
theorem getK_drop {y t : S44} {qs : List Int} {j : Nat} {q : Int} (hq : qs[j]? = some q) (h : getK y (qs.drop j) = some t) : 0 ≤ q ∧ q < (y.f4.length : Int) ∧ getK (rd_T44 y.f4 q) (qs.drop (j + 1)) = some t := by
  have hj : j < qs.length := (List.getElem?_eq_some_iff.1 hq).1
  have e : qs[j] = q := (List.getElem?_eq_some_iff.1 hq).2
  rw [List.drop_eq_getElem_cons hj, e, getK] at h
  split at h
  · rename_i h1; exact ⟨h1.1, h1.2, h⟩
  · cases h
set_option maxRecDepth 100000 in
set_option maxHeartbeats 8000000 in
/-- value.At, of a path that is there -/
theorem at_calls (x t : S44) (A : Option Addr) (c : Nat) (qs : List Int) (Ap : Option Addr) (cp : Nat) (w0 w : World) (hp : PathAt w Ap qs) (hc : x.f4.length ≤ c) (hC : Kd.C k44 w0 A x.f4.length x.f4) (hb0 : Below w0.heap.size w0 w) (hg : getK x qs = some t) (hl : qs.length < 9223372036854775807) :
    Calls Try.prog 24 #[.agg #[.int .i64 x.f0, .bool x.f1, .int .u64 x.f2, .string x.f3, .slice A x.f4.length c], .slice Ap qs.length cp] w fun e w' => ∃ A' c', e = .returned (.tuple #[.agg #[.int .i64 t.f0, .bool t.f1, .int .u64 t.f2, .string t.f3, .slice A' t.f4.length c'], .int .i64 0]) ∧ t.f4.length ≤ c' ∧ Kd.C k44 w0 A' t.f4.length t.f4 ∧ Below w.heap.size w w' := by
  have B1 : Below w.heap.size w ((w.alloc (.cells #[.int .i64 x.f0, .bool x.f1, .int .u64 x.f2, .string x.f3, .slice A x.f4.length c] 44)).alloc (.cells #[.int .i64 0, .bool false, .int .u64 0, .string (⟨#[]⟩ : ByteArray), .slice none 0 0] 44)) := ((Below.refl _ w).alloc (Nat.le_refl _) _).alloc (by simp) _
  have bx := blk_alloc (heap_alloc_new w (.cells #[.int .i64 x.f0, .bool x.f1, .int .u64 x.f2, .string x.f3, .slice A x.f4.length c] 44)) (.cells #[.int .i64 0, .bool false, .int .u64 0, .string (⟨#[]⟩ : ByteArray), .slice none 0 0] 44)
  have br : ((w.alloc (.cells #[.int .i64 x.f0, .bool x.f1, .int .u64 x.f2, .string x.f3, .slice A x.f4.length c] 44)).alloc (.cells #[.int .i64 0, .bool false, .int .u64 0, .string (⟨#[]⟩ : ByteArray), .slice none 0 0] 44)).heap[w.heap.size + 1]? = some (.cells #[.int .i64 0, .bool false, .int .u64 0, .string (⟨#[]⟩ : ByteArray), .slice none 0 0] 44 (0, 0)) := by have h_ := heap_alloc_new (w.alloc (.cells #[.int .i64 x.f0, .bool x.f1, .int .u64 x.f2, .string x.f3, .slice A x.f4.length c] 44)) (.cells #[.int .i64 0, .bool false, .int .u64 0, .string (⟨#[]⟩ : ByteArray), .slice none 0 0] 44); rwa [World.size_alloc] at h_
  have HG : Hid _ := Lib.hid hg
  clear hg
  go_enter Try.func24, Try.ntmps24
  go_wp2
  go_loopg [7, 10] qs.length (fun kq v7 v10 wr => ∃ (j : Nat) (y : S44) (Ay : Option Addr) (cy : Nat), v10 = .int .i64 j ∧ j + kq = qs.length ∧ wr.heap[w.heap.size]? = some (.cells #[.int .i64 y.f0, .bool y.f1, .int .u64 y.f2, .string y.f3, .slice Ay y.f4.length cy] 44 (0, 0)) ∧
    wr.heap[w.heap.size + 1]? = some (.cells #[.int .i64 0, .bool false, .int .u64 0, .string (⟨#[]⟩ : ByteArray), .slice none 0 0] 44 (0, 0)) ∧ y.f4.length ≤ cy ∧ Kd.C k44 w0 Ay y.f4.length y.f4 ∧ getK y (qs.drop j) = some t ∧ Below w.heap.size w wr)
  case atStart => exact ⟨0, x, A, c, rfl, by omega, bx, br, hc, hC, HG.out, B1⟩
  case round =>
    clear B1 bx br HG hc hC
    obtain ⟨j, y, Ay, cy, rfl, hj, bx, br, hcy, hCy, hgy, HB⟩ := hrel
    have k0 := (blk_cell bx 0).trans rfl
    have k1 := (blk_cell bx 1).trans rfl
    have k2 := (blk_cell bx 2).trans rfl
    have k3 := (blk_cell bx 3).trans rfl
    have k4 := (blk_cell bx 4).trans rfl
    have kf0 := blk_frozen bx 0
    have kf1 := blk_frozen bx 1
    have kf2 := blk_frozen bx 2
    have kf3 := blk_frozen bx 3
    have kf4 := blk_frozen bx 4
    cases gk with
    | zero =>
      obtain rfl : j = qs.length := by omega
      obtain rfl : y = t := by rw [List.drop_length] at hgy; exact Option.some.inj hgy
      clear hgy
      have r0 := (blk_cell br 0).trans rfl
      have r1 := (blk_cell br 1).trans rfl
      have r2 := (blk_cell br 2).trans rfl
      have r3 := (blk_cell br 3).trans rfl
      have r4 := (blk_cell br 4).trans rfl
      have rf0 := blk_frozen br 0
      have rf1 := blk_frozen br 1
      have rf2 := blk_frozen br 2
      have rf3 := blk_frozen br 3
      have rf4 := blk_frozen br 4
      go_wp2
      have bs := blk_set (blk_set (blk_set (blk_set (blk_set br 0 (.int .i64 y.f0)) 1 (.bool y.f1)) 2 (.int .u64 y.f2)) 3 (.string y.f3)) 4 (.slice Ay y.f4.length cy)
      have HBs := ((((HB.setCell (p := ⟨w.heap.size + 1, 0, none⟩) (by show w.heap.size ≤ w.heap.size + 1; omega) (.int .i64 y.f0)).setCell (p := ⟨w.heap.size + 1, 1, none⟩) (by show w.heap.size ≤ w.heap.size + 1; omega) (.bool y.f1)).setCell (p := ⟨w.heap.size + 1, 2, none⟩) (by show w.heap.size ≤ w.heap.size + 1; omega) (.int .u64 y.f2)).setCell (p := ⟨w.heap.size + 1, 3, none⟩) (by show w.heap.size ≤ w.heap.size + 1; omega) (.string y.f3)).setCell (p := ⟨w.heap.size + 1, 4, none⟩) (by show w.heap.size ≤ w.heap.size + 1; omega) (.slice Ay y.f4.length cy)
      have s0 := (blk_cell bs 0).trans rfl
      have s1 := (blk_cell bs 1).trans rfl
      have s2 := (blk_cell bs 2).trans rfl
      have s3 := (blk_cell bs 3).trans rfl
      have s4 := (blk_cell bs 4).trans rfl
      clear r0 r1 r2 r3 r4 rf0 rf1 rf2 rf3 rf4 kf0 kf1 kf2 kf3 kf4 k0 k1 k2 k3 k4 bs
      generalize hW : (((((wr.setCell _ _).setCell _ _).setCell _ _).setCell _ _).setCell _ _ : World) = W at *
      exact bodyPost_ret (v := .tuple #[.agg #[.int .i64 y.f0, .bool y.f1, .int .u64 y.f2, .string y.f3, .slice Ay y.f4.length cy], .int .i64 0]) (by simp [go_sem, results, Try.results24, s0, s1, s2, s3, s4]) rfl ⟨Ay, cy, rfl, hcy, hCy, HBs⟩
    | succ d =>
      have hlt : (j : Int) < (qs.length : Int) := by omega
      have HB0 := below_step hb0 HB
      obtain ⟨ap, q, rfl, e1, z1⟩ := hp j (by omega)
      obtain ⟨hq0, hq1, hgq⟩ := getK_drop e1 hgy
      have y1 := (HB.cell (World.block_lt_of_cell? _ _ z1)).trans z1
      obtain ⟨ad, A4, c4, rfl, z0, z1, z2, z3, z4, hl4, hC4⟩ := at_T44 hCy q hq0 hq1
      obtain ⟨u, hu⟩ : ∃ u, rd_T44 y.f4 q = u := ⟨_, rfl⟩
      rw [hu] at z0 z1 z2 z3 z4 hl4 hC4 hgq
      have e0 := (HB0.cell (World.block_lt_of_cell? _ _ z0)).trans z0
      have e1 := (HB0.cell (World.block_lt_of_cell? _ _ z1)).trans z1
      have e2 := (HB0.cell (World.block_lt_of_cell? _ _ z2)).trans z2
      have e3 := (HB0.cell (World.block_lt_of_cell? _ _ z3)).trans z3
      have e4 := (HB0.cell (World.block_lt_of_cell? _ _ z4)).trans z4
      clear z0 z1 z2 z3 z4 HB0
      have HQ : Hid _ := Lib.hid hgq
      clear hgq hgy hp hu
      have hq1' : ¬ (y.f4.length : Int) ≤ q := by omega
      have hq0' : ¬ q < 0 := by omega
      go_wp2
      have bs := blk_set (blk_set (blk_set (blk_set (blk_set bx 0 (.int .i64 u.f0)) 1 (.bool u.f1)) 2 (.int .u64 u.f2)) 3 (.string u.f3)) 4 (.slice A4 u.f4.length c4)
      have bs2 := blk_far (blk_far (blk_far (blk_far (blk_far br (p := ⟨w.heap.size, 0, none⟩) (by show w.heap.size + 1 ≠ w.heap.size; omega) (.int .i64 u.f0)) (p := ⟨w.heap.size, 1, none⟩) (by show w.heap.size + 1 ≠ w.heap.size; omega) (.bool u.f1)) (p := ⟨w.heap.size, 2, none⟩) (by show w.heap.size + 1 ≠ w.heap.size; omega) (.int .u64 u.f2)) (p := ⟨w.heap.size, 3, none⟩) (by show w.heap.size + 1 ≠ w.heap.size; omega) (.string u.f3)) (p := ⟨w.heap.size, 4, none⟩) (by show w.heap.size + 1 ≠ w.heap.size; omega) (.slice A4 u.f4.length c4)
      have HBs := ((((HB.setCell (p := ⟨w.heap.size, 0, none⟩) (Nat.le_refl _) (.int .i64 u.f0)).setCell (p := ⟨w.heap.size, 1, none⟩) (Nat.le_refl _) (.bool u.f1)).setCell (p := ⟨w.heap.size, 2, none⟩) (Nat.le_refl _) (.int .u64 u.f2)).setCell (p := ⟨w.heap.size, 3, none⟩) (Nat.le_refl _) (.string u.f3)).setCell (p := ⟨w.heap.size, 4, none⟩) (Nat.le_refl _) (.slice A4 u.f4.length c4)
      go_roundg d
      case rel => exact ⟨j + 1, u, A4, c4, by go_num, by omega, by simpa using bs, bs2, hl4, hC4, HQ.out, HBs⟩
      case measure => omega
end Go.Proofs.Ytfcfnnkepjoncaa.Hand

-- The law FitsAhead: its walk.
namespace Go.Proofs.Ytfcfnnkepjoncaa.Hand
open Go.RowKit Go.Shelf Go.Proofs.YtfcfnnkepjoncaaW.PrintWords Go.Proofs.YtfcfnnkepjoncaaW.PrintLast Go.Proofs.YtfcfnnkepjoncaaW.PrintMore Go.Proofs.Ytfcfnnkepjoncaa.PC
attribute [local go_sem] Oper.semAt_some
set_option linter.unusedVariables false
set_option linter.unusedSimpArgs false
/-- a list of paths that reads -/
def LAt (w : World) (AL : Option Addr) (l : List (S44 × List Int)) : Prop := ∀ (j : Nat) (d : S44 × List Int), l[j]? = some d → ∃ ad Ap cp, AL = some ad ∧ w.cell? (ad.add j) = some (.slice Ap d.2.length cp) ∧ PathAt w Ap d.2
theorem LAt.below {w w' : World} {AL : Option Addr} {l : List (S44 × List Int)} (h : LAt w AL l) (hb : Below w.heap.size w w') : LAt w' AL l := fun j d hd => by
  obtain ⟨ad, Ap, cp, h1, h2, h3⟩ := h j d hd
  exact ⟨ad, Ap, cp, h1, (hb.cell (World.block_lt_of_cell? _ _ h2)).trans h2, h3.below hb⟩
theorem paths_calls (x : S44) (A : Option Addr) (c : Nat) (w : World) (hN : (preT x).length ≤ 65536) (hc : x.f4.length ≤ c) (hC : Kd.C k44 w A x.f4.length x.f4) :
    Calls Try.prog 26 #[.agg #[.int .i64 x.f0, .bool x.f1, .int .u64 x.f2, .string x.f3, .slice A x.f4.length c]] w fun e w' => ∃ AL cL, e = .returned (.slice AL (preP x []).length cL) ∧ LAt w' AL (preP x []) ∧ Below w.heap.size w w' := by
  refine (callsIn_wide.1 (paths_in x A c w hN hc hC)).mono ?_
  rintro e w' ⟨L, ys, rfl, hys, hrow, hr, hb⟩
  have hl : ys.length = (preP x []).length := by rw [← hys, List.length_map]
  obtain ⟨AL, cL, rfl⟩ := row_slice hrow
  refine ⟨AL, cL, by rw [hl], fun j d hd => ?_, hb⟩
  rw [← hys, List.getElem?_map] at hd
  obtain ⟨y, hy, rfl⟩ := Option.map_eq_some_iff.1 hd
  obtain ⟨Ap, cp, h1, h2⟩ := PathAt.of (hr y (List.mem_of_getElem? hy))
  have hj : (ys.map (·.1.1))[j]? = some (.slice Ap y.1.2.2.2.length cp) := by rw [List.getElem?_map, hy, ← h1]; rfl
  obtain ⟨_, ⟨he, hn⟩ | ⟨g, cap, cur, he, _⟩⟩ := id hrow
  · have : ys = [] := List.length_eq_zero_iff.1 hn
    subst this; simp at hy
  · cases he
    exact ⟨_, Ap, cp, rfl, hrow.cells (g := g) rfl j _ hj, h2⟩
theorem s5_far {w : World} {a : Addr} {v v0 v1 v2 v3 v4 : Value} {g : Nat} (h : w.cell? a = some v) (hne : g ≠ a.block) : (((((w.setCell ⟨g, 0, none⟩ v0).setCell ⟨g, 1, none⟩ v1).setCell ⟨g, 2, none⟩ v2).setCell ⟨g, 3, none⟩ v3).setCell ⟨g, 4, none⟩ v4).cell? a = some v := by
  rw [World.cell?_setCell_far _ _ _ _ hne, World.cell?_setCell_far _ _ _ _ hne, World.cell?_setCell_far _ _ _ _ hne, World.cell?_setCell_far _ _ _ _ hne, World.cell?_setCell_far _ _ _ _ hne]; exact h
theorem getK_mem {x : S44} {d : S44 × List Int} (h : d ∈ preP x []) : getK x d.2 = some d.1 := by
  obtain ⟨rs, h1, h2⟩ := preP_get x [] d h
  rw [h1]; exact h2
theorem one_some (f : Int) (t : S44) (hf : 0 ≤ f ∧ f ≤ 3) : fits_One.f 1 f t.f0 t.f1 t.f2 t.f3 t.f4 = some (saysK f t, 0) := by
  unfold fits_One.f
  rw [right_true hf]
  simp only [Option.bind_some, if_true, saysK_eq]
theorem path_short : ∀ {x : S44} {qs : List Int} {t : S44}, getK x qs = some t → (preT x).length ≤ 65536 → qs.length < 9223372036854775807 := by
  have h : ∀ (qs : List Int) (x t : S44), getK x qs = some t → qs.length + 1 ≤ (preT x).length := by
    intro qs
    induction qs with
    | nil => intro x t _; rw [preT_eq]; simp
    | cons i is ih =>
      intro x t hg
      rw [getK] at hg
      split at hg
      · rename_i hi
        have h1 := ih _ _ hg
        have h2 := child_len (l := x.f4) (i := i.toNat) (by omega)
        rw [show ((i.toNat : Nat) : Int) = i by omega] at h2
        rw [preT_eq, List.length_cons, List.length_cons]; omega
      · cases hg
  intro x qs t hg hx
  have := h qs x t hg
  omega
set_option maxRecDepth 100000 in
set_option maxHeartbeats 16000000 in
/-- where First finds none -/
theorem ahead_none (f : Int) (x : S44) (A : Option Addr) (c : Nat) (w : World) (E : Int) (hC : Kd.C k44 w A x.f4.length x.f4)
    (kF : ∀ W, Kd.C k44 W A x.f4.length x.f4 → Calls Try.prog 23 #[.int .i64 f, .agg #[.int .i64 x.f0, .bool x.f1, .int .u64 x.f2, .string x.f3, .slice A x.f4.length c]] W fun e w' => e = .returned (.tuple #[.slice none 0 0, .bool false, .int .i64 E]) ∧ Below W.heap.size W w') :
    Calls Try.prog 10 #[.int .i64 f, .agg #[.int .i64 x.f0, .bool x.f1, .int .u64 x.f2, .string x.f3, .slice A x.f4.length c]] w fun e w' => e = .returned (.bool true) ∧ Below w.heap.size w w' := by
  have HB := (Below.refl _ w).alloc (Nat.le_refl _) (.cells #[.int .i64 x.f0, .bool x.f1, .int .u64 x.f2, .string x.f3, .slice A x.f4.length c] 44)
  have k1 := kF _ (Kd.C_below hC HB)
  clear kF
  by_cases hE : E = 0
  · subst hE
    go_enter Try.func10, Try.ntmps10
    go_wp2_with (first | (go_at_call 23; (with_reducible refine k1.mono ?_); clear k1; rintro e w1 ⟨rfl, hb_⟩; have n1_ := below_step HB hb_; clear HB; have HB := n1_; clear n1_ hb_) | (go_at_call 20; refine (awake_call _).mono ?_; rintro e w1 ⟨rfl, hb_⟩; have n1_ := below_step HB hb_; clear HB; have HB := n1_; clear n1_ hb_))
    go_ret
    exact ⟨rfl, HB⟩
  · have hE1 : (E != 0) = true := bne_iff_ne.mpr hE
    clear hE
    go_enter Try.func10, Try.ntmps10
    go_wp2_with (first | (go_at_call 23; (with_reducible refine k1.mono ?_); clear k1; rintro e w1 ⟨rfl, hb_⟩; have n1_ := below_step HB hb_; clear HB; have HB := n1_; clear n1_ hb_) | (go_at_call 20; refine (awake_call _).mono ?_; rintro e w1 ⟨rfl, hb_⟩; have n1_ := below_step HB hb_; clear HB; have HB := n1_; clear n1_ hb_))
    go_ret
    exact ⟨rfl, HB⟩
set_option maxRecDepth 100000 in
set_option maxHeartbeats 16000000 in
/-- where First finds one -/
theorem ahead_found (f : Int) (x : S44) (A : Option Addr) (c : Nat) (w : World) (hf : 0 ≤ f ∧ f ≤ 3) (hc : x.f4.length ≤ c) (hC : Kd.C k44 w A x.f4.length x.f4) (hN : (preT x).length ≤ 65536) (k : Nat) (t : S44) (ps : List Int) (b : Bool)
    (hk : (preP x [])[k]? = some (t, ps)) (hgt : getK x ps = some t) (hs : saysK f t = b) (hb : b = true → f = 0 ∧ t.f0 ≠ 10) (hlt : ∀ j, j < k → ∃ u qs, (preP x [])[j]? = some (u, qs) ∧ saysK f u = true)
    (kF : ∀ W, Kd.C k44 W A x.f4.length x.f4 → Calls Try.prog 23 #[.int .i64 f, .agg #[.int .i64 x.f0, .bool x.f1, .int .u64 x.f2, .string x.f3, .slice A x.f4.length c]] W fun e w' => ∃ Ap cp, e = .returned (.tuple #[.slice Ap ps.length cp, .bool true, .int .i64 0]) ∧ PathAt w' Ap ps ∧ Below W.heap.size W w') :
    Calls Try.prog 10 #[.int .i64 f, .agg #[.int .i64 x.f0, .bool x.f1, .int .u64 x.f2, .string x.f3, .slice A x.f4.length c]] w fun e w' => e = .returned (.bool true) ∧ Below w.heap.size w w' := by
  have HB := (Below.refl _ w).alloc (Nat.le_refl _) (.cells #[.int .i64 x.f0, .bool x.f1, .int .u64 x.f2, .string x.f3, .slice A x.f4.length c] 44)
  have BV := heap_alloc_new w (.cells #[.int .i64 x.f0, .bool x.f1, .int .u64 x.f2, .string x.f3, .slice A x.f4.length c] 44)
  have z0 := (blk_cell BV 0).trans rfl
  have z1 := (blk_cell BV 1).trans rfl
  have z2 := (blk_cell BV 2).trans rfl
  have z3 := (blk_cell BV 3).trans rfl
  have z4 := (blk_cell BV 4).trans rfl
  have k1 := kF _ (Kd.C_below hC HB)
  have hl63 := path_short hgt hN
  have h1 := one_some f t hf
  rw [hs] at h1
  have HS : Hid _ := Lib.hid hs
  have HK : Hid _ := Lib.hid hk
  have HL : Hid _ := Lib.hid hlt
  have HN : Hid _ := Lib.hid hN
  have HF : Hid _ := Lib.hid hf
  have HG : Hid _ := Lib.hid hgt
  clear kF hs hk hlt hN hf hgt
  have hkn : k < (preP x []).length := (List.getElem?_eq_some_iff.1 HK.out).1
  have hn63 : (preP x []).length < 9223372036854775807 := by have h_ := HN.out; rw [← preP_fst x [], List.length_map] at h_; omega
  cases b
  case' true =>
    obtain ⟨rfl, h10⟩ := hb rfl
    have h10' : (t.f0 == 10) = false := beq_eq_false_iff_ne.mpr h10
    clear h10
  all_goals
    clear hb
    go_enter Try.func10, Try.ntmps10
    go_wp2_with (first | (go_at_call 23; (with_reducible refine k1.mono ?_); clear k1; rintro e w1 ⟨Ap, cp, rfl, hp, hb_⟩; have n1_ := below_step HB hb_; have n2_ := blk_below BV hb_; clear HB BV z0 z1 z2 z3 z4; have HB := n1_; have BV := n2_; clear n1_ n2_ hb_; have z0 := (blk_cell BV 0).trans rfl; have z1 := (blk_cell BV 1).trans rfl; have z2 := (blk_cell BV 2).trans rfl; have z3 := (blk_cell BV 3).trans rfl; have z4 := (blk_cell BV 4).trans rfl) | (go_at_call 24; (with_reducible refine (at_calls x t A c ps Ap cp _ _ hp hc (Kd.C_below hC HB) (Below.refl _ _) HG.out hl63).mono ?_); rintro e w2 ⟨A2, c2, rfl, hc2, hC2, hb_⟩; have hC2_ := Kd.C_below hC2 hb_; have hp_ := hp.below hb_; clear hC2 hp; have n1_ := below_step HB hb_; have n2_ := blk_below BV hb_; clear HB BV z0 z1 z2 z3 z4; have HB := n1_; have BV := n2_; clear n1_ n2_ hb_; have z0 := (blk_cell BV 0).trans rfl; have z1 := (blk_cell BV 1).trans rfl; have z2 := (blk_cell BV 2).trans rfl; have z3 := (blk_cell BV 3).trans rfl; have z4 := (blk_cell BV 4).trans rfl) | (go_at_call 25; refine (fits_One.calls 1 _ _ _ _ _ A2 c2 _ _ _ _ (Kd.C_below hC2_ ((Below.refl _ _).alloc (Nat.le_refl _) _)) hc2 h1).mono ?_; rintro e w3 ⟨rfl, hb_⟩; have HB_ := below_alloc HB (.cells #[.int .i64 t.f0, .bool t.f1, .int .u64 t.f2, .string t.f3, .slice A2 t.f4.length c2] 44); have BV_ := blk_alloc BV (.cells #[.int .i64 t.f0, .bool t.f1, .int .u64 t.f2, .string t.f3, .slice A2 t.f4.length c2] 44); have BT := blk_below (heap_alloc_new w2 (.cells #[.int .i64 t.f0, .bool t.f1, .int .u64 t.f2, .string t.f3, .slice A2 t.f4.length c2] 44)) hb_; have y0 := (blk_cell BT 0).trans rfl; have hp3 := (hp_.below ((Below.refl _ _).alloc (Nat.le_refl _) (.cells #[.int .i64 t.f0, .bool t.f1, .int .u64 t.f2, .string t.f3, .slice A2 t.f4.length c2] 44))).below hb_; have n1_ := below_step HB_ hb_; have n2_ := blk_below BV_ hb_; clear HB BV HB_ BV_ z0 z1 z2 z3 z4 hp_ hC2_; have HB := n1_; have BV := n2_; clear n1_ n2_ hb_; have z0 := (blk_cell BV 0).trans rfl; have z1 := (blk_cell BV 1).trans rfl; have z2 := (blk_cell BV 2).trans rfl; have z3 := (blk_cell BV 3).trans rfl; have z4 := (blk_cell BV 4).trans rfl) | (go_at_call 26; refine (paths_calls x A c _ HN.out hc (Kd.C_below hC HB)).mono ?_; rintro e w4 ⟨AL, cL, rfl, hLA, hb_⟩; have hp4 := hp3.below hb_; clear hp3 BT y0; have n1_ := below_step HB hb_; have n2_ := blk_below BV hb_; clear HB BV z0 z1 z2 z3 z4; have HB := n1_; have BV := n2_; clear n1_ n2_ hb_; have z0 := (blk_cell BV 0).trans rfl; have z1 := (blk_cell BV 1).trans rfl; have z2 := (blk_cell BV 2).trans rfl; have z3 := (blk_cell BV 3).trans rfl; have z4 := (blk_cell BV 4).trans rfl))
    clear z0 z1 z2 z3 z4 HS HG h1
    go_loopg [13, 14, 15, 16, 17] k (fun kq v13 v14 v15 v16 v17 wr => ∃ j : Nat, j + kq = k ∧ v13 = .int .i64 j ∧ wr.heap[w.heap.size]? = some (.cells #[.int .i64 x.f0, .bool x.f1, .int .u64 x.f2, .string x.f3, .slice A x.f4.length c] 44 (0, 0)) ∧ LAt wr AL (preP x []) ∧ PathAt wr Ap ps ∧ Below w.heap.size w wr)
    case atStart => exact ⟨0, by omega, rfl, BV, hLA, hp4, HB⟩
    case round =>
      clear HB BV hLA hp4
      obtain ⟨j, hj, rfl, BV, hLA, hp, HB⟩ := hrel
      have z0 := (blk_cell BV 0).trans rfl
      have z1 := (blk_cell BV 1).trans rfl
      have z2 := (blk_cell BV 2).trans rfl
      have z3 := (blk_cell BV 3).trans rfl
      have z4 := (blk_cell BV 4).trans rfl
      cases gk with
      | zero =>
        obtain rfl : j = k := by omega
        obtain ⟨aL, Aq, cq, rfl, cl, hq⟩ := hLA j _ HK.out
        have kP := path_calls ps ps Aq Ap cq cp wr hq hp hl63
        simp only [decide_true] at kP
        have hlt : (j : Int) < ((preP x []).length : Int) := by omega
        clear HK HL HN
        go_wp2_with (first | (go_at_call 27; (with_reducible refine kP.mono ?_); clear kP; rintro e w5 ⟨rfl, hb_⟩; have cl5 := (hb_.cell (World.block_lt_of_cell? _ _ cl)).trans cl; have hq5 := hq.below hb_; have hp5 := hp.below hb_; have hL5 := hLA.below hb_; have n1_ := below_step HB hb_; have n2_ := blk_below BV hb_; clear HB BV z0 z1 z2 z3 z4 cl hq hp hLA; have HB := n1_; have BV := n2_; clear n1_ n2_ hb_; have z0 := (blk_cell BV 0).trans rfl; have z1 := (blk_cell BV 1).trans rfl; have z2 := (blk_cell BV 2).trans rfl; have z3 := (blk_cell BV 3).trans rfl; have z4 := (blk_cell BV 4).trans rfl) | (go_at_call 20; refine (awake_call _).mono ?_; rintro e w6 ⟨rfl, hb_⟩; have n1_ := below_step HB hb_; clear HB; have HB := n1_; clear n1_ hb_))
        go_ret
        exact ⟨rfl, HB⟩
      | succ d =>
        obtain ⟨u, qs, e1, e2⟩ := HL.out j (by omega)
        have hlt : (j : Int) < ((preP x []).length : Int) := by omega
        have hgu : getK x qs = some u := getK_mem (List.mem_of_getElem? e1)
        have hq63 := path_short hgu HN.out
        obtain ⟨aL, Aq, cq, rfl, cl, hq⟩ := hLA j _ e1
        dsimp only at cl hq
        have kP := path_calls qs ps Aq Ap cq cp wr hq hp hq63
        have H1 : Hid _ := Lib.hid e2
        have H2 : Hid _ := Lib.hid hgu
        clear e1 e2 hgu
        by_cases hqp : qs = ps
        · simp only [decide_eq_true hqp] at kP
          clear hqp
          go_wp2_with (first | (go_at_call 27; (with_reducible refine kP.mono ?_); clear kP; rintro e w5 ⟨rfl, hb_⟩; have cl5 := (hb_.cell (World.block_lt_of_cell? _ _ cl)).trans cl; have hq5 := hq.below hb_; have hp5 := hp.below hb_; have hL5 := hLA.below hb_; have n1_ := below_step HB hb_; have n2_ := blk_below BV hb_; clear HB BV z0 z1 z2 z3 z4 cl hq hp hLA; have HB := n1_; have BV := n2_; clear n1_ n2_ hb_; have z0 := (blk_cell BV 0).trans rfl; have z1 := (blk_cell BV 1).trans rfl; have z2 := (blk_cell BV 2).trans rfl; have z3 := (blk_cell BV 3).trans rfl; have z4 := (blk_cell BV 4).trans rfl) | (go_at_call 20; refine (awake_call _).mono ?_; rintro e w6 ⟨rfl, hb_⟩; have n1_ := below_step HB hb_; clear HB; have HB := n1_; clear n1_ hb_))
          go_ret
          exact ⟨rfl, HB⟩
        · simp only [decide_eq_false hqp] at kP
          clear hqp
          go_wp2_with (first | (go_at_call 27; (with_reducible refine kP.mono ?_); clear kP; rintro e w5 ⟨rfl, hb_⟩; have cl5 := (hb_.cell (World.block_lt_of_cell? _ _ cl)).trans cl; have hq5 := hq.below hb_; have hp5 := hp.below hb_; have hL5 := hLA.below hb_; have n1_ := below_step HB hb_; have n2_ := blk_below BV hb_; clear HB BV z0 z1 z2 z3 z4 cl hq hp hLA; have HB := n1_; have BV := n2_; clear n1_ n2_ hb_; have z0 := (blk_cell BV 0).trans rfl; have z1 := (blk_cell BV 1).trans rfl; have z2 := (blk_cell BV 2).trans rfl; have z3 := (blk_cell BV 3).trans rfl; have z4 := (blk_cell BV 4).trans rfl) | (go_at_call 20; refine (awake_call _).mono ?_; rintro e w6 ⟨rfl, hb_⟩; have n1_ := below_step HB hb_; clear HB; have HB := n1_; clear n1_ hb_))
          have hcx := Kd.C_below hC HB
          have HB5 : Hid _ := Lib.hid HB
          have BV5 : Hid _ := Lib.hid BV
          have hL5' : Hid _ := Lib.hid hL5
          have hp5' : Hid _ := Lib.hid hp5
          clear HB BV hL5 hp5
          -- REGION 14 BEGINS
          refine start_ (n := 12) (S := fun w' => w'.cell? ⟨w.heap.size, 0, none⟩ = some (.int .i64 x.f0) ∧ w'.cell? ⟨w.heap.size, 1, none⟩ = some (.bool x.f1) ∧ w'.cell? ⟨w.heap.size, 2, none⟩ = some (.int .u64 x.f2) ∧ w'.cell? ⟨w.heap.size, 3, none⟩ = some (.string x.f3) ∧ w'.cell? ⟨w.heap.size, 4, none⟩ = some (.slice A x.f4.length c) ∧ w'.cell? (aL.add j) = some (.slice Aq qs.length cq)) (ds := []) #[false, false, false, false, false, false, false, false, false, false, false, false] (by kernel_rfl) rfl rfl ⟨z0, z1, z2, z3, z4, cl5⟩ (fun hHeld => ?_)
          have hDB : Below w5.heap.size w5 w5.drew := below_drew1 (Below.refl _ _)
          generalize w5.drew = wd at hDB hHeld ⊢
          refine pure_ (i := 1) (N := some 84) (v := ?_) (a' := ?_) #[false, true, false, false, false, false, false, false, false, false, false, false] rfl rfl (by kernel_rfl) (fun _ _ _ h => h) (Or.inl ⟨by rfl, ?_⟩) ?_ ?_
          rotate_left
          · intro w'
            go_simp
            with_reducible rfl
          rotate_left
          · simp only [Act.put, List.setIfInBounds_toArray, List.set_cons_zero, List.set_cons_succ, i64_w, i32_w]
            rfl
          refine pure_ (i := 2) (N := some 85) (v := ?_) (a' := ?_) #[false, true, true, false, false, false, false, false, false, false, false, false] rfl rfl (by kernel_rfl) (fun _ _ _ h => h) (Or.inl ⟨by rfl, ?_⟩) ?_ ?_
          rotate_left
          · intro w'
            go_simp
            with_reducible rfl
          rotate_left
          · simp only [Act.put, List.setIfInBounds_toArray, List.set_cons_zero, List.set_cons_succ, i64_w, i32_w]
            rfl
          refine pure_ (i := 3) (N := some 86) (v := ?_) (a' := ?_) #[false, true, true, true, false, false, false, false, false, false, false, false] rfl rfl (by kernel_rfl) (fun _ _ _ h => h) (Or.inl ⟨by rfl, ?_⟩) ?_ ?_
          rotate_left
          · intro w'
            go_simp
            with_reducible rfl
          rotate_left
          · simp only [Act.put, List.setIfInBounds_toArray, List.set_cons_zero, List.set_cons_succ, i64_w, i32_w]
            rfl
          refine take_ (i := 0) (N := some 83) (v := ?_) (a' := ?_) #[true, true, true, true, false, false, false, false, false, false, false, false] rfl rfl (by kernel_rfl) (fun _ _ _ h => h) (Or.inl ⟨by rfl, ?_⟩) hHeld ?_ ?_
          rotate_left
          · rintro w' ⟨s0, s1, s2, s3, s4, s5⟩
            go_simp
            with_reducible rfl
          rotate_left
          · simp only [Act.put, List.setIfInBounds_toArray, List.set_cons_zero, List.set_cons_succ, i64_w, i32_w]
            rfl
          refine take_ (i := 4) (N := some 87) (v := ?_) (a' := ?_) #[true, true, true, true, true, false, false, false, false, false, false, false] rfl rfl (by kernel_rfl) (fun _ _ _ h => h) (Or.inl ⟨by rfl, ?_⟩) hHeld ?_ ?_
          rotate_left
          · rintro w' ⟨s0, s1, s2, s3, s4, s5⟩
            go_simp
            with_reducible rfl
          rotate_left
          · simp only [Act.put, List.setIfInBounds_toArray, List.set_cons_zero, List.set_cons_succ, i64_w, i32_w]
            rfl
          refine join_ (σ := Option Addr × Nat × Nat) 2 #[true, true, true, true, true, true, true, true, true, true, false, false] (fun s_ => [(88, .tuple #[.agg #[.int .i64 u.f0, .bool u.f1, .int .u64 u.f2, .string u.f3, .slice s_.1 u.f4.length s_.2.1], .int .i64 0]), (14, .pointer (some ⟨s_.2.2, 0, none⟩)), (82, .tuple #[.agg #[.int .i64 u.f0, .bool u.f1, .int .u64 u.f2, .string u.f3, .slice s_.1 u.f4.length s_.2.1], .int .i64 0]), (89, .agg #[.int .i64 u.f0, .bool u.f1, .int .u64 u.f2, .string u.f3, .slice s_.1 u.f4.length s_.2.1]), (90, .int .i64 0)]) (fun s_ w' => Below w5.heap.size w5 w' ∧ u.f4.length ≤ s_.2.1 ∧ Kd.C k44 w5 s_.1 u.f4.length u.f4 ∧ w'.heap[s_.2.2]? = some (.cells #[.int .i64 0, .bool false, .int .u64 0, .string (⟨#[]⟩ : ByteArray), .slice none 0 0] 44 (0, 0)) ∧ w5.heap.size ≤ s_.2.2) ?_ ?_
          rotate_left
          · intro hCont
            refine two_ (i := 5) (j := 9) (Ni := some 88) (Nj := some 14) #[true, true, true, true, true, true, false, false, false, false, false, false] #[true, true, true, true, true, false, false, false, false, true, false, false] rfl rfl rfl rfl (by kernel_rfl) (by decide) (by decide) (fun K hK => ?_) (fun K hK => ?_)
            · skip
              refine goes_ Try.func24 (by kernel_rfl) rfl #[.agg #[.int .i64 x.f0, .bool x.f1, .int .u64 x.f2, .string x.f3, .slice A x.f4.length c], .slice Aq qs.length cq] (by rfl) rfl rfl (by simp only [List.map_toArray, List.map_cons, List.map_nil]; rfl) ?_
              with_reducible refine (at_calls x u A c qs Aq cq w5 wd (hq5.below hDB) hc hcx hDB H2.out hq63).mono ?_
              rintro e w8 ⟨A8, c8, rfl, hc8, hC8, hb_⟩
              refine ⟨_, rfl, ?_⟩
              have hB8 := below_step hDB hb_
              refine hK.out _ _ ⟨((hB8.cell (World.block_lt_of_cell? _ _ z0)).trans z0), ((hB8.cell (World.block_lt_of_cell? _ _ z1)).trans z1), ((hB8.cell (World.block_lt_of_cell? _ _ z2)).trans z2), ((hB8.cell (World.block_lt_of_cell? _ _ z3)).trans z3), ((hB8.cell (World.block_lt_of_cell? _ _ z4)).trans z4), ((hB8.cell (World.block_lt_of_cell? _ _ cl5)).trans cl5)⟩ (fun hHeld => ?_)
              clear hK K
              refine norm_ (a' := ?_) ?_ ?_
              rotate_left
              · show Act.put _ (some 88) _ = _
                simp only [Act.put, List.setIfInBounds_toArray, List.set_cons_zero, List.set_cons_succ, i64_w, i32_w]
                rfl
              refine pure_ (i := 6) (N := some 82) (v := ?_) (a' := ?_) #[true, true, true, true, true, true, true, false, false, false, false, false] rfl rfl (by kernel_rfl) (fun _ _ _ h => h) (Or.inl ⟨by rfl, ?_⟩) ?_ ?_
              rotate_left
              · intro w'
                go_simp
                with_reducible rfl
              rotate_left
              · simp only [Act.put, List.setIfInBounds_toArray, List.set_cons_zero, List.set_cons_succ, i64_w, i32_w]
                rfl
              refine pure_ (i := 7) (N := some 89) (v := ?_) (a' := ?_) #[true, true, true, true, true, true, true, true, false, false, false, false] rfl rfl (by kernel_rfl) (fun _ _ _ h => h) (Or.inl ⟨by rfl, ?_⟩) ?_ ?_
              rotate_left
              · intro w'
                go_simp
                with_reducible rfl
              rotate_left
              · simp only [Act.put, List.setIfInBounds_toArray, List.set_cons_zero, List.set_cons_succ, i64_w, i32_w]
                rfl
              refine pure_ (i := 8) (N := some 90) (v := ?_) (a' := ?_) #[true, true, true, true, true, true, true, true, true, false, false, false] rfl rfl (by kernel_rfl) (fun _ _ _ h => h) (Or.inl ⟨by rfl, ?_⟩) ?_ ?_
              rotate_left
              · intro w'
                go_simp
                with_reducible rfl
              rotate_left
              · simp only [Act.put, List.setIfInBounds_toArray, List.set_cons_zero, List.set_cons_succ, i64_w, i32_w]
                rfl
              refine one_ (i := 9) (N := some 14) #[true, true, true, true, true, true, true, true, true, true, false, false] rfl rfl (by kernel_rfl) (by decide) (fun K hK => ?_)
              refine value_ (w1 := ?_) (v := ?_) (by rfl) rfl ?_ ?_
              rotate_left 2
              · go_simp
                constructor
                · rfl
                · rfl
              refine hK.out _ _ ⟨(c_alloc hHeld.1 _), (c_alloc hHeld.2.1 _), (c_alloc hHeld.2.2.1 _), (c_alloc hHeld.2.2.2.1 _), (c_alloc hHeld.2.2.2.2.1 _), (c_alloc hHeld.2.2.2.2.2 _)⟩ (fun hHeld => ?_)
              clear hK K
              refine norm_ (a' := ?_) ?_ ?_
              rotate_left
              · show Act.put _ (some 14) _ = _
                simp only [Act.put, List.setIfInBounds_toArray, List.set_cons_zero, List.set_cons_succ, i64_w, i32_w]
                rfl
              exact norm_ (by simp only [putAll, Act.put, List.setIfInBounds_toArray, List.set_cons_zero, List.set_cons_succ]) (hCont (A8, c8, w8.heap.size) _ ⟨below_alloc hB8 _, hc8, hC8, heap_alloc_new w8 _, hB8.size⟩)
            · skip
              refine value_ (w1 := ?_) (v := ?_) (by rfl) rfl ?_ ?_
              rotate_left 2
              · go_simp
                constructor
                · rfl
                · rfl
              refine hK.out _ _ ⟨(c_alloc hHeld.1 _), (c_alloc hHeld.2.1 _), (c_alloc hHeld.2.2.1 _), (c_alloc hHeld.2.2.2.1 _), (c_alloc hHeld.2.2.2.2.1 _), (c_alloc hHeld.2.2.2.2.2 _)⟩ (fun hHeld => ?_)
              clear hK K
              refine norm_ (a' := ?_) ?_ ?_
              rotate_left
              · show Act.put _ (some 14) _ = _
                simp only [Act.put, List.setIfInBounds_toArray, List.set_cons_zero, List.set_cons_succ, i64_w, i32_w]
                rfl
              refine one_ (i := 5) (N := some 88) #[true, true, true, true, true, true, false, false, false, true, false, false] rfl rfl (by kernel_rfl) (by decide) (fun K hK => ?_)
              refine goes_ Try.func24 (by kernel_rfl) rfl #[.agg #[.int .i64 x.f0, .bool x.f1, .int .u64 x.f2, .string x.f3, .slice A x.f4.length c], .slice Aq qs.length cq] (by rfl) rfl rfl (by simp only [List.map_toArray, List.map_cons, List.map_nil]; rfl) ?_
              with_reducible refine (at_calls x u A c qs Aq cq w5 (wd.alloc (.cells #[.int .i64 0, .bool false, .int .u64 0, .string (⟨#[]⟩ : ByteArray), .slice none 0 0] 44)) (hq5.below (below_alloc hDB _)) hc hcx (below_alloc hDB _) H2.out hq63).mono ?_
              rintro e w8 ⟨A8, c8, rfl, hc8, hC8, hb_⟩
              refine ⟨_, rfl, ?_⟩
              have hB8 := below_step (below_alloc hDB _) hb_
              refine hK.out _ _ ⟨((hB8.cell (World.block_lt_of_cell? _ _ z0)).trans z0), ((hB8.cell (World.block_lt_of_cell? _ _ z1)).trans z1), ((hB8.cell (World.block_lt_of_cell? _ _ z2)).trans z2), ((hB8.cell (World.block_lt_of_cell? _ _ z3)).trans z3), ((hB8.cell (World.block_lt_of_cell? _ _ z4)).trans z4), ((hB8.cell (World.block_lt_of_cell? _ _ cl5)).trans cl5)⟩ (fun hHeld => ?_)
              clear hK K
              refine norm_ (a' := ?_) ?_ ?_
              rotate_left
              · show Act.put _ (some 88) _ = _
                simp only [Act.put, List.setIfInBounds_toArray, List.set_cons_zero, List.set_cons_succ, i64_w, i32_w]
                rfl
              refine pure_ (i := 6) (N := some 82) (v := ?_) (a' := ?_) #[true, true, true, true, true, true, true, false, false, true, false, false] rfl rfl (by kernel_rfl) (fun _ _ _ h => h) (Or.inl ⟨by rfl, ?_⟩) ?_ ?_
              rotate_left
              · intro w'
                go_simp
                with_reducible rfl
              rotate_left
              · simp only [Act.put, List.setIfInBounds_toArray, List.set_cons_zero, List.set_cons_succ, i64_w, i32_w]
                rfl
              refine pure_ (i := 7) (N := some 89) (v := ?_) (a' := ?_) #[true, true, true, true, true, true, true, true, false, true, false, false] rfl rfl (by kernel_rfl) (fun _ _ _ h => h) (Or.inl ⟨by rfl, ?_⟩) ?_ ?_
              rotate_left
              · intro w'
                go_simp
                with_reducible rfl
              rotate_left
              · simp only [Act.put, List.setIfInBounds_toArray, List.set_cons_zero, List.set_cons_succ, i64_w, i32_w]
                rfl
              refine pure_ (i := 8) (N := some 90) (v := ?_) (a' := ?_) #[true, true, true, true, true, true, true, true, true, true, false, false] rfl rfl (by kernel_rfl) (fun _ _ _ h => h) (Or.inl ⟨by rfl, ?_⟩) ?_ ?_
              rotate_left
              · intro w'
                go_simp
                with_reducible rfl
              rotate_left
              · simp only [Act.put, List.setIfInBounds_toArray, List.set_cons_zero, List.set_cons_succ, i64_w, i32_w]
                rfl
              exact norm_ (by simp only [putAll, Act.put, List.setIfInBounds_toArray, List.set_cons_zero, List.set_cons_succ]) (hCont (A8, c8, wd.heap.size) _ ⟨hB8, hc8, hC8, blk_below (heap_alloc_new wd _) hb_, hDB.size⟩)
          rintro ⟨A8, c8, gb⟩ w9 ⟨hB9, hc9, hC9, nb, hgb⟩
          dsimp only at hc9 hC9 nb hgb
          have hHeld : w9.cell? ⟨w.heap.size, 0, none⟩ = some (.int .i64 x.f0) ∧ w9.cell? ⟨w.heap.size, 1, none⟩ = some (.bool x.f1) ∧ w9.cell? ⟨w.heap.size, 2, none⟩ = some (.int .u64 x.f2) ∧ w9.cell? ⟨w.heap.size, 3, none⟩ = some (.string x.f3) ∧ w9.cell? ⟨w.heap.size, 4, none⟩ = some (.slice A x.f4.length c) ∧ w9.cell? (aL.add j) = some (.slice Aq qs.length cq) := ⟨(hB9.cell (World.block_lt_of_cell? _ _ z0)).trans z0, (hB9.cell (World.block_lt_of_cell? _ _ z1)).trans z1, (hB9.cell (World.block_lt_of_cell? _ _ z2)).trans z2, (hB9.cell (World.block_lt_of_cell? _ _ z3)).trans z3, (hB9.cell (World.block_lt_of_cell? _ _ z4)).trans z4, (hB9.cell (World.block_lt_of_cell? _ _ cl5)).trans cl5⟩
          have nb0 := (blk_cell nb 0).trans rfl
          have nb1 := (blk_cell nb 1).trans rfl
          have nb2 := (blk_cell nb 2).trans rfl
          have nb3 := (blk_cell nb 3).trans rfl
          have nb4 := (blk_cell nb 4).trans rfl
          have nf0 := blk_frozen nb 0
          have nf1 := blk_frozen nb 1
          have nf2 := blk_frozen nb 2
          have nf3 := blk_frozen nb 3
          have nf4 := blk_frozen nb 4
          have g0 : gb ≠ (⟨w.heap.size, 0, none⟩ : Addr).block := Nat.ne_of_gt (Nat.lt_of_lt_of_le (World.block_lt_of_cell? _ _ z0) hgb)
          have g1 : gb ≠ (⟨w.heap.size, 1, none⟩ : Addr).block := Nat.ne_of_gt (Nat.lt_of_lt_of_le (World.block_lt_of_cell? _ _ z1) hgb)
          have g2 : gb ≠ (⟨w.heap.size, 2, none⟩ : Addr).block := Nat.ne_of_gt (Nat.lt_of_lt_of_le (World.block_lt_of_cell? _ _ z2) hgb)
          have g3 : gb ≠ (⟨w.heap.size, 3, none⟩ : Addr).block := Nat.ne_of_gt (Nat.lt_of_lt_of_le (World.block_lt_of_cell? _ _ z3) hgb)
          have g4 : gb ≠ (⟨w.heap.size, 4, none⟩ : Addr).block := Nat.ne_of_gt (Nat.lt_of_lt_of_le (World.block_lt_of_cell? _ _ z4) hgb)
          have g5 : gb ≠ ((aL.add j) : Addr).block := Nat.ne_of_gt (Nat.lt_of_lt_of_le (World.block_lt_of_cell? _ _ cl5) hgb)
          refine norm_ (a' := ?_) ?_ ?_
          rotate_left
          · simp only [putAll, Act.put, List.setIfInBounds_toArray, List.set_cons_zero, List.set_cons_succ]
            rfl
          refine one_ (i := 10) (N := none) #[true, true, true, true, true, true, true, true, true, true, true, false] rfl rfl (by kernel_rfl) (by decide) (fun K hK => ?_)
          refine skip_ (w1 := ?_) (by rfl) rfl ?_ ?_
          rotate_left
          · go_simp
            rfl
          refine hK.out _ _ ⟨(s5_far hHeld.1 g0), (s5_far hHeld.2.1 g1), (s5_far hHeld.2.2.1 g2), (s5_far hHeld.2.2.2.1 g3), (s5_far hHeld.2.2.2.2.1 g4), (s5_far hHeld.2.2.2.2.2 g5)⟩ (fun hHeld => ?_)
          clear hK K
          refine pure_ (i := 11) (N := some 15) (v := ?_) (a' := ?_) #[true, true, true, true, true, true, true, true, true, true, true, true] rfl rfl (by kernel_rfl) (fun _ _ _ h => h) (Or.inl ⟨by rfl, ?_⟩) ?_ ?_
          rotate_left
          · intro w'
            go_simp
            with_reducible rfl
          rotate_left
          · simp only [Act.put, List.setIfInBounds_toArray, List.set_cons_zero, List.set_cons_succ, i64_w, i32_w]
            rfl
          refine done_ (by kernel_rfl) ?_
          -- REGION 14 ENDS
          have hlw : w.heap.size ≤ w5.heap.size := HB5.out.size
          have hB10 := ((((hB9.setCell (p := ⟨gb, 0, none⟩) hgb (.int .i64 u.f0)).setCell (p := ⟨gb, 1, none⟩) hgb (.bool u.f1)).setCell (p := ⟨gb, 2, none⟩) hgb (.int .u64 u.f2)).setCell (p := ⟨gb, 3, none⟩) hgb (.string u.f3)).setCell (p := ⟨gb, 4, none⟩) hgb (.slice A8 u.f4.length c8)
          have BU_ := blk_set (blk_set (blk_set (blk_set (blk_set nb 0 (.int .i64 u.f0)) 1 (.bool u.f1)) 2 (.int .u64 u.f2)) 3 (.string u.f3)) 4 (.slice A8 u.f4.length c8)
          have BU : (((((w9.setCell ⟨gb, 0, none⟩ (.int .i64 u.f0)).setCell ⟨gb, 1, none⟩ (.bool u.f1)).setCell ⟨gb, 2, none⟩ (.int .u64 u.f2)).setCell ⟨gb, 3, none⟩ (.string u.f3)).setCell ⟨gb, 4, none⟩ (.slice A8 u.f4.length c8)).heap[gb]? = some (.cells #[.int .i64 u.f0, .bool u.f1, .int .u64 u.f2, .string u.f3, .slice A8 u.f4.length c8] 44 (0, 0)) := by simpa using BU_
          clear BU_ nb0 nb1 nb2 nb3 nb4 nf0 nf1 nf2 nf3 nf4 g0 g1 g2 g3 g4 g5 hHeld nb hB9 z0 z1 z2 z3 z4 cl5 hq5 hDB
          generalize (((((w9.setCell ⟨gb, 0, none⟩ (.int .i64 u.f0)).setCell ⟨gb, 1, none⟩ (.bool u.f1)).setCell ⟨gb, 2, none⟩ (.int .u64 u.f2)).setCell ⟨gb, 3, none⟩ (.string u.f3)).setCell ⟨gb, 4, none⟩ (.slice A8 u.f4.length c8) : World) = w10 at hB10 BU ⊢
          have y0 := (blk_cell BU 0).trans rfl
          have y1 := (blk_cell BU 1).trans rfl
          have y2 := (blk_cell BU 2).trans rfl
          have y3 := (blk_cell BU 3).trans rfl
          have y4 := (blk_cell BU 4).trans rfl
          have hC10 := Kd.C_below hC9 hB10
          have h1u := one_some _ u HF.out
          rw [H1.out] at h1u
          have R1 := below_step HB5.out hB10
          have R2 := blk_below BV5.out hB10
          have R3 := hL5'.out.below hB10
          have R4 := hp5'.out.below hB10
          clear hC9 hcx
          go_wp2_with (go_at_call 25; refine (fits_One.calls 1 _ _ _ _ _ A8 c8 _ _ _ _ hC10 hc9 h1u).mono ?_; rintro e w11 ⟨rfl, hb_⟩; have T1 := below_step R1 hb_; have T2 := blk_below R2 hb_; have T3 := R3.below hb_; have T4 := R4.below hb_; clear R1 R2 R3 R4)
          go_roundg d
          case rel => exact ⟨j + 1, by omega, by go_num, T2, T3, T4, T1⟩
          case measure => omega
end Go.Proofs.Ytfcfnnkepjoncaa.Hand

-- The law FitsAhead, of any small tree.
namespace Go.Proofs.Ytfcfnnkepjoncaa.Hand
open Go.RowKit Go.Shelf Go.Proofs.YtfcfnnkepjoncaaW.PrintWords Go.Proofs.YtfcfnnkepjoncaaW.PrintLast Go.Proofs.YtfcfnnkepjoncaaW.PrintMore Go.Proofs.Ytfcfnnkepjoncaa.PC
set_option linter.unusedVariables false
set_option linter.unusedSimpArgs false
theorem preP_at (x : S44) (j : Nat) (d : S44 × List Int × Bool) (h : (preS x [] false)[j]? = some d) : (preP x [])[j]? = some (d.1, d.2.1) := by
  rw [← preS_path x [] false, List.getElem?_map, h]; rfl
theorem ahead_calls (f : Int) (x : S44) (A : Option Addr) (c : Nat) (w : World) (h : Small x) (hc : x.f4.length ≤ c) (hC : Kd.C k44 w A x.f4.length x.f4) :
    Calls Try.prog 10 #[.int .i64 f, .agg #[.int .i64 x.f0, .bool x.f1, .int .u64 x.f2, .string x.f3, .slice A x.f4.length c]] w fun e w' => e = .returned (.bool true) ∧ Below w.heap.size w w' := by
  by_cases hf : 0 ≤ f ∧ f ≤ 3
  · obtain ⟨k, hk⟩ := check_k x h
    by_cases h0 : chkK x = 0
    · rw [h0] at hk
      have hN := check_small hk
      have hF := fun W hW => callsIn_wide.1 (first_tree f x A c W k (right_true hf) hk (by omega) hc hW)
      cases hfd : (preS x [] false).find? (badK f) with
      | none =>
        refine ahead_none f x A c w 0 hC (fun W hW => (hF W hW).mono ?_)
        rintro e w' ⟨p, b, rfl, hb, hm⟩
        rw [hfd] at hm
        obtain ⟨rfl, rfl⟩ := hm
        exact ⟨rfl, hb⟩
      | some d =>
        obtain ⟨t, ps, key⟩ := d
        obtain ⟨hbad, la, lb, hsp, has⟩ := List.find?_eq_some_iff_append.1 hfd
        have hk1 : (preP x [])[la.length]? = some (t, ps) := preP_at x _ (t, ps, key) (by rw [hsp]; simp)
        refine ahead_found f x A c w hf hc hC hN la.length t ps (saysK f t) hk1 (getK_mem (List.mem_of_getElem? hk1)) rfl (fun hs => ?_) (fun j hj => ?_) (fun W hW => (hF W hW).mono ?_)
        · unfold badK at hbad
          rw [hs] at hbad
          simp only [Bool.not_true, Bool.false_or, Bool.and_eq_true, beq_iff_eq, bne_iff_ne] at hbad
          exact ⟨hbad.1.2, hbad.2⟩
        · have hj1 : (preS x [] false)[j]? = some la[j] := by rw [hsp, List.getElem?_append_left hj, List.getElem?_eq_getElem hj]
          refine ⟨la[j].1, la[j].2.1, preP_at x j _ hj1, ?_⟩
          have h1 := has la[j] (List.getElem_mem hj)
          unfold badK at h1
          simp only [Bool.not_eq_true', Bool.or_eq_false_iff, Bool.not_eq_false'] at h1
          exact h1.1
        · rintro e w' ⟨p, b, rfl, hb, hm⟩
          rw [hfd] at hm
          obtain ⟨rfl, hr⟩ := hm
          obtain ⟨Ap, cp, rfl, hp⟩ := PathAt.of hr
          exact ⟨Ap, cp, rfl, hp, hb⟩
    · refine ahead_none f x A c w (chkK x) hC (fun W hW => (callsIn_wide.1 (first_not f x A c W k (chkK x) (right_true hf) hk h0 hc hW)).mono ?_)
      rintro e w' ⟨rfl, hb⟩
      exact ⟨rfl, hb⟩
  · refine ahead_none f x A c w 1 hC (fun W hW => (callsIn_wide.1 (first_wrong f x A c W (right_false hf))).mono ?_)
    rintro e w' ⟨rfl, hb⟩
    exact ⟨rfl, hb⟩
end Go.Proofs.Ytfcfnnkepjoncaa.Hand
