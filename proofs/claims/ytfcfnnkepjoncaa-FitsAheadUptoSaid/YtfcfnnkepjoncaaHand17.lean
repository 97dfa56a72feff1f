/- fits.First: the first value that a format does not say, by the iterator of Hand16. -/
import Derived.Test.YtfcfnnkepjoncaaHand16
import Derived.Test.YtfcfnnkepjoncaaPCx13
import Derived.WalkMore
namespace Go.Proofs.Ytfcfnnkepjoncaa.Hand
open Go.RowKit Go.Shelf Go.Proofs.YtfcfnnkepjoncaaW.PrintWords Go.Proofs.YtfcfnnkepjoncaaW.PrintLast Go.Proofs.YtfcfnnkepjoncaaW.PrintMore Go.Proofs.Ytfcfnnkepjoncaa.PC
attribute [local go_sem] Oper.semAt_some
set_option linter.unusedVariables false
set_option linter.unusedSimpArgs false

theorem fe_seq (w0 : World) (Pp : S44 → Prop) (n Bs B : Nat) (s0 : Spot) (hat : s0.at w0) (hPp : ∀ t ∈ preT s0.t, Pp t) (hps : s0.ps = []) (hp : s0.p = .slice none 0 0) (hNb : s0.pre.length ≤ 1099511627776) (w : World)
    (hB0 : w0.heap.size ≤ B) (hBw : Below w0.heap.size w0 w) (hBle : B ≤ w.heap.size) (hv : w.heap[Bs]? = some (.cells s0.cells.toArray 79 (0, 0))) :
    SeqG Fence.wide n Try.prog 54 #[.pointer (some ⟨Bs, 0, none⟩)] (encS (w := w0) (Pp := Pp)) (KpN w0.heap.size B) AbG (fun x W => x.1.reads B W) (fun ys => ys.map (·.1.desc) = s0.pre) (fun pre => pre.map (·.1.desc) <+: s0.pre) s0.pre.length w :=
  fun l J Jx W hW hJ hY h0 => fe_in w0 Pp n l Bs B s0.pre.length hNb J Jx s0 hat hPp hps hp (Nat.le_refl _) W hB0 (hBw.trans (hW.mono hBw.size)) (Nat.le_trans hBle hW.size) hJ
    (fun m pre x W hj hr hl => YieldAt_anyDepth rfl m (hY pre x W hj hr hl)) (blk_below hv hW) h0
set_option maxHeartbeats 4000000 in
/-- fits.each -/
theorem feach_in (n : Nat) (s : Spot) (Ap : Option Addr) (np cp : Nat) (hp : s.p = .slice Ap np cp) (w : World) :
    CallsIn Fence.wide n Try.prog 43 #[.agg s.cells.toArray] w fun e w' => e = .returned (.func (.func 54) #[] #[.pointer (some ⟨w.heap.size, 0, none⟩)]) ∧ w' = w.alloc (.cells s.cells.toArray 79) := by
  obtain ⟨t, A, c, p, ps, key⟩ := s
  dsimp only at hp
  subst hp
  simp only [Spot.cells]
  refine callsIn_of_wp Try.func43 rfl trivial ?_ rfl
  simp only [Try.ntmps43, List.size_toArray, List.length_cons, List.length_nil, Nat.reduceAdd, Nat.reduceSub, Array.replicate_succ, Array.replicate_zero, List.push_toArray, List.append_toArray, List.nil_append, List.cons_append]
  gi_wp2
  go_ret
  exact ⟨rfl, rfl⟩
theorem top64 : fbits_width_top.f 64 11 52 = some (wrap64 ((shl .i64 1 11) - 1)) := by
  unfold fbits_width_top.f
  rw [if_pos (by decide)]
theorem class64_some (n : Int) : ∃ r, fbits_Class.f 1 64 n = some r := by
  have h1 : fbits_of.f 64 n = some (64, 11, 52, true) := by
    unfold fbits_of.f
    rw [if_neg (by decide), if_neg (by decide), if_pos rfl]
  have h2 : ∃ r, fbits_width_split.f 64 11 52 n = some r := by
    unfold fbits_width_split.f
    rw [if_pos (by unfold wrap64; omega), if_pos (by decide), top64]
    exact ⟨_, rfl⟩
  obtain ⟨r2, h2⟩ := h2
  have h3 : ∃ r, fbits_width_class.f 1 64 11 52 r2.1 r2.2.1 r2.2.2 = some r := by
    unfold fbits_width_class.f
    rw [top64]
    simp only [Option.bind_some, fbits_width_class.j0, top64]
    repeat' split
    all_goals exact ⟨_, rfl⟩
  obtain ⟨r3, h3⟩ := h3
  unfold fbits_Class.f
  rw [h1]
  simp only [Option.bind_some, if_true]
  rw [h2]
  simp only [Option.bind_some]
  rw [h3]
  exact ⟨_, rfl⟩
theorem says_some (f : Int) (t : S44) : ∃ r, fits_says.f 1 f t.f0 t.f1 t.f2 t.f3 t.f4 = some r := by
  obtain ⟨⟨c, d⟩, hc⟩ := class64_some t.f2
  unfold fits_says.f
  rw [hc]
  simp only [fits_says.j0, Option.bind_some]
  repeat' split
  all_goals exact ⟨_, rfl⟩
/-- does a format say a value? as a plain function -/
def saysK (f : Int) (t : S44) : Bool := (fits_says.f 1 f t.f0 t.f1 t.f2 t.f3 t.f4).getD false
theorem saysK_eq (f : Int) (t : S44) : fits_says.f 1 f t.f0 t.f1 t.f2 t.f3 t.f4 = some (saysK f t) := by
  obtain ⟨r, hr⟩ := says_some f t
  unfold saysK; rw [hr]; rfl
def badK (f : Int) (d : S44 × List Int × Bool) : Bool := !saysK f d.1 || (d.2.2 && f == 0 && d.1.f0 != 10)

/-- what First answers of a tree that may be -/
def FstPost (f : Int) (x : S44) (w : World) (e : Ending) (w' : World) : Prop :=
  ∃ p b, e = .returned (.tuple #[p, .bool b, .int .i64 0]) ∧ Below w.heap.size w w' ∧
      (match (preS x [] false).find? (badK f) with | none => p = .slice none 0 0 ∧ b = false | some d => b = true ∧ w'.ownsRow w.heap.size 3 1 p d.2.1.length (d.2.1.map (Value.int .i64)))
/-- what First's own variables hold between two rounds -/
def FstI (w : World) (b2 : Nat) (f : Int) (pre : List (SpA w (fun _ => True))) (W : World) : Prop :=
  W.heap[w.heap.size]? = some (.cells #[.int .i64 f] 3 (0, 0)) ∧ W.heap[b2]? = some (.cells #[.slice none 0 0] 49 (0, 0)) ∧ W.heap[b2 + 1]? = some (.cells #[.bool false] 4 (0, 0)) ∧ Below w.heap.size w W ∧ ∀ y ∈ pre, badK f y.1.desc = false
/-- what they hold when it has found one -/
def FstX (w : World) (b2 : Nat) (f : Int) (cd : Code) (pre : List (SpA w (fun _ => True))) (W : World) : Prop :=
  cd = .exit 0 ∧ ∃ (q : List (SpA w (fun _ => True))) (y : SpA w (fun _ => True)), pre = q ++ [y] ∧ (∀ z ∈ q, badK f z.1.desc = false) ∧ badK f y.1.desc = true ∧ W.heap[b2]? = some (.cells #[y.1.p] 49 (0, 0)) ∧ W.heap[b2 + 1]? = some (.cells #[.bool true] 4 (0, 0)) ∧ Below w.heap.size w W ∧ y.1.reads (b2 + 2) W
set_option maxRecDepth 100000 in
set_option maxHeartbeats 8000000 in
theorem first_tree (f : Int) (x : S44) (A : Option Addr) (c : Nat) (w : World) (k : Nat) (hf : fits_right.f f = some true) (hchk : value_Check.f k x.f0 x.f1 x.f2 x.f3 x.f4 = some 0) (hNb : (preT x).length ≤ 1099511627776) (hc : x.f4.length ≤ c) (hC : Kd.C k44 w A x.f4.length x.f4) :
    CallsIn Fence.wide 4 Try.prog 23 #[.int .i64 f, .agg #[.int .i64 x.f0, .bool x.f1, .int .u64 x.f2, .string x.f3, .slice A x.f4.length c]] w (FstPost f x w) := by
  refine callsIn_of_wp_marks Try.func23 rfl trivial ?_ rfl
  simp only [Try.ntmps23, List.size_toArray, List.length_cons, List.length_nil, Nat.reduceAdd, Nat.reduceSub, Array.replicate_succ, Array.replicate_zero, List.push_toArray, List.append_toArray, List.nil_append, List.cons_append]
  have B1 : Below w.heap.size w ((w.alloc (.cells #[.int .i64 f] 3)).alloc (.cells #[.int .i64 x.f0, .bool x.f1, .int .u64 x.f2, .string x.f3, .slice A x.f4.length c] 44)) := ((Below.refl _ w).alloc (Nat.le_refl _) _).alloc (by simp) _
  have bf1 := blk_alloc (heap_alloc_new w (.cells #[.int .i64 f] 3)) (.cells #[.int .i64 x.f0, .bool x.f1, .int .u64 x.f2, .string x.f3, .slice A x.f4.length c] 44)
  have bv1 : ((w.alloc (.cells #[.int .i64 f] 3)).alloc (.cells #[.int .i64 x.f0, .bool x.f1, .int .u64 x.f2, .string x.f3, .slice A x.f4.length c] 44)).heap[w.heap.size + 1]? = some (.cells #[.int .i64 x.f0, .bool x.f1, .int .u64 x.f2, .string x.f3, .slice A x.f4.length c] 44 (0, 0)) := by have h_ := heap_alloc_new (w.alloc (.cells #[.int .i64 f] 3)) (.cells #[.int .i64 x.f0, .bool x.f1, .int .u64 x.f2, .string x.f3, .slice A x.f4.length c] 44); rwa [World.size_alloc] at h_
  have C1 := Kd.C_below hC B1
  gi_wp2
  refine wpIn_wide.2 ?_
  apply wp_scope_straight
  refine (wpIn_wide (n := 4)).1 ?_
  gi_wp2_with (first
    | (refine ⟨trivial, ?_⟩; gi_at_call 42; refine (callsIn_wide.2 (fits_right.calls f _ _ hf)).mono ?_; rintro e w' ⟨rfl, hd_⟩; have hb1 := hd_.below; clear hd_; have bf2 := blk_below bf1 hb1; have bv2 := blk_below bv1 hb1; have k0 := (blk_cell bv2 0).trans rfl; have k1 := (blk_cell bv2 1).trans rfl; have k2 := (blk_cell bv2 2).trans rfl; have k3 := (blk_cell bv2 3).trans rfl; have k4 := (blk_cell bv2 4).trans rfl; have C2 := Kd.C_below C1 hb1; have B2 := below_step B1 hb1)
    | (refine ⟨trivial, ?_⟩; gi_at_call 21; refine (callsIn_wide.2 (value_Check.calls k _ _ _ _ A c _ _ _ C2 hc hchk)).mono ?_; rintro e w2 ⟨rfl, hb2⟩; have bf3 := blk_below bf2 hb2; have bv3 := blk_below bv2 hb2; have l0 := (blk_cell bv3 0).trans rfl; have l1 := (blk_cell bv3 1).trans rfl; have l2 := (blk_cell bv3 2).trans rfl; have l3 := (blk_cell bv3 3).trans rfl; have l4 := (blk_cell bv3 4).trans rfl; have C3 := Kd.C_below C2 hb2; have B3 := below_step B2 hb2)
    | (refine ⟨trivial, ?_⟩; gi_at_call 43; refine (feach_in _ ⟨x, A, c, .slice none 0 0, [], false⟩ none 0 0 rfl _).mono ?_; rintro e w' ⟨rfl, rfl⟩))
  refine wpIn_wide.2 ?_
  apply wp_label
  have bf4 := blk_alloc (blk_alloc bf3 (.cells #[.slice none 0 0] 49)) (.cells #[.bool false] 4)
  have bv4 := blk_alloc (blk_alloc bv3 (.cells #[.slice none 0 0] 49)) (.cells #[.bool false] 4)
  have bp4 := blk_alloc (heap_alloc_new w2 (.cells #[.slice none 0 0] 49)) (.cells #[.bool false] 4)
  have bb4 : ((w2.alloc (.cells #[.slice none 0 0] 49)).alloc (.cells #[.bool false] 4)).heap[w2.heap.size + 1]? = some (.cells #[.bool false] 4 (0, 0)) := by have h_ := heap_alloc_new (w2.alloc (.cells #[.slice none 0 0] 49)) (.cells #[.bool false] 4); rwa [World.size_alloc] at h_
  have B4 : Below w.heap.size w ((w2.alloc (.cells #[.slice none 0 0] 49)).alloc (.cells #[.bool false] 4)) := below_alloc (below_alloc B3 _) _
  have hz4 : ((w2.alloc (.cells #[.slice none 0 0] 49)).alloc (.cells #[.bool false] 4)).heap.size = w2.heap.size + 2 := by simp
  have hlt2 := blk_lt bv3
  clear k0 k1 k2 k3 k4 l0 l1 l2 l3 l4 bf1 bf2 bf3 bv1 bv2 bv3 C1 C2 C3 B1 B2 B3 hb1 hb2
  have m0 := (blk_cell bv4 0).trans rfl
  have m1 := (blk_cell bv4 1).trans rfl
  have m2 := (blk_cell bv4 2).trans rfl
  have m3 := (blk_cell bv4 3).trans rfl
  have m4 := (blk_cell bv4 4).trans rfl
  gi_wp2_with (refine ⟨trivial, ?_⟩; gi_at_call 43; refine (feach_in _ ⟨x, A, c, .slice none 0 0, [], false⟩ none 0 0 rfl _).mono ?_; rintro e w' ⟨rfl, rfl⟩)
  obtain ⟨W0, hW0⟩ : ∃ W0, ((w2.alloc (.cells #[.slice none 0 0] 49)).alloc (.cells #[.bool false] 4)).alloc (.cells (Spot.cells ⟨x, A, c, .slice none 0 0, [], false⟩).toArray 79) = W0 := ⟨_, rfl⟩
  have hsz : W0.heap.size = w2.heap.size + 3 := by rw [← hW0, World.size_alloc, hz4]
  have hB0 : Below w.heap.size w W0 := by rw [← hW0]; exact below_alloc B4 _
  have hv0 : W0.heap[w2.heap.size + 2]? = some (.cells (Spot.cells ⟨x, A, c, .slice none 0 0, [], false⟩).toArray 79 (0, 0)) := by rw [← hW0]; have h_ := heap_alloc_new ((w2.alloc (.cells #[.slice none 0 0] 49)).alloc (.cells #[.bool false] 4)) (.cells (Spot.cells ⟨x, A, c, .slice none 0 0, [], false⟩).toArray 79); rwa [hz4] at h_
  have hf0 : W0.heap[w.heap.size]? = some (.cells #[.int .i64 f] 3 (0, 0)) := by rw [← hW0]; exact blk_alloc bf4 _
  have hp0 : W0.heap[w2.heap.size]? = some (.cells #[.slice none 0 0] 49 (0, 0)) := by rw [← hW0]; exact blk_alloc bp4 _
  have hb0 : W0.heap[w2.heap.size + 1]? = some (.cells #[.bool false] 4 (0, 0)) := by rw [← hW0]; exact blk_alloc bb4 _
  rw [hW0]
  clear hW0 m0 m1 m2 m3 m4 bf4 bv4 bp4 bb4 B4 hz4
  have hww : w.heap.size ≤ w2.heap.size := by omega
  refine wpIn_rangeFunc_G rfl (by decide) (gf := 54) (lb := #[.pointer (some ⟨w2.heap.size + 2, 0, none⟩)]) rfl trivial (enters_of Try.func54 (by kernel_rfl) rfl)
    (fe_seq w (fun _ => True) 3 (w2.heap.size + 2) (w2.heap.size + 2) ⟨x, A, c, .slice none 0 0, [], false⟩ ⟨hc, hC⟩ (fun _ _ => trivial) rfl rfl (by rw [← List.length_map (f := fun d : S44 × List Int × Bool => d.1), Spot.pre, preS_fst]; exact hNb) W0 (by omega) hB0 (by omega) hv0)
    (fun h k => KpN.trans h k) (fun W l o o' hle hl ho hw => KpN.putObj (w1 := W0) o' (by omega) hle hl ho hw) (Below.refl _ _) (fun _ => rfl)
    (fun A' B' hab k o h1 h2 hk => by obtain ⟨row, hg, hr⟩ := hab; exact blk_grown hk hg (fun e => by have := hr k e.symm; omega))
    (FstI w w2.heap.size f)
    (FstX w w2.heap.size f)
    (fun pre y a' W => FstI w w2.heap.size f pre W ∧ y.1.reads (w2.heap.size + 2) W ∧
      ∃ Bx, w2.heap.size + 1 < Bx ∧ W.heap[Bx]? = some (.cells y.1.cells.toArray 79 (0, 0)) ∧ a' = { tmps := #[.int .i64 f, .agg #[.int .i64 x.f0, .bool x.f1, .int .u64 x.f2, .string x.f3, .slice A x.f4.length c], .pointer (some ⟨w.heap.size, 0, none⟩), .pointer (some ⟨w.heap.size + 1, 0, none⟩), .slice none 0 0, .bool false, .int .i64 0, .int .i64 0, .pointer (some ⟨w2.heap.size, 0, none⟩), .pointer (some ⟨w2.heap.size + 1, 0, none⟩), .pointer (some ⟨Bx, 0, none⟩), .int .i64 f, .bool true, .bool false, .agg #[.int .i64 x.f0, .bool x.f1, .int .u64 x.f2, .string x.f3, .slice A x.f4.length c], .int .i64 0, .int .i64 0, .bool false, undef, .agg #[.int .i64 x.f0, .bool x.f1, .int .u64 x.f2, .string x.f3, .slice A x.f4.length c], .agg #[.int .i64 x.f0, .bool x.f1, .int .u64 x.f2, .string x.f3, .slice A x.f4.length c, .slice none 0 0, .bool false], .func (.func 54) #[] #[.pointer (some ⟨w2.heap.size + 2, 0, none⟩)], .agg y.1.cells.toArray, undef, undef, undef, undef, undef, undef, undef, undef, undef, undef, undef, undef, undef, undef, undef, undef, undef, undef, undef, undef, undef, undef, undef], defers := [] })
    ?hI ?hIx ?hAx ?hIA ⟨hf0, hp0, hb0, hB0, fun y hy => by cases hy⟩ ?assign ?body ?done ?stop
  case hI =>
    rintro s W W' row ⟨h1, h2, h3, h4, h5⟩ hg hr
    exact ⟨blk_grown h1 hg (fun e => by have := (hr _ e.symm).1; omega), blk_grown h2 hg (fun e => by have := (hr _ e.symm).1; omega), blk_grown h3 hg (fun e => by have := (hr _ e.symm).1; omega), h4.grown hg h4.size (fun k e => by have := (hr k e).1; omega), h5⟩
  case hIx =>
    rintro cd s W W' row ⟨h0, q, y, hq, hq1, hq2, h2, h3, h4, h5⟩ hg hr
    refine ⟨h0, q, y, hq, hq1, hq2, blk_grown h2 hg (fun e => by have := (hr _ e.symm).1; omega), blk_grown h3 hg (fun e => by have := (hr _ e.symm).1; omega), h4.grown hg h4.size (fun k e => by have := (hr k e).1; omega), own_moved h5 (fun g cs hg' hh => blk_grown hh hg (fun e => ?_))⟩
    obtain ⟨_, o, ho, hcc⟩ := hr _ e.symm
    rw [hh] at ho; cases ho; cases hcc
  case hAx =>
    rintro pre y a' s W W' row ⟨⟨h1, h2, h3, h4, h5⟩, h6, Bx, h7, h8, h9⟩ hg hr
    refine ⟨⟨blk_grown h1 hg (fun e => by have := (hr _ e.symm).1; omega), blk_grown h2 hg (fun e => by have := (hr _ e.symm).1; omega), blk_grown h3 hg (fun e => by have := (hr _ e.symm).1; omega), h4.grown hg h4.size (fun k e => by have := (hr k e).1; omega), h5⟩, own_moved h6 (fun g cs hg' hh => blk_grown hh hg (fun e => ?_)), Bx, h7, blk_grown h8 hg (fun e => ?_), h9⟩
    · obtain ⟨_, o, ho, hcc⟩ := hr _ e.symm
      rw [hh] at ho; cases ho; cases hcc
    · obtain ⟨_, o, ho, hcc⟩ := hr _ e.symm
      rw [h8] at ho; cases ho; cases hcc
  case hIA =>
    rintro s W W' ⟨h1, h2, h3, h4, h5⟩ ⟨row, hg, hr⟩
    exact ⟨blk_grown h1 hg (fun e => by have := hr _ e.symm; omega), blk_grown h2 hg (fun e => by have := hr _ e.symm; omega), blk_grown h3 hg (fun e => by have := hr _ e.symm; omega), h4.grown hg h4.size (fun k e => by have := hr k e; omega), h5⟩
  case assign =>
    rintro l pre y W K ⟨h1, h2, h3, h4, h5⟩ hy hK
    obtain ⟨⟨t, A', c', p, ps, key⟩, ⟨hc', hC'⟩, hT⟩ := y
    obtain ⟨Ap, cp, rfl⟩ : ∃ Ap cp, p = .slice Ap ps.length cp := by
      have hy' : W.ownsRow (w2.heap.size + 2) 3 1 p (ps.map (Value.int .i64)).length (ps.map (Value.int .i64)) := by rw [List.length_map]; exact hy
      obtain ⟨Ap, cp, h1_, _⟩ := path_open hy'
      rw [List.length_map] at h1_
      exact ⟨Ap, cp, h1_⟩
    simp only [encS, Spot.cells]
    dsimp only [Array.zip, Array.foldl]
    gi_wp2
    have h9 := blk_lt h3
    exact hK _ _ ((KeepsOthers.alloc _ _).from _) (KpN.of_grown (World.grownBy_alloc W _ none) h4.size) ⟨⟨blk_alloc h1 _, blk_alloc h2 _, blk_alloc h3 _, below_alloc h4 _, h5⟩, Spot.reads_none hy (World.grownBy_alloc W _ none), W.heap.size, h9, heap_alloc_new W _, rfl⟩
  case body =>
    have HSZ : Hid _ := Lib.hid hsz
    clear hsz
    rintro l pre y a' W ⟨⟨h1, h2, h3, h4, h5⟩, hy, Bx, hBx, hbx, ha⟩ hlt
    obtain ⟨⟨t, A', c', p, ps, key⟩, ⟨hc', hC'⟩, hT⟩ := y
    obtain ⟨Ap, cp, rfl⟩ : ∃ Ap cp, p = .slice Ap ps.length cp := by
      have hy' : W.ownsRow (w2.heap.size + 2) 3 1 p (ps.map (Value.int .i64)).length (ps.map (Value.int .i64)) := by rw [List.length_map]; exact hy
      obtain ⟨Ap, cp, h1_, _⟩ := path_open hy'
      rw [List.length_map] at h1_
      exact ⟨Ap, cp, h1_⟩
    dsimp only [Spot.cells] at hbx ha
    subst ha
    have CW := Kd.C_below hC' h4
    have k0 := (blk_cell hbx 0).trans rfl
    have k1 := (blk_cell hbx 1).trans rfl
    have k2 := (blk_cell hbx 2).trans rfl
    have k3 := (blk_cell hbx 3).trans rfl
    have k4 := (blk_cell hbx 4).trans rfl
    have k5 := (blk_cell hbx 5).trans rfl
    have k6 := (blk_cell hbx 6).trans rfl
    have kf := (blk_cell h1 0).trans rfl
    have kp := (blk_cell h2 0).trans rfl
    have kpf := blk_frozen h2 0
    have kb := (blk_cell h3 0).trans rfl
    have kbf := blk_frozen h3 0
    obtain ⟨b1, hb1⟩ : ∃ b, saysK f t = b := ⟨_, rfl⟩
    have hs1 := saysK_eq f t
    rw [hb1] at hs1
    have ev : badK f (Spot.desc ⟨t, A', c', .slice Ap ps.length cp, ps, key⟩) = (!b1 || (key && f == 0 && t.f0 != 10)) := by unfold badK Spot.desc; rw [hb1]
    have H1 : Hid _ := Lib.hid hb1
    clear hb1
    cases b1
    case false =>
      gi_wp2_with (refine ⟨trivial, ?_⟩; gi_at_call 44; refine (CallsIn.inRound l (callsIn_wide.2 (fits_says.calls 1 f _ _ _ _ A' c' _ _ _ CW hc' hs1))).mono ?_; rintro e W1 ⟨rfl, hW1⟩; have bx1 := blk_below hbx hW1; have bf1 := blk_below h1 hW1; have bp1 := blk_below h2 hW1; have bb1 := blk_below h3 hW1; have j0 := (blk_cell bx1 0).trans rfl; have j5 := (blk_cell bx1 5).trans rfl; have j6 := (blk_cell bx1 6).trans rfl; have jf := (blk_cell bf1 0).trans rfl; have jp := (blk_cell bp1 0).trans rfl; have jpf := blk_frozen bp1 0; have jb := (blk_cell bb1 0).trans rfl; have jbf := blk_frozen bb1 0; have kb_ := keep_below (B := W0.heap.size) (B2 := w2.heap.size + 2) hW1 h4.size; have B5 := below_step h4 hW1)
      all_goals try (rename some undef = some (Value.bool _) => h_; exact absurd h_ (by simp [undef]))
      have hs1_ := blk_set bp1 0 (.slice Ap ps.length cp)
      have hs2_ := blk_far hs1_ (p := ⟨w2.heap.size + 1, 0, none⟩) (by show w2.heap.size ≠ w2.heap.size + 1; omega) (.bool true)
      have hs3_ := blk_set (blk_far bb1 (p := ⟨w2.heap.size, 0, none⟩) (by show w2.heap.size + 1 ≠ w2.heap.size; omega) (.slice Ap ps.length cp)) 0 (.bool true)
      refine ⟨kb_.1.trans ((KeepsOthers.setCell _ _ _).trans (KeepsOthers.setCell _ _ _) |>.from _), rfl, pre, _, rfl, h5, ?_, by simpa using hs2_, by simpa using hs3_, (B5.setCell (p := ⟨w2.heap.size, 0, none⟩) (by show w.heap.size ≤ w2.heap.size; omega) _).setCell (p := ⟨w2.heap.size + 1, 0, none⟩) (by show w.heap.size ≤ w2.heap.size + 1; omega) _, ?_⟩
      · rw [ev]; rfl
      · exact own_moved (own_moved (own_moved hy (fun g cs hg hh => blk_below hh hW1)) (fun g cs hg hh => blk_far hh (by show g ≠ w2.heap.size; omega) _)) (fun g cs hg hh => blk_far hh (by show g ≠ w2.heap.size + 1; omega) _)
    case true =>
     cases key
     case false =>
      gi_wp2_with (refine ⟨trivial, ?_⟩; gi_at_call 44; refine (CallsIn.inRound l (callsIn_wide.2 (fits_says.calls 1 f _ _ _ _ A' c' _ _ _ CW hc' hs1))).mono ?_; rintro e W1 ⟨rfl, hW1⟩; have bx1 := blk_below hbx hW1; have bf1 := blk_below h1 hW1; have bp1 := blk_below h2 hW1; have bb1 := blk_below h3 hW1; have j0 := (blk_cell bx1 0).trans rfl; have j5 := (blk_cell bx1 5).trans rfl; have j6 := (blk_cell bx1 6).trans rfl; have jf := (blk_cell bf1 0).trans rfl; have jp := (blk_cell bp1 0).trans rfl; have jpf := blk_frozen bp1 0; have jb := (blk_cell bb1 0).trans rfl; have jbf := blk_frozen bb1 0; have kb_ := keep_below (B := W0.heap.size) (B2 := w2.heap.size + 2) hW1 h4.size; have B5 := below_step h4 hW1)
      all_goals try (rename some undef = some (Value.bool _) => h_; exact absurd h_ (by simp [undef]))
      refine ⟨kb_.1, kb_.2, bf1, bp1, bb1, B5, fun z hz => ?_⟩
      rcases List.mem_append.1 hz with hz | hz
      · exact h5 z hz
      · obtain rfl := List.mem_singleton.1 hz
        rw [ev]; rfl
     case true =>
      by_cases hf0 : f = 0
      · have hf1 : (f == 0) = true := beq_iff_eq.mpr hf0
        by_cases hk0 : t.f0 = 10
        · have hk1 : (t.f0 != 10) = false := bne_eq_false_iff_eq.mpr hk0
          have H2 : Hid _ := Lib.hid hf0
          have H3 : Hid _ := Lib.hid hk0
          clear hf0 hk0
          gi_wp2_with (refine ⟨trivial, ?_⟩; gi_at_call 44; refine (CallsIn.inRound l (callsIn_wide.2 (fits_says.calls 1 f _ _ _ _ A' c' _ _ _ CW hc' hs1))).mono ?_; rintro e W1 ⟨rfl, hW1⟩; have bx1 := blk_below hbx hW1; have bf1 := blk_below h1 hW1; have bp1 := blk_below h2 hW1; have bb1 := blk_below h3 hW1; have j0 := (blk_cell bx1 0).trans rfl; have j5 := (blk_cell bx1 5).trans rfl; have j6 := (blk_cell bx1 6).trans rfl; have jf := (blk_cell bf1 0).trans rfl; have jp := (blk_cell bp1 0).trans rfl; have jpf := blk_frozen bp1 0; have jb := (blk_cell bb1 0).trans rfl; have jbf := blk_frozen bb1 0; have kb_ := keep_below (B := W0.heap.size) (B2 := w2.heap.size + 2) hW1 h4.size; have B5 := below_step h4 hW1)
          all_goals try (rename some undef = some (Value.bool _) => h_; exact absurd h_ (by simp [undef]))
          refine ⟨kb_.1, kb_.2, bf1, bp1, bb1, B5, fun z hz => ?_⟩
          rcases List.mem_append.1 hz with hz | hz
          · exact h5 z hz
          · obtain rfl := List.mem_singleton.1 hz
            rw [ev]; rw [hf1, hk1]; rfl
        · have hk1 : (t.f0 != 10) = true := bne_iff_ne.mpr hk0
          have H2 : Hid _ := Lib.hid hf0
          clear hf0 hk0
          gi_wp2_with (refine ⟨trivial, ?_⟩; gi_at_call 44; refine (CallsIn.inRound l (callsIn_wide.2 (fits_says.calls 1 f _ _ _ _ A' c' _ _ _ CW hc' hs1))).mono ?_; rintro e W1 ⟨rfl, hW1⟩; have bx1 := blk_below hbx hW1; have bf1 := blk_below h1 hW1; have bp1 := blk_below h2 hW1; have bb1 := blk_below h3 hW1; have j0 := (blk_cell bx1 0).trans rfl; have j5 := (blk_cell bx1 5).trans rfl; have j6 := (blk_cell bx1 6).trans rfl; have jf := (blk_cell bf1 0).trans rfl; have jp := (blk_cell bp1 0).trans rfl; have jpf := blk_frozen bp1 0; have jb := (blk_cell bb1 0).trans rfl; have jbf := blk_frozen bb1 0; have kb_ := keep_below (B := W0.heap.size) (B2 := w2.heap.size + 2) hW1 h4.size; have B5 := below_step h4 hW1)
          all_goals try (rename some undef = some (Value.bool _) => h_; exact absurd h_ (by simp [undef]))
          have hs1_ := blk_set bp1 0 (.slice Ap ps.length cp)
          have hs2_ := blk_far hs1_ (p := ⟨w2.heap.size + 1, 0, none⟩) (by show w2.heap.size ≠ w2.heap.size + 1; omega) (.bool true)
          have hs3_ := blk_set (blk_far bb1 (p := ⟨w2.heap.size, 0, none⟩) (by show w2.heap.size + 1 ≠ w2.heap.size; omega) (.slice Ap ps.length cp)) 0 (.bool true)
          refine ⟨kb_.1.trans ((KeepsOthers.setCell _ _ _).trans (KeepsOthers.setCell _ _ _) |>.from _), rfl, pre, _, rfl, h5, ?_, by simpa using hs2_, by simpa using hs3_, (B5.setCell (p := ⟨w2.heap.size, 0, none⟩) (by show w.heap.size ≤ w2.heap.size; omega) _).setCell (p := ⟨w2.heap.size + 1, 0, none⟩) (by show w.heap.size ≤ w2.heap.size + 1; omega) _, ?_⟩
          · rw [ev]; rw [hf1, hk1]; rfl
          · exact own_moved (own_moved (own_moved hy (fun g cs hg hh => blk_below hh hW1)) (fun g cs hg hh => blk_far hh (by show g ≠ w2.heap.size; omega) _)) (fun g cs hg hh => blk_far hh (by show g ≠ w2.heap.size + 1; omega) _)
      · have hf1 : (f == 0) = false := beq_eq_false_iff_ne.mpr hf0
        clear hf0
        gi_wp2_with (refine ⟨trivial, ?_⟩; gi_at_call 44; refine (CallsIn.inRound l (callsIn_wide.2 (fits_says.calls 1 f _ _ _ _ A' c' _ _ _ CW hc' hs1))).mono ?_; rintro e W1 ⟨rfl, hW1⟩; have bx1 := blk_below hbx hW1; have bf1 := blk_below h1 hW1; have bp1 := blk_below h2 hW1; have bb1 := blk_below h3 hW1; have j0 := (blk_cell bx1 0).trans rfl; have j5 := (blk_cell bx1 5).trans rfl; have j6 := (blk_cell bx1 6).trans rfl; have jf := (blk_cell bf1 0).trans rfl; have jp := (blk_cell bp1 0).trans rfl; have jpf := blk_frozen bp1 0; have jb := (blk_cell bb1 0).trans rfl; have jbf := blk_frozen bb1 0; have kb_ := keep_below (B := W0.heap.size) (B2 := w2.heap.size + 2) hW1 h4.size; have B5 := below_step h4 hW1)
        all_goals try (rename some undef = some (Value.bool _) => h_; exact absurd h_ (by simp [undef]))
        refine ⟨kb_.1, kb_.2, bf1, bp1, bb1, B5, fun z hz => ?_⟩
        rcases List.mem_append.1 hz with hz | hz
        · exact h5 z hz
        · obtain rfl := List.mem_singleton.1 hz
          rw [ev]; rw [hf1]; rfl
  case done =>
    rintro D ys W hD hys ⟨h1, h2, h3, h4, h5⟩ hK
    have kp := (blk_cell h2 0).trans rfl
    have kb := (blk_cell h3 0).trans rfl
    have hfn : (preS x [] false).find? (badK f) = none := by
      rw [List.find?_eq_none]
      intro d hd
      have hys' : ys.map (·.1.desc) = preS x [] false := hys
      rw [← hys'] at hd
      obtain ⟨y, hy, rfl⟩ := List.mem_map.1 hd
      simp [h5 y hy]
    gi_wp2
    refine wpIn_wide.2 ?_
    go_quiet (fail)
    gi_wp2
    refine ⟨by simp, .inl ⟨_, _, rfl, run_takeDeferred (show (W.drewN _).heap[D]? = _ from hK), ?_⟩⟩
    refine ⟨.tuple #[.slice none 0 0, .bool false, .int .i64 0], by simp [go_sem, results, Try.results23], _, _, rfl, ?_, ?_⟩
    · exact (pw_below_drewN h4 _).trans (belowK_b (w := w) (Nat.le_refl _) _ D _ _ (by omega) hK rfl rfl)
    · rw [hfn]; exact ⟨rfl, rfl⟩
  case stop =>
    rintro D cd pre W hD hpre ⟨rfl, q, y, rfl, hq1, hq2, h2, h3, h4, h5⟩ hK
    obtain ⟨⟨t, A', c', p, ps, key⟩, ⟨hc', hC'⟩, hT⟩ := y
    obtain ⟨Ap, cp, rfl⟩ : ∃ Ap cp, p = .slice Ap ps.length cp := by
      have hy' : W.ownsRow (w2.heap.size + 2) 3 1 p (ps.map (Value.int .i64)).length (ps.map (Value.int .i64)) := by rw [List.length_map]; exact h5
      obtain ⟨Ap, cp, h1_, _⟩ := path_open hy'
      rw [List.length_map] at h1_
      exact ⟨Ap, cp, h1_⟩
    have kp := (blk_cell h2 0).trans rfl
    have kb := (blk_cell h3 0).trans rfl
    have hfn : (preS x [] false).find? (badK f) = some (t, ps, key) := by
      obtain ⟨r, hr⟩ := hpre
      have hr' : _ = preS x [] false := hr
      rw [← hr', List.map_append, List.append_assoc, List.find?_append]
      have hn : (q.map (·.1.desc)).find? (badK f) = none := by
        rw [List.find?_eq_none]
        intro d hd
        obtain ⟨z, hz, rfl⟩ := List.mem_map.1 hd
        simp [hq1 z hz]
      rw [hn]
      have hq2' : badK f (t, ps, key) = true := hq2
      simp [Spot.desc, List.find?_cons, hq2']
    gi_wp2
    refine wpIn_wide.2 ?_
    go_quiet (fail)
    gi_wp2
    refine ⟨by simp, .inl ⟨_, _, rfl, run_takeDeferred (show (W.drewN _).heap[D]? = _ from hK), ?_⟩⟩
    refine ⟨.tuple #[.slice Ap ps.length cp, .bool true, .int .i64 0], by simp [go_sem, results, Try.results23], _, _, rfl, ?_, ?_⟩
    · exact (pw_below_drewN h4 _).trans (belowK_b (w := w) (Nat.le_refl _) _ D _ _ (by omega) hK rfl rfl)
    · rw [hfn]
      exact ⟨rfl, ownsRow_putObj (W := W.drewN _) (own_weaken h5 (by omega)) _ hK rfl⟩
end Go.Proofs.Ytfcfnnkepjoncaa.Hand
