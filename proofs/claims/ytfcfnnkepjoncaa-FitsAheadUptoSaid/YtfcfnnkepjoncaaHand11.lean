import Derived.Test.YtfcfnnkepjoncaaHand10
namespace Go.Proofs.Ytfcfnnkepjoncaa.Hand
open Go.RowKit Go.Shelf Go.Proofs.YtfcfnnkepjoncaaW.PrintWords Go.Proofs.YtfcfnnkepjoncaaW.PrintLast Go.Proofs.YtfcfnnkepjoncaaW.PrintMore Go.Proofs.Ytfcfnnkepjoncaa.PC
attribute [local go_sem] Oper.semAt_some
set_option linter.unusedVariables false
set_option linter.unusedSimpArgs false

theorem KpN.putObj {n B : Nat} {w1 W : World} {l : Nat} {o : Obj} (o' : Obj) (hn : n ≤ w1.heap.size) (hn2 : w1.heap.size ≤ l) (hl : W.heap[l]? = some o) (ho : o.isCells = false) (hw : o.isWalk = false) : KpN n B W (W.putObj l o') :=
  ⟨belowK_b hn W l o o' hn2 hl ho hw, fun b cs t fr hb hc => by
    have hne : b ≠ l := by rintro rfl; rw [hl] at hc; cases hc; cases ho
    rw [World.putObj_heap_other hne]; exact hc⟩

set_option maxRecDepth 100000 in
set_option maxHeartbeats 4000000 in
theorem count_any (x : S44) (A : Option Addr) (c : Nat) (w : World) (hNb : (preT x).length ≤ 1099511627776) (hc : x.f4.length ≤ c) (hC : Kd.C k44 w A x.f4.length x.f4) :
    CallsIn Fence.wide 3 Try.prog 38 #[.agg #[.int .i64 x.f0, .bool x.f1, .int .u64 x.f2, .string x.f3, .slice A x.f4.length c]] w fun e w' => e = .returned (.int .i64 (preT x).length) ∧ Below w.heap.size w w' := by
  refine callsIn_of_wp_marks Try.func38 rfl trivial ?_ rfl
  simp only [Try.ntmps38, List.size_toArray, List.length_cons, List.length_nil, Nat.reduceAdd, Nat.reduceSub, Array.replicate_succ, Array.replicate_zero, List.push_toArray, List.append_toArray, List.nil_append, List.cons_append]
  gi_wp2_with (refine ⟨trivial, ?_⟩; gi_at_call 39; refine (each_in _ x A c _).mono ?_; rintro e w' ⟨rfl, rfl⟩)
  obtain ⟨W0, hW0⟩ : ∃ W0, (((w.alloc (.cells #[.int .i64 x.f0, .bool x.f1, .int .u64 x.f2, .string x.f3, .slice A x.f4.length c] 44)).alloc (.cells #[.int .i64 0] 3)).alloc (.cells #[.int .i64 x.f0, .bool x.f1, .int .u64 x.f2, .string x.f3, .slice A x.f4.length c] 44)) = W0 := ⟨_, rfl⟩
  have hsz : W0.heap.size = w.heap.size + 3 := by rw [← hW0]; simp
  have hB : Below w.heap.size w W0 := by rw [← hW0]; exact (((Below.refl _ w).alloc (Nat.le_refl _) _).alloc (by simp) _).alloc (by simp; omega) _
  have hn0 : W0.heap[w.heap.size + 1]? = some (.cells #[.int .i64 0] 3 (0, 0)) := by
    rw [← hW0]; refine blk_alloc ?_ _; have h_ := heap_alloc_new (w.alloc (.cells #[.int .i64 x.f0, .bool x.f1, .int .u64 x.f2, .string x.f3, .slice A x.f4.length c] 44)) (.cells #[.int .i64 0] 3); rwa [World.size_alloc] at h_
  have hv0 : W0.heap[w.heap.size + 2]? = some (.cells #[.int .i64 x.f0, .bool x.f1, .int .u64 x.f2, .string x.f3, .slice A x.f4.length c] 44 (0, 0)) := by
    rw [← hW0]; have h_ := heap_alloc_new ((w.alloc (.cells #[.int .i64 x.f0, .bool x.f1, .int .u64 x.f2, .string x.f3, .slice A x.f4.length c] 44)).alloc (.cells #[.int .i64 0] 3)) (.cells #[.int .i64 x.f0, .bool x.f1, .int .u64 x.f2, .string x.f3, .slice A x.f4.length c] 44); rwa [World.size_alloc, World.size_alloc] at h_
  rw [hW0]
  refine wpIn_rangeFunc_ownF rfl (by decide) (gf := 49) (lb := #[.pointer (some ⟨w.heap.size + 2, 0, none⟩)]) rfl trivial (enters_of Try.func49 (by kernel_rfl) rfl)
    (each_stops w (fun _ => True) 2 (w.heap.size + 2) (w.heap.size + 2) x A c hNb (fun _ _ => trivial) hc hC W0 (by omega) hB (by omega) hv0) (fun h k => KpN.trans h k) (fun W l o o' hle hl ho hw => KpN.putObj (w1 := W0) o' (by omega) hle hl ho hw) (Below.refl _ _) (fun _ => rfl)
    (fun pre W => W.heap[w.heap.size + 1]? = some (.cells #[.int .i64 pre.length] 3 (0, 0)) ∧ Below w.heap.size w W)
    (fun _ _ _ => False)
    (fun s W W' row hs hg hr => ⟨blk_grown hs.1 hg (fun e => by have := (hr _ e.symm).1; omega), hs.2.grown hg hs.2.size (fun k e => by have := (hr k e).1; omega)⟩)
    (fun _ _ _ _ _ hs _ _ => hs)
    ⟨hn0, hB⟩
    (fun y => { tmps := #[.agg #[.int .i64 x.f0, .bool x.f1, .int .u64 x.f2, .string x.f3, .slice A x.f4.length c], .pointer (some ⟨w.heap.size, 0, none⟩), .int .i64 0, .pointer (some ⟨w.heap.size + 1, 0, none⟩), .agg #[.int .i64 x.f0, .bool x.f1, .int .u64 x.f2, .string x.f3, .slice A x.f4.length c], .func (.func 49) #[] #[.pointer (some ⟨w.heap.size + 1 + 1, 0, none⟩)], y.1.1, y.1.2.1, undef, undef, undef], defers := [] }) ?assign ?body ?done ?stop
  case assign =>
    intro l y W K hK
    gi_wp2
    simp [encN]
    exact hK
  case body =>
    rintro l pre y W ⟨hn, hBW⟩ hlt
    have cc := (blk_cell hn 0).trans rfl
    have ff := blk_frozen hn 0
    gi_wp2
    have hs := blk_set hn 0 (.int .i64 ((pre.length : Int) + 1))
    refine ⟨KeepsOthers.setCell _ _ _, ⟨(Below.refl w.heap.size W).setCell (p := ⟨w.heap.size + 1, 0, none⟩) (by show w.heap.size ≤ w.heap.size + 1; omega) _, fun b cs t fr hb hc' => (Below.heap_setCell W ⟨w.heap.size + 1, 0, none⟩ _ b (by show b ≠ w.heap.size + 1; omega)).trans hc'⟩, ?_, hBW.setCell (p := ⟨w.heap.size + 1, 0, none⟩) (by show w.heap.size ≤ w.heap.size + 1; omega) _⟩
    rw [List.length_append]
    simpa using hs
  case done =>
    rintro D ys W hD hys ⟨hn, hBW⟩ hK
    have cc := (blk_cell hn 0).trans rfl
    gi_wp2
    refine ⟨by simp, .inl ⟨_, _, rfl, run_takeDeferred hK, ?_⟩⟩
    have hl : ys.length = (preT x).length := by rw [← hys, List.length_map]
    exact ⟨_, results_tmp rfl _ _ _, by rw [← hl]; rfl, hBW.trans (belowK_b (w := w) (Nat.le_refl _) W D _ _ (by omega) hK rfl rfl)⟩
  case stop =>
    rintro D c pre W _ _ h _
    exact h.elim
def value_Count.f (a0_0 : Int) (a0_1 : Bool) (a0_2 : Int) (a0_3 : ByteArray) (l0_4 : List S44) : Option Int := if (preT ⟨a0_0, a0_1, a0_2, a0_3, l0_4⟩).length ≤ 1099511627776 then some ((preT ⟨a0_0, a0_1, a0_2, a0_3, l0_4⟩).length : Int) else none
theorem value_Count.calls (a0_0 : Int) (a0_1 : Bool) (a0_2 : Int) (a0_3 : ByteArray) (A0_4 : Option Addr) (c0_4 : Nat) (l0_4 : List S44) (r : Int) (w : World) (hr0_4 : Kd.C k44 w A0_4 l0_4.length l0_4) (hc0_4 : l0_4.length ≤ c0_4) (h : value_Count.f a0_0 a0_1 a0_2 a0_3 l0_4 = some r) :
    Calls Try.prog 38 #[.agg #[.int .i64 a0_0, .bool a0_1, .int .u64 a0_2, .string a0_3, .slice A0_4 l0_4.length c0_4]] w fun e w' => e = .returned (.int .i64 r) ∧ Below w.heap.size w w' := by
  unfold value_Count.f at h
  split at h
  · rename_i hl
    have h' := Option.some.inj h
    subst h'
    exact callsIn_wide.1 (count_any ⟨a0_0, a0_1, a0_2, a0_3, l0_4⟩ A0_4 c0_4 w hl hc0_4 hr0_4)
  · cases h
end Go.Proofs.Ytfcfnnkepjoncaa.Hand
