/- script.parse. -/
import Derived.Test.YtmejpcfbefjjaaaDoorSTwo
import Derived.Test.YtmejpcfbefjjaaaDoorShelf
import Derived.Test.YtmejpcfbefjjaaaDoorWLast
namespace Go.Proofs.YtmejpcfbefjjaaaDoor.Scr
open Go.RowKit Go.Shelf Go.Proofs.YtmejpcfbefjjaaaDoorW.PrintLast
set_option linter.unusedVariables false
set_option linter.unusedSimpArgs false
/-- what a text says: a job; or the line that errs, and how -/
def parseV (s : ByteArray) : Option Job × Nat × Nat := if 65536 < s.size then (none, 0, 2) else match runL job0 0 (pieces 10 s 0 0) with | (some j, _) => (some j, 0, 0) | (none, k) => (none, k, 4)
theorem pieces_size (c : UInt8) (s : ByteArray) : ∀ (n f i : Nat), s.size - i = n → i ≤ s.size → ∀ t ∈ pieces c s f i, t.size ≤ s.size := by
  intro n
  induction n with
  | zero =>
    intro f i hn hi t ht
    rw [pieces_end (by omega), List.mem_singleton] at ht
    subst ht
    rw [ByteArray.size_extract]; omega
  | succ n ih =>
    intro f i hn hi t ht
    have hlt : i < s.size := by omega
    by_cases hc : s[i] = c
    · rw [pieces_hit hlt hc, List.mem_cons] at ht
      rcases ht with rfl | ht
      · rw [ByteArray.size_extract]; omega
      · exact ih (i + 1) (i + 1) (by omega) (by omega) t ht
    · rw [pieces_miss hlt hc] at ht
      exact ih f (i + 1) (by omega) (by omega) t ht
theorem pieces_len (c : UInt8) (s : ByteArray) : (pieces c s 0 0).length ≤ s.size + 1 := by
  rw [split_len]
  have := Lib.countB_le ⟨#[c]⟩ (Nat.le_refl 1) s.size s (Nat.le_refl _)
  omega
theorem stepV_skip {j : Job} {t : ByteArray} (h : (bts t)[0]? = none ∨ (bts t)[0]? = some 35) : stepV j t = some j := by unfold stepV; rw [if_pos h]
theorem stepV_one {j : Job} {t a : ByteArray} (h : ¬ ((bts t)[0]? = none ∨ (bts t)[0]? = some 35)) (hp : pieces 32 t 0 0 = [a]) : stepV j t = flagV j t := by
  have := pieces_one hp
  unfold stepV; rw [if_neg h, hp, this]
theorem stepV_two {j : Job} {t a b : ByteArray} (h : ¬ ((bts t)[0]? = none ∨ (bts t)[0]? = some 35)) (hp : pieces 32 t 0 0 = [a, b]) : stepV j t = setV j a b := by
  unfold stepV; rw [if_neg h, hp]
theorem stepV_more {j : Job} {t a b c : ByteArray} {r : List ByteArray} (h : ¬ ((bts t)[0]? = none ∨ (bts t)[0]? = some 35)) (hp : pieces 32 t 0 0 = a :: b :: c :: r) : stepV j t = none := by
  unfold stepV; rw [if_neg h, hp]
theorem pieces_ne (c : UInt8) (s : ByteArray) : pieces c s 0 0 ≠ [] := by
  intro h
  have := split_len c s
  rw [h] at this
  simp at this
theorem runL_none {j : Job} {L : List ByteArray} {i : Nat} {t : ByteArray} (h : L[i]? = some t) (hs : stepV j t = none) : runL j i (L.drop i) = (none, i + 1) := by
  obtain ⟨h1, h2⟩ := List.getElem?_eq_some_iff.1 h
  rw [List.drop_eq_getElem_cons h1, runL, h2, hs]
theorem runL_some {j j' : Job} {L : List ByteArray} {i : Nat} {t : ByteArray} (h : L[i]? = some t) (hs : stepV j t = some j') : runL j i (L.drop i) = runL j' (i + 1) (L.drop (i + 1)) := by
  obtain ⟨h1, h2⟩ := List.getElem?_eq_some_iff.1 h
  rw [List.drop_eq_getElem_cons h1, runL, h2, hs]
/-- what script.parse answers -/
def ParsePost (s : ByteArray) (w : World) (e : Ending) (w' : World) : Prop :=
  Below w.heap.size w w' ∧ ∃ j A0 n0 c0, (∃ B n y, e = .returned (.tuple #[.agg (jobCells j (.slice A0 n0 c0)), .iface 42 (.pointer (some ⟨B, 0, none⟩))]) ∧ w'.heap[B]? = some (.cells #[.int .i64 (n : Nat), .int .i64 (y : Nat)] 46 (0, 0)) ∧ parseV s = (none, n, y)) ∨
    ∃ vs, e = .returned (.tuple #[.agg (jobCells j (.slice A0 n0 c0)), .nilIface]) ∧ Chunks w' w.heap.size j.chunks (.slice A0 n0 c0) vs ∧ parseV s = (some j, 0, 0)
theorem split_calls (c : UInt8) (s : ByteArray) (m : Int) (w : World) (hs : s.size ≤ 65536) (hm : w.cell? ⟨1, 0, none⟩ = some (.int .i64 m)) :
    Calls Tryd.prog 14 #[.string s, .string ⟨#[c]⟩] w fun e w' => e = .returned (.slice (some ⟨w.heap.size, 0, none⟩) (pieces c s 0 0).length (pieces c s 0 0).length) ∧ w' = w.alloc (.cells ((pieces c s 0 0).map Value.string).toArray 9) := by
  have h := Tryd.strings_Split s ⟨#[c]⟩ m w (by omega) hm (Nat.le_refl 1)
  rw [split_pieces, ← split_len] at h
  exact h
abbrev zeroJ : Array Value := #[.int .i64 0, .int .i64 0, .int .i64 0, .int .i64 0, .int .i64 0, .bool false, .bool false, .int .i64 0, .bool false, .slice none 0 0]
def resV (R : Option Job × Nat) : Option Job × Nat × Nat := match R with | (some j, _) => (some j, 0, 0) | (none, k) => (none, k, 4)
theorem parseV_small {s : ByteArray} {L : List ByteArray} (h : ¬ 65536 < s.size) (hL : pieces 10 s 0 0 = L) : parseV s = resV (runL job0 0 L) := by
  unfold parseV; rw [if_neg h, hL]; rfl
theorem Chunks.mono {w : World} {base base' : Nat} {l : List (List Nat)} {ch : Value} {vs : List Value} (h : Chunks w base l ch vs) (hb : base' ≤ base) : Chunks w base' l ch vs :=
  ⟨own_mono h.own hb, fun i v bs h1 h2 => own_mono (h.all i v bs h1 h2) hb⟩
theorem bad_past {w : World} {o : Obj} : (w.alloc o).heap[w.heap.size]? = some o := heap_alloc_new w o
/-- ten cells set -/
def set10 (w : World) (H : Nat) (j : Job) (ch : Value) : World := (((((((((w.setCell ⟨H, 0, none⟩ (.int .i64 j.frm)).setCell ⟨H, 1, none⟩ (.int .i64 j.too)).setCell ⟨H, 2, none⟩ (.int .i64 j.mode)).setCell ⟨H, 3, none⟩ (.int .i64 j.depth)).setCell ⟨H, 4, none⟩ (.int .i64 j.size)).setCell ⟨H, 5, none⟩ (.bool j.once)).setCell ⟨H, 6, none⟩ (.bool j.opn)).setCell ⟨H, 7, none⟩ (.int .i64 j.indent)).setCell ⟨H, 8, none⟩ (.bool j.srt)).setCell ⟨H, 9, none⟩ ch
theorem set10_below {w0 w : World} {B H : Nat} {j : Job} {ch : Value} (h : Below B w0 w) (hB : B ≤ H) : Below B w0 (set10 w H j ch) :=
  (((((((((h.setCell (p := ⟨H, 0, none⟩) hB _).setCell (p := ⟨H, 1, none⟩) hB _).setCell (p := ⟨H, 2, none⟩) hB _).setCell (p := ⟨H, 3, none⟩) hB _).setCell (p := ⟨H, 4, none⟩) hB _).setCell (p := ⟨H, 5, none⟩) hB _).setCell (p := ⟨H, 6, none⟩) hB _).setCell (p := ⟨H, 7, none⟩) hB _).setCell (p := ⟨H, 8, none⟩) hB _).setCell (p := ⟨H, 9, none⟩) hB _
theorem set10_other {w : World} {H k : Nat} {j : Job} {ch : Value} (hk : k ≠ H) : (set10 w H j ch).heap[k]? = w.heap[k]? := by
  unfold set10
  repeat rw [Below.heap_setCell _ _ _ _ hk]
theorem row_step {w : World} {T : TypeId} {H : Nat} {cs cs' : Array Value} (h : w.heap[H]? = some (.cells cs T (0, 0))) (i : Nat) (v : Value) (e : cs.setIfInBounds i v = cs') : (w.setCell ⟨H, i, none⟩ v).heap[H]? = some (.cells cs' T (0, 0)) := by
  rw [heap_setCell_same w H i cs T v h, e]
theorem set10_at {w : World} {T : TypeId} {H : Nat} {j : Job} {ch : Value} (h : w.heap[H]? = some (.cells zeroJ T (0, 0))) : JB (set10 w H j ch) T H j ch := by
  unfold set10 JB
  have h0 := row_step h 0 (.int .i64 j.frm) (cs' := #[.int .i64 j.frm, .int .i64 0, .int .i64 0, .int .i64 0, .int .i64 0, .bool false, .bool false, .int .i64 0, .bool false, .slice none 0 0]) rfl
  generalize w.setCell ⟨H, 0, none⟩ (.int .i64 j.frm) = w0 at h0 ⊢
  have h1 := row_step h0 1 (.int .i64 j.too) (cs' := #[.int .i64 j.frm, .int .i64 j.too, .int .i64 0, .int .i64 0, .int .i64 0, .bool false, .bool false, .int .i64 0, .bool false, .slice none 0 0]) rfl
  generalize w0.setCell ⟨H, 1, none⟩ (.int .i64 j.too) = w1 at h1 ⊢
  have h2 := row_step h1 2 (.int .i64 j.mode) (cs' := #[.int .i64 j.frm, .int .i64 j.too, .int .i64 j.mode, .int .i64 0, .int .i64 0, .bool false, .bool false, .int .i64 0, .bool false, .slice none 0 0]) rfl
  generalize w1.setCell ⟨H, 2, none⟩ (.int .i64 j.mode) = w2 at h2 ⊢
  have h3 := row_step h2 3 (.int .i64 j.depth) (cs' := #[.int .i64 j.frm, .int .i64 j.too, .int .i64 j.mode, .int .i64 j.depth, .int .i64 0, .bool false, .bool false, .int .i64 0, .bool false, .slice none 0 0]) rfl
  generalize w2.setCell ⟨H, 3, none⟩ (.int .i64 j.depth) = w3 at h3 ⊢
  have h4 := row_step h3 4 (.int .i64 j.size) (cs' := #[.int .i64 j.frm, .int .i64 j.too, .int .i64 j.mode, .int .i64 j.depth, .int .i64 j.size, .bool false, .bool false, .int .i64 0, .bool false, .slice none 0 0]) rfl
  generalize w3.setCell ⟨H, 4, none⟩ (.int .i64 j.size) = w4 at h4 ⊢
  have h5 := row_step h4 5 (.bool j.once) (cs' := #[.int .i64 j.frm, .int .i64 j.too, .int .i64 j.mode, .int .i64 j.depth, .int .i64 j.size, .bool j.once, .bool false, .int .i64 0, .bool false, .slice none 0 0]) rfl
  generalize w4.setCell ⟨H, 5, none⟩ (.bool j.once) = w5 at h5 ⊢
  have h6 := row_step h5 6 (.bool j.opn) (cs' := #[.int .i64 j.frm, .int .i64 j.too, .int .i64 j.mode, .int .i64 j.depth, .int .i64 j.size, .bool j.once, .bool j.opn, .int .i64 0, .bool false, .slice none 0 0]) rfl
  generalize w5.setCell ⟨H, 6, none⟩ (.bool j.opn) = w6 at h6 ⊢
  have h7 := row_step h6 7 (.int .i64 j.indent) (cs' := #[.int .i64 j.frm, .int .i64 j.too, .int .i64 j.mode, .int .i64 j.depth, .int .i64 j.size, .bool j.once, .bool j.opn, .int .i64 j.indent, .bool false, .slice none 0 0]) rfl
  generalize w6.setCell ⟨H, 7, none⟩ (.int .i64 j.indent) = w7 at h7 ⊢
  have h8 := row_step h7 8 (.bool j.srt) (cs' := #[.int .i64 j.frm, .int .i64 j.too, .int .i64 j.mode, .int .i64 j.depth, .int .i64 j.size, .bool j.once, .bool j.opn, .int .i64 j.indent, .bool j.srt, .slice none 0 0]) rfl
  generalize w7.setCell ⟨H, 8, none⟩ (.bool j.srt) = w8 at h8 ⊢
  have h9 := row_step h8 9 (ch) (cs' := #[.int .i64 j.frm, .int .i64 j.too, .int .i64 j.mode, .int .i64 j.depth, .int .i64 j.size, .bool j.once, .bool j.opn, .int .i64 j.indent, .bool j.srt, ch]) rfl
  exact h9
set_option maxRecDepth 100000 in
set_option maxHeartbeats 16000000 in
theorem parse_calls (s : ByteArray) (m : Int) (w : World) (hm : w.cell? ⟨1, 0, none⟩ = some (.int .i64 m)) : Calls Tryd.prog 8 #[.string s] w (ParsePost s w) := by
  have hbw := Below.refl w.heap.size w
  by_cases hbig : 65536 < s.size
  · have hv : Hid (parseV s = (none, 0, 2)) := Lib.hid (by unfold parseV; rw [if_pos hbig])
    have hbi : (65536 : Int) < (s.size : Int) := by omega
    clear hbig
    go_enter Tryd.func8, Tryd.ntmps8
    go_wp2
    refine bodyPost_ret (v := .tuple #[.agg (jobCells job0 (.slice none 0 0)), .iface 42 (.pointer (some ⟨w.heap.size + 1 + 1, 0, none⟩))]) (by simp [results, Tryd.results8, go_sem, jobCells, job0]) rfl ⟨?_, job0, none, 0, 0, .inl ⟨w.heap.size + 1 + 1, 0, 2, rfl, ?_, hv.out⟩⟩
    · exact ((hbw.alloc (Nat.le_refl _) _).alloc (by simp) _).alloc (by simp; omega) _
    · exact a_at _ _ _ (by simp)
  have hs : s.size ≤ 65536 := by omega
  have hbi : ¬ (65536 : Int) < (s.size : Int) := by omega
  obtain ⟨L, hL⟩ : ∃ L, pieces 10 s 0 0 = L := ⟨_, rfl⟩
  obtain ⟨R, hR⟩ : ∃ R, runL job0 0 L = R := ⟨_, rfl⟩
  have hv0 := parseV_small hbig hL
  rw [hR] at hv0
  have hv := Lib.hid hv0
  have hLl := pieces_len 10 s
  have hLs := pieces_size 10 s s.size 0 0 (by omega) (by omega)
  have hm1 : 1 < w.heap.size := World.block_lt_of_cell? _ _ hm
  have ks := fun W (h : W.cell? ⟨1, 0, none⟩ = some (.int .i64 m)) => split_calls 10 s m W hs h
  rw [hL] at hLl hLs ks
  have HR0 := Lib.hid hR
  clear hL hbig hv0 hR
  have hbw1 := (hbw.alloc (Nat.le_refl _) (.cells zeroJ 28)).alloc (by simp) (.cells (jobCells job0 (.slice none 0 0)) 28)
  go_enter Tryd.func8, Tryd.ntmps8
  go_wp2_with fail
  refine (ks _ ?_).mono ?_
  · exact (hbw1.cell hm1).trans hm
  rintro e1 w1 ⟨rfl, hw1⟩
  have hz : w1.heap[w.heap.size]? = some (.cells zeroJ 28 (0, 0)) := by rw [hw1]; exact a_past (a_past (a_at _ _ _ rfl))
  have hj : JB w1 28 (w.heap.size + 1) job0 (.slice none 0 0) := by rw [hw1]; exact a_past (a_at _ _ _ (by simp))
  have hli : w1.heap[w.heap.size + 1 + 1]? = some (.cells (L.map Value.string).toArray 9 (0, 0)) := by rw [hw1]; exact a_at _ _ _ (by simp)
  have hb1 : Below w.heap.size w w1 := by rw [hw1]; exact hbw1.alloc (by simp; omega) _
  have hs1 : w1.heap.size = w.heap.size + 1 + 1 + 1 := by rw [hw1]; simp
  have hadr : ∀ (W : World), W = w1 → True := fun _ _ => trivial
  simp only [World.size_alloc]
  clear hw1 ks hbw1 hbw hadr
  have hL65 : L.length ≤ 65537 := by omega
  go_wp2_with fail
  go_loopg [5, 6, 7, 20] L.length (fun kq v5 v6 v7 v20 wr => ∃ (i : Nat) (j : Job) (ch : Value) (vs : List Value), v20 = .int .i64 i ∧ i + kq = L.length ∧ JB wr 28 (w.heap.size + 1) j ch ∧ Chunks wr (w.heap.size + 1) j.chunks ch vs ∧ j.chunks.length ≤ i ∧ Hid (runL j i (L.drop i) = R) ∧ wr.heap[w.heap.size + 1 + 1]? = some (.cells (L.map Value.string).toArray 9 (0, 0)) ∧ Below (w.heap.size + 1) w1 wr)
  case atStart => exact ⟨0, job0, .slice none 0 0, [], rfl, by omega, hj, Chunks.nil _ _, Nat.zero_le _, HR0, hli, Below.refl _ _⟩
  case round =>
    clear hj hli HR0
    obtain ⟨i, j, ch, vs, rfl, hik, hj, hc, hcl, HR, hli, hB⟩ := hrel
    have hz1 : wr.heap[w.heap.size]? = some (.cells zeroJ 28 (0, 0)) := (hB.block _ (by omega)).trans hz
    have hm2 : wr.cell? ⟨1, 0, none⟩ = some (.int .i64 m) := (hB.cell (by show 1 < _; omega)).trans ((hb1.cell hm1).trans hm)
    have hBw : Below w.heap.size w wr := hb1.trans (hB.mono (Nat.le_succ _))
    have hsz := hB.size
    cases gk with
    | zero =>
      obtain rfl : i = L.length := by omega
      have hr := HR.out
      rw [List.drop_length] at hr
      have HV : Hid (parseV s = (some j, 0, 0)) := by
        have h1 := hv.out
        rw [← hr] at h1
        exact Lib.hid h1
      clear hr HR hv hm2
      obtain ⟨Ac, cc, rfl, _⟩ := own_form hc.own
      have q0 : wr.cell? ⟨w.heap.size + 1, 0, none⟩ = some (.int .i64 j.frm) := hj.cell 0
      have q1 : wr.cell? ⟨w.heap.size + 1, 1, none⟩ = some (.int .i64 j.too) := hj.cell 1
      have q2 : wr.cell? ⟨w.heap.size + 1, 2, none⟩ = some (.int .i64 j.mode) := hj.cell 2
      have q3 : wr.cell? ⟨w.heap.size + 1, 3, none⟩ = some (.int .i64 j.depth) := hj.cell 3
      have q4 : wr.cell? ⟨w.heap.size + 1, 4, none⟩ = some (.int .i64 j.size) := hj.cell 4
      have q5 : wr.cell? ⟨w.heap.size + 1, 5, none⟩ = some (.bool j.once) := hj.cell 5
      have q6 : wr.cell? ⟨w.heap.size + 1, 6, none⟩ = some (.bool j.opn) := hj.cell 6
      have q7 : wr.cell? ⟨w.heap.size + 1, 7, none⟩ = some (.int .i64 j.indent) := hj.cell 7
      have q8 : wr.cell? ⟨w.heap.size + 1, 8, none⟩ = some (.bool j.srt) := hj.cell 8
      have q9 : wr.cell? ⟨w.heap.size + 1, 9, none⟩ = some (.slice Ac j.chunks.length cc) := hj.cell 9
      have z0 : wr.cell? ⟨w.heap.size, 0, none⟩ = some (.int .i64 0) := cell_of_row _ _ 0 _ _ (0, 0) hz1
      have z1 : wr.cell? ⟨w.heap.size, 1, none⟩ = some (.int .i64 0) := cell_of_row _ _ 1 _ _ (0, 0) hz1
      have z2 : wr.cell? ⟨w.heap.size, 2, none⟩ = some (.int .i64 0) := cell_of_row _ _ 2 _ _ (0, 0) hz1
      have z3 : wr.cell? ⟨w.heap.size, 3, none⟩ = some (.int .i64 0) := cell_of_row _ _ 3 _ _ (0, 0) hz1
      have z4 : wr.cell? ⟨w.heap.size, 4, none⟩ = some (.int .i64 0) := cell_of_row _ _ 4 _ _ (0, 0) hz1
      have z5 : wr.cell? ⟨w.heap.size, 5, none⟩ = some (.bool false) := cell_of_row _ _ 5 _ _ (0, 0) hz1
      have z6 : wr.cell? ⟨w.heap.size, 6, none⟩ = some (.bool false) := cell_of_row _ _ 6 _ _ (0, 0) hz1
      have z7 : wr.cell? ⟨w.heap.size, 7, none⟩ = some (.int .i64 0) := cell_of_row _ _ 7 _ _ (0, 0) hz1
      have z8 : wr.cell? ⟨w.heap.size, 8, none⟩ = some (.bool false) := cell_of_row _ _ 8 _ _ (0, 0) hz1
      have z9 : wr.cell? ⟨w.heap.size, 9, none⟩ = some (.slice none 0 0) := cell_of_row _ _ 9 _ _ (0, 0) hz1
      have zf : ∀ i, wr.frozen? ⟨w.heap.size, i, none⟩ = false := fun i => frozen_of_row _ _ i _ _ hz1
      have S := set10_at (j := j) (ch := .slice Ac j.chunks.length cc) hz1
      have r := S.cell
      have hB2 := set10_below (H := w.heap.size) (j := j) (ch := .slice Ac j.chunks.length cc) hBw (Nat.le_refl _)
      have hc2 : Chunks (set10 wr w.heap.size j (.slice Ac j.chunks.length cc)) w.heap.size j.chunks (.slice Ac j.chunks.length cc) vs := (hc.keep (fun k cs t ht hk => set10_other (fun q => by
        subst q
        rw [hz1] at hk
        simp at hk
        rcases ht with rfl | rfl
        · exact absurd hk.2 (by decide)
        · exact absurd hk.2 (by decide)))).mono (Nat.le_succ _)
      unfold set10 at r hB2 hc2
      go_wp2
      refine bodyPost_ret (v := .tuple #[.agg (jobCells j (.slice Ac j.chunks.length cc)), .nilIface]) (by simp [results, Tryd.results8, go_sem, r, jobCells]) rfl ⟨hB2, j, _, _, _, .inr ⟨vs, rfl, hc2, HV.out⟩⟩
    | succ d =>
      have hlt : (i : Int) < (L.length : Int) := by omega
      have hiL : i < L.length := by omega
      obtain ⟨t, ht⟩ : ∃ t, L[i]'hiL = t := ⟨_, rfl⟩
      have hLt : L[i]? = some t := by rw [List.getElem?_eq_getElem hiL, ht]
      have hts : t.size ≤ 65536 := Nat.le_trans (hLs t (List.mem_of_getElem? hLt)) hs
      have hcell : wr.cell? ⟨w.heap.size + 1 + 1, i, none⟩ = some (.string t) := by rw [cell_of_row _ _ i _ _ (0, 0) hli]; simp [hLt]
      have hbl := bts_length t
      by_cases hsk : (bts t)[0]? = none ∨ (bts t)[0]? = some 35
      · have hr := HR.out
        rw [runL_some hLt (stepV_skip hsk)] at hr
        have HR2 := Lib.hid hr
        clear hr HR
        by_cases ht0 : t.size = 0
        · have he := (tl_t t _).2 (empty_of ht0)
          clear hsk ht
          go_wp2
          go_roundg d
          case measure => omega
          case rel => exact ⟨i + 1, j, ch, vs, by go_num, by omega, hj, hc, by omega, HR2, hli, hB⟩
        · have he := full_of ht0
          have ht1 : 0 < t.size := by omega
          have h35 : ((t[0]'ht1).toNat : Int) = 35 := by
            rcases hsk with q | q
            · rw [bts_at t 0 ht1] at q; cases q
            · rw [bts_at t 0 ht1] at q
              have := Option.some.inj q
              omega
          clear hsk ht
          go_wp2
          go_roundg d
          case measure => omega
          case rel => exact ⟨i + 1, j, ch, vs, by go_num, by omega, hj, hc, by omega, HR2, hli, hB⟩
      · have ht1 : 0 < t.size := by
          rcases Nat.eq_zero_or_pos t.size with q | q
          · exact absurd (.inl (by rw [empty_of q]; rfl)) hsk
          · exact q
        have he := full_of (x := t) (by omega)
        have h35 : ((t[0]'ht1).toNat : Int) ≠ 35 := fun q => hsk (.inr (by rw [bts_at t 0 ht1]; congr 1; omega))
        have h35b : (((t[0]'ht1).toNat : Int) == 35) = false := by rw [beq_eq_false_iff_ne]; exact h35
        have ks := split_calls 32 t m wr hts hm2
        have hwl := pieces_size 32 t t.size 0 0 (by omega) (by omega)
        have hwn := pieces_len 32 t
        go_wp2_with fail
        refine ks.mono ?_
        rintro e2 w2 ⟨rfl, hw2⟩
        clear ks
        have hz2 : w2.drew.heap[w.heap.size]? = some (.cells zeroJ 28 (0, 0)) := by rw [hw2]; exact a_past hz1
        have hj2 : JB w2.drew 28 (w.heap.size + 1) j ch := by rw [hw2]; exact a_past hj
        have hB2w : Below w.heap.size w w2.drew := by rw [hw2]; exact (hBw.alloc (by omega) _).drew
        have hBr : Below wr.heap.size wr w2.drew := by rw [hw2]; exact ((Below.refl _ _).alloc (Nat.le_refl _) _).drew
        have hB1r : Below (w.heap.size + 1) w1 w2.drew := hB.trans (hBr.mono (by omega))
        have hli2 : w2.drew.heap[w.heap.size + 1 + 1]? = some (.cells (L.map Value.string).toArray 9 (0, 0)) := by rw [hw2]; exact a_past hli
        have hc2 := hc.below hBr
        have hs2 : wr.heap.size + 1 = w2.drew.heap.size := by rw [hw2]; simp
        obtain ⟨Ac, cc, rfl, _⟩ := own_form hc.own
        rcases hW : pieces 32 t 0 0 with _ | ⟨a, _ | ⟨b, _ | ⟨c, r⟩⟩⟩
        · exact absurd hW (pieces_ne 32 t)
        · have hst := stepV_one (j := j) hsk hW
          have kf := flag_calls (w.heap.size + 1) j (.slice Ac j.chunks.length cc) t w2.drew hj2
          clear hw2 hwl hwn
          cases hfl : flagV j t with
          | none =>
            rw [hfl] at hst
            have HVE : Hid (parseV s = (none, i + 1, 4)) := by
              have h1 := hv.out
              have hr := HR.out
              rw [runL_none hLt hst] at hr
              rw [← hr] at h1
              exact Lib.hid h1
            have kf2 := kf.mono (fun _ _ h => h.bad hfl)
            clear hst HR hv hsk ht kf hfl
            go_wp2_with fail
            refine start_ (n := 21) (S := fun w' => True) (ds := []) #[false, false, false, false, false, false, false, false, false, false, false, false, false, false, false, false, false, false, false, false, false] (by kernel_rfl) rfl rfl trivial (fun hHeld => ?_)
            refine pure_ (i := 0) (N := some 34) (v := ?_) (a' := ?_) #[true, false, false, false, false, false, false, false, false, false, false, false, false, false, false, false, false, false, false, false, false] rfl rfl (by kernel_rfl) (fun _ _ _ h => h) (Or.inl ⟨by rfl, ?_⟩) ?_ ?_
            rotate_left
            · intro w'
              go_simp
              with_reducible rfl
            rotate_left
            · simp only [Act.put, List.setIfInBounds_toArray, List.set_cons_zero, List.set_cons_succ, i64_w, i32_w]
              rfl
            refine pure_ (i := 1) (N := some 35) (v := ?_) (a' := ?_) #[true, true, false, false, false, false, false, false, false, false, false, false, false, false, false, false, false, false, false, false, false] rfl rfl (by kernel_rfl) (fun _ _ _ h => h) (Or.inl ⟨by rfl, ?_⟩) ?_ ?_
            rotate_left
            · intro w'
              go_simp
              with_reducible rfl
            rotate_left
            · simp only [Act.put, List.setIfInBounds_toArray, List.set_cons_zero, List.set_cons_succ, i64_w, i32_w]
              rfl
            refine pure_ (i := 2) (N := some 36) (v := ?_) (a' := ?_) #[true, true, true, false, false, false, false, false, false, false, false, false, false, false, false, false, false, false, false, false, false] rfl rfl (by kernel_rfl) (fun _ _ _ h => h) (Or.inl ⟨by rfl, ?_⟩) ?_ ?_
            rotate_left
            · intro w'
              go_simp
              with_reducible rfl
            rotate_left
            · simp only [Act.put, List.setIfInBounds_toArray, List.set_cons_zero, List.set_cons_succ, i64_w, i32_w]
              rfl
            refine pure_ (i := 3) (N := some 37) (v := ?_) (a' := ?_) #[true, true, true, true, false, false, false, false, false, false, false, false, false, false, false, false, false, false, false, false, false] rfl rfl (by kernel_rfl) (fun _ _ _ h => h) (Or.inl ⟨by rfl, ?_⟩) ?_ ?_
            rotate_left
            · intro w'
              go_simp
              with_reducible rfl
            rotate_left
            · simp only [Act.put, List.setIfInBounds_toArray, List.set_cons_zero, List.set_cons_succ, i64_w, i32_w]
              rfl
            refine pure_ (i := 4) (N := some 38) (v := ?_) (a' := ?_) #[true, true, true, true, true, false, false, false, false, false, false, false, false, false, false, false, false, false, false, false, false] rfl rfl (by kernel_rfl) (fun _ _ _ h => h) (Or.inl ⟨by rfl, ?_⟩) ?_ ?_
            rotate_left
            · intro w'
              go_simp
              with_reducible rfl
            rotate_left
            · simp only [Act.put, List.setIfInBounds_toArray, List.set_cons_zero, List.set_cons_succ, i64_w, i32_w]
              rfl
            refine one_ (i := 5) (N := some 39) #[true, true, true, true, true, true, false, false, false, false, false, false, false, false, false, false, false, false, false, false, false] rfl rfl (by kernel_rfl) (by decide) (fun K hK => ?_)
            refine goes_ Tryd.func15 (by kernel_rfl) rfl #[.pointer (some ⟨w.heap.size + 1, 0, none⟩), .string t] (by rfl) rfl rfl (by simp only [List.map_toArray, List.map_cons, List.map_nil]; rfl) ?_
            with_reducible refine (kf2).mono ?_
            rintro _ _ ⟨rfl, rfl⟩
            refine ⟨_, rfl, ?_⟩
            refine hK.out _ _ trivial (fun hHeld => ?_)
            clear hK K
            refine norm_ (a' := ?_) ?_ ?_
            rotate_left
            · show Act.put _ (some 39) _ = _
              simp only [Act.put, List.setIfInBounds_toArray, List.set_cons_zero, List.set_cons_succ, i64_w, i32_w]
              rfl
            refine pure_ (i := 6) (N := some 40) (v := ?_) (a' := ?_) #[true, true, true, true, true, true, true, false, false, false, false, false, false, false, false, false, false, false, false, false, false] rfl rfl (by kernel_rfl) (fun _ _ _ h => h) (Or.inl ⟨by rfl, ?_⟩) ?_ ?_
            rotate_left
            · intro w'
              go_simp
              with_reducible rfl
            rotate_left
            · simp only [Act.put, List.setIfInBounds_toArray, List.set_cons_zero, List.set_cons_succ, i64_w, i32_w]
              rfl
            refine pure_ (i := 7) (N := some 41) (v := ?_) (a' := ?_) #[true, true, true, true, true, true, true, true, false, false, false, false, false, false, false, false, false, false, false, false, false] rfl rfl (by kernel_rfl) (fun _ _ _ h => h) (Or.inl ⟨by rfl, ?_⟩) ?_ ?_
            rotate_left
            · intro w'
              go_simp
              with_reducible rfl
            rotate_left
            · simp only [Act.put, List.setIfInBounds_toArray, List.set_cons_zero, List.set_cons_succ, i64_w, i32_w]
              rfl
            refine pure_ (i := 8) (N := some 42) (v := ?_) (a' := ?_) #[true, true, true, true, true, true, true, true, true, false, false, false, false, false, false, false, false, false, false, false, false] rfl rfl (by kernel_rfl) (fun _ _ _ h => h) (Or.inl ⟨by rfl, ?_⟩) ?_ ?_
            rotate_left
            · intro w'
              go_simp
              with_reducible rfl
            rotate_left
            · simp only [Act.put, List.setIfInBounds_toArray, List.set_cons_zero, List.set_cons_succ, i64_w, i32_w]
              rfl
            refine pure_ (i := 9) (N := some 43) (v := ?_) (a' := ?_) #[true, true, true, true, true, true, true, true, true, true, false, false, false, false, false, false, false, false, false, false, false] rfl rfl (by kernel_rfl) (fun _ _ _ h => h) (Or.inl ⟨by rfl, ?_⟩) ?_ ?_
            rotate_left
            · intro w'
              go_simp
              with_reducible rfl
            rotate_left
            · simp only [Act.put, List.setIfInBounds_toArray, List.set_cons_zero, List.set_cons_succ, i64_w, i32_w]
              rfl
            refine pure_ (i := 10) (N := some 44) (v := ?_) (a' := ?_) #[true, true, true, true, true, true, true, true, true, true, true, false, false, false, false, false, false, false, false, false, false] rfl rfl (by kernel_rfl) (fun _ _ _ h => h) (Or.inl ⟨by rfl, ?_⟩) ?_ ?_
            rotate_left
            · intro w'
              go_simp
              with_reducible rfl
            rotate_left
            · simp only [Act.put, List.setIfInBounds_toArray, List.set_cons_zero, List.set_cons_succ, i64_w, i32_w]
              rfl
            refine pure_ (i := 11) (N := some 45) (v := ?_) (a' := ?_) #[true, true, true, true, true, true, true, true, true, true, true, true, false, false, false, false, false, false, false, false, false] rfl rfl (by kernel_rfl) (fun _ _ _ h => h) (Or.inl ⟨by rfl, ?_⟩) ?_ ?_
            rotate_left
            · intro w'
              go_simp
              with_reducible rfl
            rotate_left
            · simp only [Act.put, List.setIfInBounds_toArray, List.set_cons_zero, List.set_cons_succ, i64_w, i32_w]
              rfl
            refine pure_ (i := 12) (N := some 46) (v := undef) (a' := ?_) #[true, true, true, true, true, true, true, true, true, true, true, true, true, false, false, false, false, false, false, false, false] rfl rfl (by kernel_rfl) (fun _ _ _ h => h) (Or.inr ⟨by rfl, rfl⟩) ?_ ?_
            rotate_left
            · simp only [Act.put, List.setIfInBounds_toArray, List.set_cons_zero, List.set_cons_succ, i64_w, i32_w]
              rfl
            refine pure_ (i := 13) (N := some 47) (v := undef) (a' := ?_) #[true, true, true, true, true, true, true, true, true, true, true, true, true, true, false, false, false, false, false, false, false] rfl rfl (by kernel_rfl) (fun _ _ _ h => h) (Or.inr ⟨by rfl, rfl⟩) ?_ ?_
            rotate_left
            · simp only [Act.put, List.setIfInBounds_toArray, List.set_cons_zero, List.set_cons_succ, i64_w, i32_w]
              rfl
            refine pure_ (i := 14) (N := some 48) (v := undef) (a' := ?_) #[true, true, true, true, true, true, true, true, true, true, true, true, true, true, true, false, false, false, false, false, false] rfl rfl (by kernel_rfl) (fun _ _ _ h => h) (Or.inr ⟨by rfl, rfl⟩) ?_ ?_
            rotate_left
            · simp only [Act.put, List.setIfInBounds_toArray, List.set_cons_zero, List.set_cons_succ, i64_w, i32_w]
              rfl
            refine pure_ (i := 15) (N := some 49) (v := undef) (a' := ?_) #[true, true, true, true, true, true, true, true, true, true, true, true, true, true, true, true, false, false, false, false, false] rfl rfl (by kernel_rfl) (fun _ _ _ h => h) (Or.inr ⟨by rfl, rfl⟩) ?_ ?_
            rotate_left
            · simp only [Act.put, List.setIfInBounds_toArray, List.set_cons_zero, List.set_cons_succ, i64_w, i32_w]
              rfl
            refine pure_ (i := 16) (N := some 50) (v := undef) (a' := ?_) #[true, true, true, true, true, true, true, true, true, true, true, true, true, true, true, true, true, false, false, false, false] rfl rfl (by kernel_rfl) (fun _ _ _ h => h) (Or.inr ⟨by rfl, rfl⟩) ?_ ?_
            rotate_left
            · simp only [Act.put, List.setIfInBounds_toArray, List.set_cons_zero, List.set_cons_succ, i64_w, i32_w]
              rfl
            refine pure_ (i := 17) (N := some 51) (v := undef) (a' := ?_) #[true, true, true, true, true, true, true, true, true, true, true, true, true, true, true, true, true, true, false, false, false] rfl rfl (by kernel_rfl) (fun _ _ _ h => h) (Or.inr ⟨by rfl, rfl⟩) ?_ ?_
            rotate_left
            · simp only [Act.put, List.setIfInBounds_toArray, List.set_cons_zero, List.set_cons_succ, i64_w, i32_w]
              rfl
            refine pure_ (i := 18) (N := some 52) (v := undef) (a' := ?_) #[true, true, true, true, true, true, true, true, true, true, true, true, true, true, true, true, true, true, true, false, false] rfl rfl (by kernel_rfl) (fun _ _ _ h => h) (Or.inr ⟨by rfl, rfl⟩) ?_ ?_
            rotate_left
            · simp only [Act.put, List.setIfInBounds_toArray, List.set_cons_zero, List.set_cons_succ, i64_w, i32_w]
              rfl
            refine pure_ (i := 19) (N := some 53) (v := ?_) (a' := ?_) #[true, true, true, true, true, true, true, true, true, true, true, true, true, true, true, true, true, true, true, true, false] rfl rfl (by kernel_rfl) (fun _ _ _ h => h) (Or.inl ⟨by rfl, ?_⟩) ?_ ?_
            rotate_left
            · intro w'
              go_simp
              with_reducible rfl
            rotate_left
            · simp only [Act.put, List.setIfInBounds_toArray, List.set_cons_zero, List.set_cons_succ, i64_w, i32_w]
              rfl
            refine pure_ (i := 20) (N := some 54) (v := ?_) (a' := ?_) #[true, true, true, true, true, true, true, true, true, true, true, true, true, true, true, true, true, true, true, true, true] rfl rfl (by kernel_rfl) (fun _ _ _ h => h) (Or.inl ⟨by rfl, ?_⟩) ?_ ?_
            rotate_left
            · intro w'
              go_simp
              with_reducible rfl
            rotate_left
            · simp only [Act.put, List.setIfInBounds_toArray, List.set_cons_zero, List.set_cons_succ, i64_w, i32_w]
              rfl
            refine done_ (by kernel_rfl) ?_
            obtain ⟨j2, hj2e⟩ : ∃ j2, j2 = j := ⟨_, rfl⟩
            obtain ⟨A2, n2, c2, hch⟩ : ∃ A2 n2 c2, (Value.slice Ac j.chunks.length cc) = .slice A2 n2 c2 := ⟨_, _, _, rfl⟩
            rw [hch, ← hj2e] at hj2
            have hzW := hz2
            have hjW := hj2
            have hBW := hB2w
            clear hz2 hj2 hB2w hch hj2e hc hc2 hj hz1 hBr hli2 hB1r hs2 kf2 hm2 hli hz hb1 hB
            generalize w2.drew = W at hzW hjW hBW ⊢
            have q0 : W.cell? ⟨w.heap.size + 1, 0, none⟩ = some (.int .i64 j2.frm) := hjW.cell 0
            have q1 : W.cell? ⟨w.heap.size + 1, 1, none⟩ = some (.int .i64 j2.too) := hjW.cell 1
            have q2 : W.cell? ⟨w.heap.size + 1, 2, none⟩ = some (.int .i64 j2.mode) := hjW.cell 2
            have q3 : W.cell? ⟨w.heap.size + 1, 3, none⟩ = some (.int .i64 j2.depth) := hjW.cell 3
            have q4 : W.cell? ⟨w.heap.size + 1, 4, none⟩ = some (.int .i64 j2.size) := hjW.cell 4
            have q5 : W.cell? ⟨w.heap.size + 1, 5, none⟩ = some (.bool j2.once) := hjW.cell 5
            have q6 : W.cell? ⟨w.heap.size + 1, 6, none⟩ = some (.bool j2.opn) := hjW.cell 6
            have q7 : W.cell? ⟨w.heap.size + 1, 7, none⟩ = some (.int .i64 j2.indent) := hjW.cell 7
            have q8 : W.cell? ⟨w.heap.size + 1, 8, none⟩ = some (.bool j2.srt) := hjW.cell 8
            have q9 : W.cell? ⟨w.heap.size + 1, 9, none⟩ = some (.slice A2 n2 c2) := hjW.cell 9
            have z0 : W.cell? ⟨w.heap.size, 0, none⟩ = some (.int .i64 0) := cell_of_row _ _ 0 _ _ (0, 0) hzW
            have z1 : W.cell? ⟨w.heap.size, 1, none⟩ = some (.int .i64 0) := cell_of_row _ _ 1 _ _ (0, 0) hzW
            have z2 : W.cell? ⟨w.heap.size, 2, none⟩ = some (.int .i64 0) := cell_of_row _ _ 2 _ _ (0, 0) hzW
            have z3 : W.cell? ⟨w.heap.size, 3, none⟩ = some (.int .i64 0) := cell_of_row _ _ 3 _ _ (0, 0) hzW
            have z4 : W.cell? ⟨w.heap.size, 4, none⟩ = some (.int .i64 0) := cell_of_row _ _ 4 _ _ (0, 0) hzW
            have z5 : W.cell? ⟨w.heap.size, 5, none⟩ = some (.bool false) := cell_of_row _ _ 5 _ _ (0, 0) hzW
            have z6 : W.cell? ⟨w.heap.size, 6, none⟩ = some (.bool false) := cell_of_row _ _ 6 _ _ (0, 0) hzW
            have z7 : W.cell? ⟨w.heap.size, 7, none⟩ = some (.int .i64 0) := cell_of_row _ _ 7 _ _ (0, 0) hzW
            have z8 : W.cell? ⟨w.heap.size, 8, none⟩ = some (.bool false) := cell_of_row _ _ 8 _ _ (0, 0) hzW
            have z9 : W.cell? ⟨w.heap.size, 9, none⟩ = some (.slice none 0 0) := cell_of_row _ _ 9 _ _ (0, 0) hzW
            have zf : ∀ i2, W.frozen? ⟨w.heap.size, i2, none⟩ = false := fun i2 => frozen_of_row _ _ i2 _ _ hzW
            have hwW : w.heap.size < W.heap.size := lt_of_block hzW
            have S : JB (set10 W w.heap.size j2 (.slice A2 n2 c2)) 28 w.heap.size j2 (.slice A2 n2 c2) := set10_at hzW
            have r := JB.cell (show JB ((set10 W w.heap.size j2 (.slice A2 n2 c2)).alloc (.cells #[.int .i64 ((i : Int) + 1), .int .i64 4] 46)) 28 w.heap.size j2 (.slice A2 n2 c2) from a_past S)
            have hsz3 : (set10 W w.heap.size j2 (.slice A2 n2 c2)).heap.size = W.heap.size := by simp [set10, World.setCell]
            have hB3 := (set10_below (H := w.heap.size) (j := j2) (ch := .slice A2 n2 c2) hBW (Nat.le_refl _)).alloc (by rw [hsz3]; omega) (.cells #[.int .i64 ((i : Int) + 1), .int .i64 4] 46)
            have hbd : ((set10 W w.heap.size j2 (.slice A2 n2 c2)).alloc (.cells #[.int .i64 ((i : Int) + 1), .int .i64 4] 46)).heap[W.heap.size]? = some (.cells #[.int .i64 ((i + 1 : Nat) : Int), .int .i64 ((4 : Nat) : Int)] 46 (0, 0)) := a_at _ _ _ hsz3.symm
            unfold set10 at r hB3 hbd
            have hib : i ≤ 65537 := by omega
            have hne : ¬ w.heap.size = W.heap.size := by omega
            clear S hsz3 hm hs hLl hLs hm1 hbi hs1 hL65 hcl hBw hsz hik hlt hLt hts hcell hbl he h35 h35b hW hHeld
            go_wp2
            refine bodyPost_ret (v := .tuple #[.agg (jobCells j2 (.slice A2 n2 c2)), .iface 42 (.pointer (some ⟨W.heap.size, 0, none⟩))]) (by simp [results, Tryd.results8, go_sem, r, jobCells]) rfl ⟨hB3, j2, _, _, _, .inl ⟨W.heap.size, i + 1, 4, rfl, hbd, HVE.out⟩⟩
          | some j' =>
            rw [hfl] at hst
            have HR2 : Hid (runL j' (i + 1) (L.drop (i + 1)) = R) := by
              have hr := HR.out
              rw [runL_some hLt hst] at hr
              exact Lib.hid hr
            have kf2 := kf.mono (fun _ _ h => h.ok hfl)
            clear hst HR hsk ht kf hfl
            go_wp2_with fail
            refine start_ (n := 21) (S := fun w' => True) (ds := []) #[false, false, false, false, false, false, false, false, false, false, false, false, false, false, false, false, false, false, false, false, false] (by kernel_rfl) rfl rfl trivial (fun hHeld => ?_)
            refine pure_ (i := 0) (N := some 34) (v := ?_) (a' := ?_) #[true, false, false, false, false, false, false, false, false, false, false, false, false, false, false, false, false, false, false, false, false] rfl rfl (by kernel_rfl) (fun _ _ _ h => h) (Or.inl ⟨by rfl, ?_⟩) ?_ ?_
            rotate_left
            · intro w'
              go_simp
              with_reducible rfl
            rotate_left
            · simp only [Act.put, List.setIfInBounds_toArray, List.set_cons_zero, List.set_cons_succ, i64_w, i32_w]
              rfl
            refine pure_ (i := 1) (N := some 35) (v := ?_) (a' := ?_) #[true, true, false, false, false, false, false, false, false, false, false, false, false, false, false, false, false, false, false, false, false] rfl rfl (by kernel_rfl) (fun _ _ _ h => h) (Or.inl ⟨by rfl, ?_⟩) ?_ ?_
            rotate_left
            · intro w'
              go_simp
              with_reducible rfl
            rotate_left
            · simp only [Act.put, List.setIfInBounds_toArray, List.set_cons_zero, List.set_cons_succ, i64_w, i32_w]
              rfl
            refine pure_ (i := 2) (N := some 36) (v := ?_) (a' := ?_) #[true, true, true, false, false, false, false, false, false, false, false, false, false, false, false, false, false, false, false, false, false] rfl rfl (by kernel_rfl) (fun _ _ _ h => h) (Or.inl ⟨by rfl, ?_⟩) ?_ ?_
            rotate_left
            · intro w'
              go_simp
              with_reducible rfl
            rotate_left
            · simp only [Act.put, List.setIfInBounds_toArray, List.set_cons_zero, List.set_cons_succ, i64_w, i32_w]
              rfl
            refine pure_ (i := 3) (N := some 37) (v := ?_) (a' := ?_) #[true, true, true, true, false, false, false, false, false, false, false, false, false, false, false, false, false, false, false, false, false] rfl rfl (by kernel_rfl) (fun _ _ _ h => h) (Or.inl ⟨by rfl, ?_⟩) ?_ ?_
            rotate_left
            · intro w'
              go_simp
              with_reducible rfl
            rotate_left
            · simp only [Act.put, List.setIfInBounds_toArray, List.set_cons_zero, List.set_cons_succ, i64_w, i32_w]
              rfl
            refine pure_ (i := 4) (N := some 38) (v := ?_) (a' := ?_) #[true, true, true, true, true, false, false, false, false, false, false, false, false, false, false, false, false, false, false, false, false] rfl rfl (by kernel_rfl) (fun _ _ _ h => h) (Or.inl ⟨by rfl, ?_⟩) ?_ ?_
            rotate_left
            · intro w'
              go_simp
              with_reducible rfl
            rotate_left
            · simp only [Act.put, List.setIfInBounds_toArray, List.set_cons_zero, List.set_cons_succ, i64_w, i32_w]
              rfl
            refine one_ (i := 5) (N := some 39) #[true, true, true, true, true, true, false, false, false, false, false, false, false, false, false, false, false, false, false, false, false] rfl rfl (by kernel_rfl) (by decide) (fun K hK => ?_)
            refine goes_ Tryd.func15 (by kernel_rfl) rfl #[.pointer (some ⟨w.heap.size + 1, 0, none⟩), .string t] (by rfl) rfl rfl (by simp only [List.map_toArray, List.map_cons, List.map_nil]; rfl) ?_
            with_reducible refine (kf2).mono ?_
            rintro _ _ ⟨rfl, i3, hj3, hch3, rfl⟩
            refine ⟨_, rfl, ?_⟩
            refine hK.out _ _ trivial (fun hHeld => ?_)
            clear hK K
            refine norm_ (a' := ?_) ?_ ?_
            rotate_left
            · show Act.put _ (some 39) _ = _
              simp only [Act.put, List.setIfInBounds_toArray, List.set_cons_zero, List.set_cons_succ, i64_w, i32_w]
              rfl
            refine pure_ (i := 6) (N := some 40) (v := ?_) (a' := ?_) #[true, true, true, true, true, true, true, false, false, false, false, false, false, false, false, false, false, false, false, false, false] rfl rfl (by kernel_rfl) (fun _ _ _ h => h) (Or.inl ⟨by rfl, ?_⟩) ?_ ?_
            rotate_left
            · intro w'
              go_simp
              with_reducible rfl
            rotate_left
            · simp only [Act.put, List.setIfInBounds_toArray, List.set_cons_zero, List.set_cons_succ, i64_w, i32_w]
              rfl
            refine pure_ (i := 7) (N := some 41) (v := ?_) (a' := ?_) #[true, true, true, true, true, true, true, true, false, false, false, false, false, false, false, false, false, false, false, false, false] rfl rfl (by kernel_rfl) (fun _ _ _ h => h) (Or.inl ⟨by rfl, ?_⟩) ?_ ?_
            rotate_left
            · intro w'
              go_simp
              with_reducible rfl
            rotate_left
            · simp only [Act.put, List.setIfInBounds_toArray, List.set_cons_zero, List.set_cons_succ, i64_w, i32_w]
              rfl
            refine pure_ (i := 8) (N := some 42) (v := undef) (a' := ?_) #[true, true, true, true, true, true, true, true, true, false, false, false, false, false, false, false, false, false, false, false, false] rfl rfl (by kernel_rfl) (fun _ _ _ h => h) (Or.inr ⟨by rfl, rfl⟩) ?_ ?_
            rotate_left
            · simp only [Act.put, List.setIfInBounds_toArray, List.set_cons_zero, List.set_cons_succ, i64_w, i32_w]
              rfl
            refine pure_ (i := 9) (N := some 43) (v := undef) (a' := ?_) #[true, true, true, true, true, true, true, true, true, true, false, false, false, false, false, false, false, false, false, false, false] rfl rfl (by kernel_rfl) (fun _ _ _ h => h) (Or.inr ⟨by rfl, rfl⟩) ?_ ?_
            rotate_left
            · simp only [Act.put, List.setIfInBounds_toArray, List.set_cons_zero, List.set_cons_succ, i64_w, i32_w]
              rfl
            refine pure_ (i := 10) (N := some 44) (v := undef) (a' := ?_) #[true, true, true, true, true, true, true, true, true, true, true, false, false, false, false, false, false, false, false, false, false] rfl rfl (by kernel_rfl) (fun _ _ _ h => h) (Or.inr ⟨by rfl, rfl⟩) ?_ ?_
            rotate_left
            · simp only [Act.put, List.setIfInBounds_toArray, List.set_cons_zero, List.set_cons_succ, i64_w, i32_w]
              rfl
            refine pure_ (i := 11) (N := some 45) (v := undef) (a' := ?_) #[true, true, true, true, true, true, true, true, true, true, true, true, false, false, false, false, false, false, false, false, false] rfl rfl (by kernel_rfl) (fun _ _ _ h => h) (Or.inr ⟨by rfl, rfl⟩) ?_ ?_
            rotate_left
            · simp only [Act.put, List.setIfInBounds_toArray, List.set_cons_zero, List.set_cons_succ, i64_w, i32_w]
              rfl
            refine pure_ (i := 12) (N := some 46) (v := undef) (a' := ?_) #[true, true, true, true, true, true, true, true, true, true, true, true, true, false, false, false, false, false, false, false, false] rfl rfl (by kernel_rfl) (fun _ _ _ h => h) (Or.inr ⟨by rfl, rfl⟩) ?_ ?_
            rotate_left
            · simp only [Act.put, List.setIfInBounds_toArray, List.set_cons_zero, List.set_cons_succ, i64_w, i32_w]
              rfl
            refine pure_ (i := 13) (N := some 47) (v := undef) (a' := ?_) #[true, true, true, true, true, true, true, true, true, true, true, true, true, true, false, false, false, false, false, false, false] rfl rfl (by kernel_rfl) (fun _ _ _ h => h) (Or.inr ⟨by rfl, rfl⟩) ?_ ?_
            rotate_left
            · simp only [Act.put, List.setIfInBounds_toArray, List.set_cons_zero, List.set_cons_succ, i64_w, i32_w]
              rfl
            refine pure_ (i := 14) (N := some 48) (v := undef) (a' := ?_) #[true, true, true, true, true, true, true, true, true, true, true, true, true, true, true, false, false, false, false, false, false] rfl rfl (by kernel_rfl) (fun _ _ _ h => h) (Or.inr ⟨by rfl, rfl⟩) ?_ ?_
            rotate_left
            · simp only [Act.put, List.setIfInBounds_toArray, List.set_cons_zero, List.set_cons_succ, i64_w, i32_w]
              rfl
            refine pure_ (i := 15) (N := some 49) (v := undef) (a' := ?_) #[true, true, true, true, true, true, true, true, true, true, true, true, true, true, true, true, false, false, false, false, false] rfl rfl (by kernel_rfl) (fun _ _ _ h => h) (Or.inr ⟨by rfl, rfl⟩) ?_ ?_
            rotate_left
            · simp only [Act.put, List.setIfInBounds_toArray, List.set_cons_zero, List.set_cons_succ, i64_w, i32_w]
              rfl
            refine pure_ (i := 16) (N := some 50) (v := undef) (a' := ?_) #[true, true, true, true, true, true, true, true, true, true, true, true, true, true, true, true, true, false, false, false, false] rfl rfl (by kernel_rfl) (fun _ _ _ h => h) (Or.inr ⟨by rfl, rfl⟩) ?_ ?_
            rotate_left
            · simp only [Act.put, List.setIfInBounds_toArray, List.set_cons_zero, List.set_cons_succ, i64_w, i32_w]
              rfl
            refine pure_ (i := 17) (N := some 51) (v := undef) (a' := ?_) #[true, true, true, true, true, true, true, true, true, true, true, true, true, true, true, true, true, true, false, false, false] rfl rfl (by kernel_rfl) (fun _ _ _ h => h) (Or.inr ⟨by rfl, rfl⟩) ?_ ?_
            rotate_left
            · simp only [Act.put, List.setIfInBounds_toArray, List.set_cons_zero, List.set_cons_succ, i64_w, i32_w]
              rfl
            refine pure_ (i := 18) (N := some 52) (v := undef) (a' := ?_) #[true, true, true, true, true, true, true, true, true, true, true, true, true, true, true, true, true, true, true, false, false] rfl rfl (by kernel_rfl) (fun _ _ _ h => h) (Or.inr ⟨by rfl, rfl⟩) ?_ ?_
            rotate_left
            · simp only [Act.put, List.setIfInBounds_toArray, List.set_cons_zero, List.set_cons_succ, i64_w, i32_w]
              rfl
            refine pure_ (i := 19) (N := some 53) (v := undef) (a' := ?_) #[true, true, true, true, true, true, true, true, true, true, true, true, true, true, true, true, true, true, true, true, false] rfl rfl (by kernel_rfl) (fun _ _ _ h => h) (Or.inr ⟨by rfl, rfl⟩) ?_ ?_
            rotate_left
            · simp only [Act.put, List.setIfInBounds_toArray, List.set_cons_zero, List.set_cons_succ, i64_w, i32_w]
              rfl
            refine pure_ (i := 20) (N := some 54) (v := ?_) (a' := ?_) #[true, true, true, true, true, true, true, true, true, true, true, true, true, true, true, true, true, true, true, true, true] rfl rfl (by kernel_rfl) (fun _ _ _ h => h) (Or.inl ⟨by rfl, ?_⟩) ?_ ?_
            rotate_left
            · intro w'
              go_simp
              with_reducible rfl
            rotate_left
            · simp only [Act.put, List.setIfInBounds_toArray, List.set_cons_zero, List.set_cons_succ, i64_w, i32_w]
              rfl
            refine done_ (by kernel_rfl) ?_
            go_wp2
            go_roundg d
            case measure => omega
            case rel =>
              refine ⟨i + 1, j', _, vs, by go_num, by omega, hj3, ?_, by rw [hch3]; omega, HR2, ?_, ?_⟩
              · rw [hch3]
                exact hc2.setJ hj2 (by decide) i3 _
              · exact KJ.setCell hj2 i3 _ _ _ _ _ (by decide) (by decide) hli2
              · exact hB1r.setCell (p := ⟨w.heap.size + 1, i3, none⟩) (Nat.le_refl _) _
        · have hst := stepV_two (j := j) hsk hW
          have hbs : b.size ≤ 65536 := Nat.le_trans (hwl b (by rw [hW]; simp)) hts
          have hbk : w2.drew.heap[wr.heap.size]? = some (.cells #[.string a, .string b] 9 (0, 0)) := by rw [hw2, hW]; exact heap_alloc_new wr _
          have hca : w2.drew.cell? ⟨wr.heap.size, 0, none⟩ = some (.string a) := cell_of_row _ _ 0 _ _ (0, 0) hbk
          have hcb : w2.drew.cell? ⟨wr.heap.size, 1, none⟩ = some (.string b) := cell_of_row _ _ 1 _ _ (0, 0) hbk
          have kf := set_calls (w.heap.size + 1) (w.heap.size + 1) j (.slice Ac j.chunks.length cc) vs a b w2.drew hj2 hc2 (Nat.le_refl _) (by omega) hbs (by omega)
          clear hw2 hwl hwn hbk
          cases hfl : setV j a b with
          | none =>
            rw [hfl] at hst
            have HVE : Hid (parseV s = (none, i + 1, 4)) := by
              have h1 := hv.out
              have hr := HR.out
              rw [runL_none hLt hst] at hr
              rw [← hr] at h1
              exact Lib.hid h1
            have kf2 := kf.mono (fun _ _ h => h.bad hfl)
            clear hst HR hv hsk ht kf hfl
            go_wp2_with fail
            refine start_ (n := 21) (S := fun w' => w'.cell? ⟨wr.heap.size, 0, none⟩ = some (.string a) ∧ w'.cell? ⟨wr.heap.size, 1, none⟩ = some (.string b)) (ds := [18]) #[false, false, false, false, false, false, false, false, false, false, false, false, false, false, false, false, false, false, false, false, false] (by kernel_rfl) rfl rfl ⟨hca, hcb⟩ (fun hHeld => ?_)
            refine pure_ (i := 0) (N := some 34) (v := ?_) (a' := ?_) #[true, false, false, false, false, false, false, false, false, false, false, false, false, false, false, false, false, false, false, false, false] rfl rfl (by kernel_rfl) (fun _ _ _ h => h) (Or.inl ⟨by rfl, ?_⟩) ?_ ?_
            rotate_left
            · intro w'
              go_simp
              with_reducible rfl
            rotate_left
            · simp only [Act.put, List.setIfInBounds_toArray, List.set_cons_zero, List.set_cons_succ, i64_w, i32_w]
              rfl
            refine pure_ (i := 1) (N := some 35) (v := ?_) (a' := ?_) #[true, true, false, false, false, false, false, false, false, false, false, false, false, false, false, false, false, false, false, false, false] rfl rfl (by kernel_rfl) (fun _ _ _ h => h) (Or.inl ⟨by rfl, ?_⟩) ?_ ?_
            rotate_left
            · intro w'
              go_simp
              with_reducible rfl
            rotate_left
            · simp only [Act.put, List.setIfInBounds_toArray, List.set_cons_zero, List.set_cons_succ, i64_w, i32_w]
              rfl
            refine pure_ (i := 2) (N := some 36) (v := ?_) (a' := ?_) #[true, true, true, false, false, false, false, false, false, false, false, false, false, false, false, false, false, false, false, false, false] rfl rfl (by kernel_rfl) (fun _ _ _ h => h) (Or.inl ⟨by rfl, ?_⟩) ?_ ?_
            rotate_left
            · intro w'
              go_simp
              with_reducible rfl
            rotate_left
            · simp only [Act.put, List.setIfInBounds_toArray, List.set_cons_zero, List.set_cons_succ, i64_w, i32_w]
              rfl
            refine pure_ (i := 3) (N := some 37) (v := ?_) (a' := ?_) #[true, true, true, true, false, false, false, false, false, false, false, false, false, false, false, false, false, false, false, false, false] rfl rfl (by kernel_rfl) (fun _ _ _ h => h) (Or.inl ⟨by rfl, ?_⟩) ?_ ?_
            rotate_left
            · intro w'
              go_simp
              with_reducible rfl
            rotate_left
            · simp only [Act.put, List.setIfInBounds_toArray, List.set_cons_zero, List.set_cons_succ, i64_w, i32_w]
              rfl
            refine pure_ (i := 4) (N := some 38) (v := undef) (a' := ?_) #[true, true, true, true, true, false, false, false, false, false, false, false, false, false, false, false, false, false, false, false, false] rfl rfl (by kernel_rfl) (fun _ _ _ h => h) (Or.inr ⟨by rfl, rfl⟩) ?_ ?_
            rotate_left
            · simp only [Act.put, List.setIfInBounds_toArray, List.set_cons_zero, List.set_cons_succ, i64_w, i32_w]
              rfl
            refine pure_ (i := 5) (N := some 39) (v := undef) (a' := ?_) #[true, true, true, true, true, true, false, false, false, false, false, false, false, false, false, false, false, false, false, false, false] rfl rfl (by kernel_rfl) (fun _ _ _ h => h) (Or.inr ⟨by rfl, rfl⟩) ?_ ?_
            rotate_left
            · simp only [Act.put, List.setIfInBounds_toArray, List.set_cons_zero, List.set_cons_succ, i64_w, i32_w]
              rfl
            refine pure_ (i := 6) (N := some 40) (v := ?_) (a' := ?_) #[true, true, true, true, true, true, true, false, false, false, false, false, false, false, false, false, false, false, false, false, false] rfl rfl (by kernel_rfl) (fun _ _ _ h => h) (Or.inl ⟨by rfl, ?_⟩) ?_ ?_
            rotate_left
            · intro w'
              go_simp
              with_reducible rfl
            rotate_left
            · simp only [Act.put, List.setIfInBounds_toArray, List.set_cons_zero, List.set_cons_succ, i64_w, i32_w]
              rfl
            refine pure_ (i := 7) (N := some 41) (v := ?_) (a' := ?_) #[true, true, true, true, true, true, true, true, false, false, false, false, false, false, false, false, false, false, false, false, false] rfl rfl (by kernel_rfl) (fun _ _ _ h => h) (Or.inl ⟨by rfl, ?_⟩) ?_ ?_
            rotate_left
            · intro w'
              go_simp
              with_reducible rfl
            rotate_left
            · simp only [Act.put, List.setIfInBounds_toArray, List.set_cons_zero, List.set_cons_succ, i64_w, i32_w]
              rfl
            refine pure_ (i := 8) (N := some 42) (v := ?_) (a' := ?_) #[true, true, true, true, true, true, true, true, true, false, false, false, false, false, false, false, false, false, false, false, false] rfl rfl (by kernel_rfl) (fun _ _ _ h => h) (Or.inl ⟨by rfl, ?_⟩) ?_ ?_
            rotate_left
            · intro w'
              go_simp
              with_reducible rfl
            rotate_left
            · simp only [Act.put, List.setIfInBounds_toArray, List.set_cons_zero, List.set_cons_succ, i64_w, i32_w]
              rfl
            refine pure_ (i := 9) (N := some 43) (v := ?_) (a' := ?_) #[true, true, true, true, true, true, true, true, true, true, false, false, false, false, false, false, false, false, false, false, false] rfl rfl (by kernel_rfl) (fun _ _ _ h => h) (Or.inl ⟨by rfl, ?_⟩) ?_ ?_
            rotate_left
            · intro w'
              go_simp
              with_reducible rfl
            rotate_left
            · simp only [Act.put, List.setIfInBounds_toArray, List.set_cons_zero, List.set_cons_succ, i64_w, i32_w]
              rfl
            refine pure_ (i := 10) (N := some 44) (v := ?_) (a' := ?_) #[true, true, true, true, true, true, true, true, true, true, true, false, false, false, false, false, false, false, false, false, false] rfl rfl (by kernel_rfl) (fun _ _ _ h => h) (Or.inl ⟨by rfl, ?_⟩) ?_ ?_
            rotate_left
            · intro w'
              go_simp
              with_reducible rfl
            rotate_left
            · simp only [Act.put, List.setIfInBounds_toArray, List.set_cons_zero, List.set_cons_succ, i64_w, i32_w]
              rfl
            refine pure_ (i := 11) (N := some 45) (v := ?_) (a' := ?_) #[true, true, true, true, true, true, true, true, true, true, true, true, false, false, false, false, false, false, false, false, false] rfl rfl (by kernel_rfl) (fun _ _ _ h => h) (Or.inl ⟨by rfl, ?_⟩) ?_ ?_
            rotate_left
            · intro w'
              go_simp
              with_reducible rfl
            rotate_left
            · simp only [Act.put, List.setIfInBounds_toArray, List.set_cons_zero, List.set_cons_succ, i64_w, i32_w]
              rfl
            refine pure_ (i := 12) (N := some 46) (v := ?_) (a' := ?_) #[true, true, true, true, true, true, true, true, true, true, true, true, true, false, false, false, false, false, false, false, false] rfl rfl (by kernel_rfl) (fun _ _ _ h => h) (Or.inl ⟨by rfl, ?_⟩) ?_ ?_
            rotate_left
            · intro w'
              go_simp
              with_reducible rfl
            rotate_left
            · simp only [Act.put, List.setIfInBounds_toArray, List.set_cons_zero, List.set_cons_succ, i64_w, i32_w]
              rfl
            refine pure_ (i := 13) (N := some 47) (v := ?_) (a' := ?_) #[true, true, true, true, true, true, true, true, true, true, true, true, true, true, false, false, false, false, false, false, false] rfl rfl (by kernel_rfl) (fun _ _ _ h => h) (Or.inl ⟨by rfl, ?_⟩) ?_ ?_
            rotate_left
            · intro w'
              go_simp
              with_reducible rfl
            rotate_left
            · simp only [Act.put, List.setIfInBounds_toArray, List.set_cons_zero, List.set_cons_succ, i64_w, i32_w]
              rfl
            refine pure_ (i := 15) (N := some 49) (v := ?_) (a' := ?_) #[true, true, true, true, true, true, true, true, true, true, true, true, true, true, false, true, false, false, false, false, false] rfl rfl (by kernel_rfl) (fun _ _ _ h => h) (Or.inl ⟨by rfl, ?_⟩) ?_ ?_
            rotate_left
            · intro w'
              go_simp
              with_reducible rfl
            rotate_left
            · simp only [Act.put, List.setIfInBounds_toArray, List.set_cons_zero, List.set_cons_succ, i64_w, i32_w]
              rfl
            refine pure_ (i := 16) (N := some 50) (v := ?_) (a' := ?_) #[true, true, true, true, true, true, true, true, true, true, true, true, true, true, false, true, true, false, false, false, false] rfl rfl (by kernel_rfl) (fun _ _ _ h => h) (Or.inl ⟨by rfl, ?_⟩) ?_ ?_
            rotate_left
            · intro w'
              go_simp
              with_reducible rfl
            rotate_left
            · simp only [Act.put, List.setIfInBounds_toArray, List.set_cons_zero, List.set_cons_succ, i64_w, i32_w]
              rfl
            refine take_ (i := 14) (N := some 48) (v := ?_) (a' := ?_) #[true, true, true, true, true, true, true, true, true, true, true, true, true, true, true, true, true, false, false, false, false] rfl rfl (by kernel_rfl) (fun _ _ _ h => h) (Or.inl ⟨by rfl, ?_⟩) hHeld ?_ ?_
            rotate_left
            · rintro w' ⟨s0, s1⟩
              go_simp
              with_reducible rfl
            rotate_left
            · simp only [Act.put, List.setIfInBounds_toArray, List.set_cons_zero, List.set_cons_succ, i64_w, i32_w]
              rfl
            refine take_ (i := 17) (N := some 51) (v := ?_) (a' := ?_) #[true, true, true, true, true, true, true, true, true, true, true, true, true, true, true, true, true, true, false, false, false] rfl rfl (by kernel_rfl) (fun _ _ _ h => h) (Or.inl ⟨by rfl, ?_⟩) hHeld ?_ ?_
            rotate_left
            · rintro w' ⟨s0, s1⟩
              go_simp
              with_reducible rfl
            rotate_left
            · simp only [Act.put, List.setIfInBounds_toArray, List.set_cons_zero, List.set_cons_succ, i64_w, i32_w]
              rfl
            refine last_ (i := 18) (N := some 52) #[true, true, true, true, true, true, true, true, true, true, true, true, true, true, true, true, true, true, true, false, false] rfl rfl (by kernel_rfl) (by decide) (fun K hK => ?_)
            refine goes_ Tryd.func16 (by kernel_rfl) rfl #[.pointer (some ⟨w.heap.size + 1, 0, none⟩), .string a, .string b] (by rfl) rfl rfl (by simp only [List.map_toArray, List.map_cons, List.map_nil]; rfl) ?_
            with_reducible refine (kf2).mono ?_
            rintro _ _ ⟨rfl, hb3, j2, A2, n2, c2, hj3⟩
            refine ⟨_, rfl, ?_⟩
            refine hK.out _ _ ?_
            clear hK K
            refine norm_ (a' := ?_) ?_ ?_
            rotate_left
            · show Act.put _ (some 52) _ = _
              simp only [Act.put, List.setIfInBounds_toArray, List.set_cons_zero, List.set_cons_succ, i64_w, i32_w]
              rfl
            refine pure_ (i := 19) (N := some 53) (v := ?_) (a' := ?_) #[true, true, true, true, true, true, true, true, true, true, true, true, true, true, true, true, true, true, true, true, false] rfl rfl (by kernel_rfl) (fun _ _ _ h => h) (Or.inl ⟨by rfl, ?_⟩) ?_ ?_
            rotate_left
            · intro w'
              go_simp
              with_reducible rfl
            rotate_left
            · simp only [Act.put, List.setIfInBounds_toArray, List.set_cons_zero, List.set_cons_succ, i64_w, i32_w]
              rfl
            refine pure_ (i := 20) (N := some 54) (v := ?_) (a' := ?_) #[true, true, true, true, true, true, true, true, true, true, true, true, true, true, true, true, true, true, true, true, true] rfl rfl (by kernel_rfl) (fun _ _ _ h => h) (Or.inl ⟨by rfl, ?_⟩) ?_ ?_
            rotate_left
            · intro w'
              go_simp
              with_reducible rfl
            rotate_left
            · simp only [Act.put, List.setIfInBounds_toArray, List.set_cons_zero, List.set_cons_succ, i64_w, i32_w]
              rfl
            refine done_ (by kernel_rfl) ?_
            have hzW := (hb3.block _ (Nat.lt_succ_self _)).trans hz2
            have hjW := hj3
            have hBW := hB2w.trans (hb3.mono (Nat.le_succ _))
            clear hz2 hj2 hB2w hc hc2 hj hz1 hBr hli2 hB1r hs2 kf2 hm2 hli hz hb1 hB hj3 hb3 hca hcb
            rename_i W
            have q0 : W.cell? ⟨w.heap.size + 1, 0, none⟩ = some (.int .i64 j2.frm) := hjW.cell 0
            have q1 : W.cell? ⟨w.heap.size + 1, 1, none⟩ = some (.int .i64 j2.too) := hjW.cell 1
            have q2 : W.cell? ⟨w.heap.size + 1, 2, none⟩ = some (.int .i64 j2.mode) := hjW.cell 2
            have q3 : W.cell? ⟨w.heap.size + 1, 3, none⟩ = some (.int .i64 j2.depth) := hjW.cell 3
            have q4 : W.cell? ⟨w.heap.size + 1, 4, none⟩ = some (.int .i64 j2.size) := hjW.cell 4
            have q5 : W.cell? ⟨w.heap.size + 1, 5, none⟩ = some (.bool j2.once) := hjW.cell 5
            have q6 : W.cell? ⟨w.heap.size + 1, 6, none⟩ = some (.bool j2.opn) := hjW.cell 6
            have q7 : W.cell? ⟨w.heap.size + 1, 7, none⟩ = some (.int .i64 j2.indent) := hjW.cell 7
            have q8 : W.cell? ⟨w.heap.size + 1, 8, none⟩ = some (.bool j2.srt) := hjW.cell 8
            have q9 : W.cell? ⟨w.heap.size + 1, 9, none⟩ = some (.slice A2 n2 c2) := hjW.cell 9
            have z0 : W.cell? ⟨w.heap.size, 0, none⟩ = some (.int .i64 0) := cell_of_row _ _ 0 _ _ (0, 0) hzW
            have z1 : W.cell? ⟨w.heap.size, 1, none⟩ = some (.int .i64 0) := cell_of_row _ _ 1 _ _ (0, 0) hzW
            have z2 : W.cell? ⟨w.heap.size, 2, none⟩ = some (.int .i64 0) := cell_of_row _ _ 2 _ _ (0, 0) hzW
            have z3 : W.cell? ⟨w.heap.size, 3, none⟩ = some (.int .i64 0) := cell_of_row _ _ 3 _ _ (0, 0) hzW
            have z4 : W.cell? ⟨w.heap.size, 4, none⟩ = some (.int .i64 0) := cell_of_row _ _ 4 _ _ (0, 0) hzW
            have z5 : W.cell? ⟨w.heap.size, 5, none⟩ = some (.bool false) := cell_of_row _ _ 5 _ _ (0, 0) hzW
            have z6 : W.cell? ⟨w.heap.size, 6, none⟩ = some (.bool false) := cell_of_row _ _ 6 _ _ (0, 0) hzW
            have z7 : W.cell? ⟨w.heap.size, 7, none⟩ = some (.int .i64 0) := cell_of_row _ _ 7 _ _ (0, 0) hzW
            have z8 : W.cell? ⟨w.heap.size, 8, none⟩ = some (.bool false) := cell_of_row _ _ 8 _ _ (0, 0) hzW
            have z9 : W.cell? ⟨w.heap.size, 9, none⟩ = some (.slice none 0 0) := cell_of_row _ _ 9 _ _ (0, 0) hzW
            have zf : ∀ i2, W.frozen? ⟨w.heap.size, i2, none⟩ = false := fun i2 => frozen_of_row _ _ i2 _ _ hzW
            have hwW : w.heap.size < W.heap.size := lt_of_block hzW
            have S : JB (set10 W w.heap.size j2 (.slice A2 n2 c2)) 28 w.heap.size j2 (.slice A2 n2 c2) := set10_at hzW
            have r := JB.cell (show JB ((set10 W w.heap.size j2 (.slice A2 n2 c2)).alloc (.cells #[.int .i64 ((i : Int) + 1), .int .i64 4] 46)) 28 w.heap.size j2 (.slice A2 n2 c2) from a_past S)
            have hsz3 : (set10 W w.heap.size j2 (.slice A2 n2 c2)).heap.size = W.heap.size := by simp [set10, World.setCell]
            have hB3 := (set10_below (H := w.heap.size) (j := j2) (ch := .slice A2 n2 c2) hBW (Nat.le_refl _)).alloc (by rw [hsz3]; omega) (.cells #[.int .i64 ((i : Int) + 1), .int .i64 4] 46)
            have hbd : ((set10 W w.heap.size j2 (.slice A2 n2 c2)).alloc (.cells #[.int .i64 ((i : Int) + 1), .int .i64 4] 46)).heap[W.heap.size]? = some (.cells #[.int .i64 ((i + 1 : Nat) : Int), .int .i64 ((4 : Nat) : Int)] 46 (0, 0)) := a_at _ _ _ hsz3.symm
            unfold set10 at r hB3 hbd
            have hib : i ≤ 65537 := by omega
            have hne : ¬ w.heap.size = W.heap.size := by omega
            clear S hsz3 hm hs hLl hLs hm1 hbi hs1 hL65 hcl hBw hsz hik hlt hLt hts hcell hbl he h35 h35b hW hHeld
            go_wp2
            refine bodyPost_ret (v := .tuple #[.agg (jobCells j2 (.slice A2 n2 c2)), .iface 42 (.pointer (some ⟨W.heap.size, 0, none⟩))]) (by simp [results, Tryd.results8, go_sem, r, jobCells]) rfl ⟨hB3, j2, _, _, _, .inl ⟨W.heap.size, i + 1, 4, rfl, hbd, HVE.out⟩⟩
          | some j' =>
            rw [hfl] at hst
            have HR2 : Hid (runL j' (i + 1) (L.drop (i + 1)) = R) := by
              have hr := HR.out
              rw [runL_some hLt hst] at hr
              exact Lib.hid hr
            have kf2 := kf.mono (fun _ _ h => h.ok hfl)
            clear hst HR hsk ht kf hfl
            go_wp2_with fail
            refine start_ (n := 21) (S := fun w' => w'.cell? ⟨wr.heap.size, 0, none⟩ = some (.string a) ∧ w'.cell? ⟨wr.heap.size, 1, none⟩ = some (.string b)) (ds := [18]) #[false, false, false, false, false, false, false, false, false, false, false, false, false, false, false, false, false, false, false, false, false] (by kernel_rfl) rfl rfl ⟨hca, hcb⟩ (fun hHeld => ?_)
            refine pure_ (i := 0) (N := some 34) (v := ?_) (a' := ?_) #[true, false, false, false, false, false, false, false, false, false, false, false, false, false, false, false, false, false, false, false, false] rfl rfl (by kernel_rfl) (fun _ _ _ h => h) (Or.inl ⟨by rfl, ?_⟩) ?_ ?_
            rotate_left
            · intro w'
              go_simp
              with_reducible rfl
            rotate_left
            · simp only [Act.put, List.setIfInBounds_toArray, List.set_cons_zero, List.set_cons_succ, i64_w, i32_w]
              rfl
            refine pure_ (i := 1) (N := some 35) (v := ?_) (a' := ?_) #[true, true, false, false, false, false, false, false, false, false, false, false, false, false, false, false, false, false, false, false, false] rfl rfl (by kernel_rfl) (fun _ _ _ h => h) (Or.inl ⟨by rfl, ?_⟩) ?_ ?_
            rotate_left
            · intro w'
              go_simp
              with_reducible rfl
            rotate_left
            · simp only [Act.put, List.setIfInBounds_toArray, List.set_cons_zero, List.set_cons_succ, i64_w, i32_w]
              rfl
            refine pure_ (i := 2) (N := some 36) (v := ?_) (a' := ?_) #[true, true, true, false, false, false, false, false, false, false, false, false, false, false, false, false, false, false, false, false, false] rfl rfl (by kernel_rfl) (fun _ _ _ h => h) (Or.inl ⟨by rfl, ?_⟩) ?_ ?_
            rotate_left
            · intro w'
              go_simp
              with_reducible rfl
            rotate_left
            · simp only [Act.put, List.setIfInBounds_toArray, List.set_cons_zero, List.set_cons_succ, i64_w, i32_w]
              rfl
            refine pure_ (i := 3) (N := some 37) (v := ?_) (a' := ?_) #[true, true, true, true, false, false, false, false, false, false, false, false, false, false, false, false, false, false, false, false, false] rfl rfl (by kernel_rfl) (fun _ _ _ h => h) (Or.inl ⟨by rfl, ?_⟩) ?_ ?_
            rotate_left
            · intro w'
              go_simp
              with_reducible rfl
            rotate_left
            · simp only [Act.put, List.setIfInBounds_toArray, List.set_cons_zero, List.set_cons_succ, i64_w, i32_w]
              rfl
            refine pure_ (i := 4) (N := some 38) (v := undef) (a' := ?_) #[true, true, true, true, true, false, false, false, false, false, false, false, false, false, false, false, false, false, false, false, false] rfl rfl (by kernel_rfl) (fun _ _ _ h => h) (Or.inr ⟨by rfl, rfl⟩) ?_ ?_
            rotate_left
            · simp only [Act.put, List.setIfInBounds_toArray, List.set_cons_zero, List.set_cons_succ, i64_w, i32_w]
              rfl
            refine pure_ (i := 5) (N := some 39) (v := undef) (a' := ?_) #[true, true, true, true, true, true, false, false, false, false, false, false, false, false, false, false, false, false, false, false, false] rfl rfl (by kernel_rfl) (fun _ _ _ h => h) (Or.inr ⟨by rfl, rfl⟩) ?_ ?_
            rotate_left
            · simp only [Act.put, List.setIfInBounds_toArray, List.set_cons_zero, List.set_cons_succ, i64_w, i32_w]
              rfl
            refine pure_ (i := 6) (N := some 40) (v := ?_) (a' := ?_) #[true, true, true, true, true, true, true, false, false, false, false, false, false, false, false, false, false, false, false, false, false] rfl rfl (by kernel_rfl) (fun _ _ _ h => h) (Or.inl ⟨by rfl, ?_⟩) ?_ ?_
            rotate_left
            · intro w'
              go_simp
              with_reducible rfl
            rotate_left
            · simp only [Act.put, List.setIfInBounds_toArray, List.set_cons_zero, List.set_cons_succ, i64_w, i32_w]
              rfl
            refine pure_ (i := 7) (N := some 41) (v := ?_) (a' := ?_) #[true, true, true, true, true, true, true, true, false, false, false, false, false, false, false, false, false, false, false, false, false] rfl rfl (by kernel_rfl) (fun _ _ _ h => h) (Or.inl ⟨by rfl, ?_⟩) ?_ ?_
            rotate_left
            · intro w'
              go_simp
              with_reducible rfl
            rotate_left
            · simp only [Act.put, List.setIfInBounds_toArray, List.set_cons_zero, List.set_cons_succ, i64_w, i32_w]
              rfl
            refine pure_ (i := 8) (N := some 42) (v := ?_) (a' := ?_) #[true, true, true, true, true, true, true, true, true, false, false, false, false, false, false, false, false, false, false, false, false] rfl rfl (by kernel_rfl) (fun _ _ _ h => h) (Or.inl ⟨by rfl, ?_⟩) ?_ ?_
            rotate_left
            · intro w'
              go_simp
              with_reducible rfl
            rotate_left
            · simp only [Act.put, List.setIfInBounds_toArray, List.set_cons_zero, List.set_cons_succ, i64_w, i32_w]
              rfl
            refine pure_ (i := 9) (N := some 43) (v := ?_) (a' := ?_) #[true, true, true, true, true, true, true, true, true, true, false, false, false, false, false, false, false, false, false, false, false] rfl rfl (by kernel_rfl) (fun _ _ _ h => h) (Or.inl ⟨by rfl, ?_⟩) ?_ ?_
            rotate_left
            · intro w'
              go_simp
              with_reducible rfl
            rotate_left
            · simp only [Act.put, List.setIfInBounds_toArray, List.set_cons_zero, List.set_cons_succ, i64_w, i32_w]
              rfl
            refine pure_ (i := 10) (N := some 44) (v := ?_) (a' := ?_) #[true, true, true, true, true, true, true, true, true, true, true, false, false, false, false, false, false, false, false, false, false] rfl rfl (by kernel_rfl) (fun _ _ _ h => h) (Or.inl ⟨by rfl, ?_⟩) ?_ ?_
            rotate_left
            · intro w'
              go_simp
              with_reducible rfl
            rotate_left
            · simp only [Act.put, List.setIfInBounds_toArray, List.set_cons_zero, List.set_cons_succ, i64_w, i32_w]
              rfl
            refine pure_ (i := 11) (N := some 45) (v := ?_) (a' := ?_) #[true, true, true, true, true, true, true, true, true, true, true, true, false, false, false, false, false, false, false, false, false] rfl rfl (by kernel_rfl) (fun _ _ _ h => h) (Or.inl ⟨by rfl, ?_⟩) ?_ ?_
            rotate_left
            · intro w'
              go_simp
              with_reducible rfl
            rotate_left
            · simp only [Act.put, List.setIfInBounds_toArray, List.set_cons_zero, List.set_cons_succ, i64_w, i32_w]
              rfl
            refine pure_ (i := 12) (N := some 46) (v := ?_) (a' := ?_) #[true, true, true, true, true, true, true, true, true, true, true, true, true, false, false, false, false, false, false, false, false] rfl rfl (by kernel_rfl) (fun _ _ _ h => h) (Or.inl ⟨by rfl, ?_⟩) ?_ ?_
            rotate_left
            · intro w'
              go_simp
              with_reducible rfl
            rotate_left
            · simp only [Act.put, List.setIfInBounds_toArray, List.set_cons_zero, List.set_cons_succ, i64_w, i32_w]
              rfl
            refine pure_ (i := 13) (N := some 47) (v := ?_) (a' := ?_) #[true, true, true, true, true, true, true, true, true, true, true, true, true, true, false, false, false, false, false, false, false] rfl rfl (by kernel_rfl) (fun _ _ _ h => h) (Or.inl ⟨by rfl, ?_⟩) ?_ ?_
            rotate_left
            · intro w'
              go_simp
              with_reducible rfl
            rotate_left
            · simp only [Act.put, List.setIfInBounds_toArray, List.set_cons_zero, List.set_cons_succ, i64_w, i32_w]
              rfl
            refine pure_ (i := 15) (N := some 49) (v := ?_) (a' := ?_) #[true, true, true, true, true, true, true, true, true, true, true, true, true, true, false, true, false, false, false, false, false] rfl rfl (by kernel_rfl) (fun _ _ _ h => h) (Or.inl ⟨by rfl, ?_⟩) ?_ ?_
            rotate_left
            · intro w'
              go_simp
              with_reducible rfl
            rotate_left
            · simp only [Act.put, List.setIfInBounds_toArray, List.set_cons_zero, List.set_cons_succ, i64_w, i32_w]
              rfl
            refine pure_ (i := 16) (N := some 50) (v := ?_) (a' := ?_) #[true, true, true, true, true, true, true, true, true, true, true, true, true, true, false, true, true, false, false, false, false] rfl rfl (by kernel_rfl) (fun _ _ _ h => h) (Or.inl ⟨by rfl, ?_⟩) ?_ ?_
            rotate_left
            · intro w'
              go_simp
              with_reducible rfl
            rotate_left
            · simp only [Act.put, List.setIfInBounds_toArray, List.set_cons_zero, List.set_cons_succ, i64_w, i32_w]
              rfl
            refine take_ (i := 14) (N := some 48) (v := ?_) (a' := ?_) #[true, true, true, true, true, true, true, true, true, true, true, true, true, true, true, true, true, false, false, false, false] rfl rfl (by kernel_rfl) (fun _ _ _ h => h) (Or.inl ⟨by rfl, ?_⟩) hHeld ?_ ?_
            rotate_left
            · rintro w' ⟨s0, s1⟩
              go_simp
              with_reducible rfl
            rotate_left
            · simp only [Act.put, List.setIfInBounds_toArray, List.set_cons_zero, List.set_cons_succ, i64_w, i32_w]
              rfl
            refine take_ (i := 17) (N := some 51) (v := ?_) (a' := ?_) #[true, true, true, true, true, true, true, true, true, true, true, true, true, true, true, true, true, true, false, false, false] rfl rfl (by kernel_rfl) (fun _ _ _ h => h) (Or.inl ⟨by rfl, ?_⟩) hHeld ?_ ?_
            rotate_left
            · rintro w' ⟨s0, s1⟩
              go_simp
              with_reducible rfl
            rotate_left
            · simp only [Act.put, List.setIfInBounds_toArray, List.set_cons_zero, List.set_cons_succ, i64_w, i32_w]
              rfl
            refine last_ (i := 18) (N := some 52) #[true, true, true, true, true, true, true, true, true, true, true, true, true, true, true, true, true, true, true, false, false] rfl rfl (by kernel_rfl) (by decide) (fun K hK => ?_)
            refine goes_ Tryd.func16 (by kernel_rfl) rfl #[.pointer (some ⟨w.heap.size + 1, 0, none⟩), .string a, .string b] (by rfl) rfl rfl (by simp only [List.map_toArray, List.map_cons, List.map_nil]; rfl) ?_
            with_reducible refine (kf2).mono ?_
            rintro _ _ ⟨rfl, ch3, vs3, hj3, hc3, hl3, hb3, hk3⟩
            refine ⟨_, rfl, ?_⟩
            refine hK.out _ _ ?_
            clear hK K
            refine norm_ (a' := ?_) ?_ ?_
            rotate_left
            · show Act.put _ (some 52) _ = _
              simp only [Act.put, List.setIfInBounds_toArray, List.set_cons_zero, List.set_cons_succ, i64_w, i32_w]
              rfl
            refine pure_ (i := 19) (N := some 53) (v := ?_) (a' := ?_) #[true, true, true, true, true, true, true, true, true, true, true, true, true, true, true, true, true, true, true, true, false] rfl rfl (by kernel_rfl) (fun _ _ _ h => h) (Or.inl ⟨by rfl, ?_⟩) ?_ ?_
            rotate_left
            · intro w'
              go_simp
              with_reducible rfl
            rotate_left
            · simp only [Act.put, List.setIfInBounds_toArray, List.set_cons_zero, List.set_cons_succ, i64_w, i32_w]
              rfl
            refine pure_ (i := 20) (N := some 54) (v := ?_) (a' := ?_) #[true, true, true, true, true, true, true, true, true, true, true, true, true, true, true, true, true, true, true, true, true] rfl rfl (by kernel_rfl) (fun _ _ _ h => h) (Or.inl ⟨by rfl, ?_⟩) ?_ ?_
            rotate_left
            · intro w'
              go_simp
              with_reducible rfl
            rotate_left
            · simp only [Act.put, List.setIfInBounds_toArray, List.set_cons_zero, List.set_cons_succ, i64_w, i32_w]
              rfl
            refine done_ (by kernel_rfl) ?_
            go_wp2
            go_roundg d
            case measure => omega
            case rel => exact ⟨i + 1, j', _, vs3, by go_num, by omega, hj3, hc3, by omega, HR2, hk3 _ _ _ _ (by decide) (by decide) hli2, hB1r.trans hb3⟩
        · have hst := stepV_more (j := j) hsk hW
          have hl1 : (((a :: b :: c :: r).length : Int) == 1) = false := by rw [beq_eq_false_iff_ne]; simp only [List.length_cons]; omega
          have hl2 : (((a :: b :: c :: r).length : Int) == 2) = false := by rw [beq_eq_false_iff_ne]; simp only [List.length_cons]; omega
          have HVE : Hid (parseV s = (none, i + 1, 4)) := by
            have h1 := hv.out
            have hr := HR.out
            rw [runL_none hLt hst] at hr
            rw [← hr] at h1
            exact Lib.hid h1
          clear hst HR hv hsk ht hw2 hwl hwn
          generalize (a :: b :: c :: r).length = nW at hl1 hl2 ⊢
          go_wp2_with fail
          refine start_ (n := 21) (S := fun w' => True) (ds := []) #[false, false, false, false, false, false, false, false, false, false, false, false, false, false, false, false, false, false, false, false, false] (by kernel_rfl) rfl rfl trivial (fun hHeld => ?_)
          refine pure_ (i := 0) (N := some 34) (v := ?_) (a' := ?_) #[true, false, false, false, false, false, false, false, false, false, false, false, false, false, false, false, false, false, false, false, false] rfl rfl (by kernel_rfl) (fun _ _ _ h => h) (Or.inl ⟨by rfl, ?_⟩) ?_ ?_
          rotate_left
          · intro w'
            go_simp
            with_reducible rfl
          rotate_left
          · simp only [Act.put, List.setIfInBounds_toArray, List.set_cons_zero, List.set_cons_succ, i64_w, i32_w]
            rfl
          refine pure_ (i := 1) (N := some 35) (v := ?_) (a' := ?_) #[true, true, false, false, false, false, false, false, false, false, false, false, false, false, false, false, false, false, false, false, false] rfl rfl (by kernel_rfl) (fun _ _ _ h => h) (Or.inl ⟨by rfl, ?_⟩) ?_ ?_
          rotate_left
          · intro w'
            go_simp
            with_reducible rfl
          rotate_left
          · simp only [Act.put, List.setIfInBounds_toArray, List.set_cons_zero, List.set_cons_succ, i64_w, i32_w]
            rfl
          refine pure_ (i := 2) (N := some 36) (v := ?_) (a' := ?_) #[true, true, true, false, false, false, false, false, false, false, false, false, false, false, false, false, false, false, false, false, false] rfl rfl (by kernel_rfl) (fun _ _ _ h => h) (Or.inl ⟨by rfl, ?_⟩) ?_ ?_
          rotate_left
          · intro w'
            go_simp
            with_reducible rfl
          rotate_left
          · simp only [Act.put, List.setIfInBounds_toArray, List.set_cons_zero, List.set_cons_succ, i64_w, i32_w]
            rfl
          refine pure_ (i := 3) (N := some 37) (v := ?_) (a' := ?_) #[true, true, true, true, false, false, false, false, false, false, false, false, false, false, false, false, false, false, false, false, false] rfl rfl (by kernel_rfl) (fun _ _ _ h => h) (Or.inl ⟨by rfl, ?_⟩) ?_ ?_
          rotate_left
          · intro w'
            go_simp
            with_reducible rfl
          rotate_left
          · simp only [Act.put, List.setIfInBounds_toArray, List.set_cons_zero, List.set_cons_succ, i64_w, i32_w]
            rfl
          refine pure_ (i := 4) (N := some 38) (v := undef) (a' := ?_) #[true, true, true, true, true, false, false, false, false, false, false, false, false, false, false, false, false, false, false, false, false] rfl rfl (by kernel_rfl) (fun _ _ _ h => h) (Or.inr ⟨by rfl, rfl⟩) ?_ ?_
          rotate_left
          · simp only [Act.put, List.setIfInBounds_toArray, List.set_cons_zero, List.set_cons_succ, i64_w, i32_w]
            rfl
          refine pure_ (i := 5) (N := some 39) (v := undef) (a' := ?_) #[true, true, true, true, true, true, false, false, false, false, false, false, false, false, false, false, false, false, false, false, false] rfl rfl (by kernel_rfl) (fun _ _ _ h => h) (Or.inr ⟨by rfl, rfl⟩) ?_ ?_
          rotate_left
          · simp only [Act.put, List.setIfInBounds_toArray, List.set_cons_zero, List.set_cons_succ, i64_w, i32_w]
            rfl
          refine pure_ (i := 6) (N := some 40) (v := ?_) (a' := ?_) #[true, true, true, true, true, true, true, false, false, false, false, false, false, false, false, false, false, false, false, false, false] rfl rfl (by kernel_rfl) (fun _ _ _ h => h) (Or.inl ⟨by rfl, ?_⟩) ?_ ?_
          rotate_left
          · intro w'
            go_simp
            with_reducible rfl
          rotate_left
          · simp only [Act.put, List.setIfInBounds_toArray, List.set_cons_zero, List.set_cons_succ, i64_w, i32_w]
            rfl
          refine pure_ (i := 7) (N := some 41) (v := ?_) (a' := ?_) #[true, true, true, true, true, true, true, true, false, false, false, false, false, false, false, false, false, false, false, false, false] rfl rfl (by kernel_rfl) (fun _ _ _ h => h) (Or.inl ⟨by rfl, ?_⟩) ?_ ?_
          rotate_left
          · intro w'
            go_simp
            with_reducible rfl
          rotate_left
          · simp only [Act.put, List.setIfInBounds_toArray, List.set_cons_zero, List.set_cons_succ, i64_w, i32_w]
            rfl
          refine pure_ (i := 8) (N := some 42) (v := ?_) (a' := ?_) #[true, true, true, true, true, true, true, true, true, false, false, false, false, false, false, false, false, false, false, false, false] rfl rfl (by kernel_rfl) (fun _ _ _ h => h) (Or.inl ⟨by rfl, ?_⟩) ?_ ?_
          rotate_left
          · intro w'
            go_simp
            with_reducible rfl
          rotate_left
          · simp only [Act.put, List.setIfInBounds_toArray, List.set_cons_zero, List.set_cons_succ, i64_w, i32_w]
            rfl
          refine pure_ (i := 9) (N := some 43) (v := ?_) (a' := ?_) #[true, true, true, true, true, true, true, true, true, true, false, false, false, false, false, false, false, false, false, false, false] rfl rfl (by kernel_rfl) (fun _ _ _ h => h) (Or.inl ⟨by rfl, ?_⟩) ?_ ?_
          rotate_left
          · intro w'
            go_simp
            with_reducible rfl
          rotate_left
          · simp only [Act.put, List.setIfInBounds_toArray, List.set_cons_zero, List.set_cons_succ, i64_w, i32_w]
            rfl
          refine pure_ (i := 10) (N := some 44) (v := ?_) (a' := ?_) #[true, true, true, true, true, true, true, true, true, true, true, false, false, false, false, false, false, false, false, false, false] rfl rfl (by kernel_rfl) (fun _ _ _ h => h) (Or.inl ⟨by rfl, ?_⟩) ?_ ?_
          rotate_left
          · intro w'
            go_simp
            with_reducible rfl
          rotate_left
          · simp only [Act.put, List.setIfInBounds_toArray, List.set_cons_zero, List.set_cons_succ, i64_w, i32_w]
            rfl
          refine pure_ (i := 11) (N := some 45) (v := ?_) (a' := ?_) #[true, true, true, true, true, true, true, true, true, true, true, true, false, false, false, false, false, false, false, false, false] rfl rfl (by kernel_rfl) (fun _ _ _ h => h) (Or.inl ⟨by rfl, ?_⟩) ?_ ?_
          rotate_left
          · intro w'
            go_simp
            with_reducible rfl
          rotate_left
          · simp only [Act.put, List.setIfInBounds_toArray, List.set_cons_zero, List.set_cons_succ, i64_w, i32_w]
            rfl
          refine pure_ (i := 12) (N := some 46) (v := undef) (a' := ?_) #[true, true, true, true, true, true, true, true, true, true, true, true, true, false, false, false, false, false, false, false, false] rfl rfl (by kernel_rfl) (fun _ _ _ h => h) (Or.inr ⟨by rfl, rfl⟩) ?_ ?_
          rotate_left
          · simp only [Act.put, List.setIfInBounds_toArray, List.set_cons_zero, List.set_cons_succ, i64_w, i32_w]
            rfl
          refine pure_ (i := 13) (N := some 47) (v := undef) (a' := ?_) #[true, true, true, true, true, true, true, true, true, true, true, true, true, true, false, false, false, false, false, false, false] rfl rfl (by kernel_rfl) (fun _ _ _ h => h) (Or.inr ⟨by rfl, rfl⟩) ?_ ?_
          rotate_left
          · simp only [Act.put, List.setIfInBounds_toArray, List.set_cons_zero, List.set_cons_succ, i64_w, i32_w]
            rfl
          refine pure_ (i := 14) (N := some 48) (v := undef) (a' := ?_) #[true, true, true, true, true, true, true, true, true, true, true, true, true, true, true, false, false, false, false, false, false] rfl rfl (by kernel_rfl) (fun _ _ _ h => h) (Or.inr ⟨by rfl, rfl⟩) ?_ ?_
          rotate_left
          · simp only [Act.put, List.setIfInBounds_toArray, List.set_cons_zero, List.set_cons_succ, i64_w, i32_w]
            rfl
          refine pure_ (i := 15) (N := some 49) (v := undef) (a' := ?_) #[true, true, true, true, true, true, true, true, true, true, true, true, true, true, true, true, false, false, false, false, false] rfl rfl (by kernel_rfl) (fun _ _ _ h => h) (Or.inr ⟨by rfl, rfl⟩) ?_ ?_
          rotate_left
          · simp only [Act.put, List.setIfInBounds_toArray, List.set_cons_zero, List.set_cons_succ, i64_w, i32_w]
            rfl
          refine pure_ (i := 16) (N := some 50) (v := undef) (a' := ?_) #[true, true, true, true, true, true, true, true, true, true, true, true, true, true, true, true, true, false, false, false, false] rfl rfl (by kernel_rfl) (fun _ _ _ h => h) (Or.inr ⟨by rfl, rfl⟩) ?_ ?_
          rotate_left
          · simp only [Act.put, List.setIfInBounds_toArray, List.set_cons_zero, List.set_cons_succ, i64_w, i32_w]
            rfl
          refine pure_ (i := 17) (N := some 51) (v := undef) (a' := ?_) #[true, true, true, true, true, true, true, true, true, true, true, true, true, true, true, true, true, true, false, false, false] rfl rfl (by kernel_rfl) (fun _ _ _ h => h) (Or.inr ⟨by rfl, rfl⟩) ?_ ?_
          rotate_left
          · simp only [Act.put, List.setIfInBounds_toArray, List.set_cons_zero, List.set_cons_succ, i64_w, i32_w]
            rfl
          refine pure_ (i := 18) (N := some 52) (v := undef) (a' := ?_) #[true, true, true, true, true, true, true, true, true, true, true, true, true, true, true, true, true, true, true, false, false] rfl rfl (by kernel_rfl) (fun _ _ _ h => h) (Or.inr ⟨by rfl, rfl⟩) ?_ ?_
          rotate_left
          · simp only [Act.put, List.setIfInBounds_toArray, List.set_cons_zero, List.set_cons_succ, i64_w, i32_w]
            rfl
          refine pure_ (i := 19) (N := some 53) (v := ?_) (a' := ?_) #[true, true, true, true, true, true, true, true, true, true, true, true, true, true, true, true, true, true, true, true, false] rfl rfl (by kernel_rfl) (fun _ _ _ h => h) (Or.inl ⟨by rfl, ?_⟩) ?_ ?_
          rotate_left
          · intro w'
            go_simp
            with_reducible rfl
          rotate_left
          · simp only [Act.put, List.setIfInBounds_toArray, List.set_cons_zero, List.set_cons_succ, i64_w, i32_w]
            rfl
          refine pure_ (i := 20) (N := some 54) (v := ?_) (a' := ?_) #[true, true, true, true, true, true, true, true, true, true, true, true, true, true, true, true, true, true, true, true, true] rfl rfl (by kernel_rfl) (fun _ _ _ h => h) (Or.inl ⟨by rfl, ?_⟩) ?_ ?_
          rotate_left
          · intro w'
            go_simp
            with_reducible rfl
          rotate_left
          · simp only [Act.put, List.setIfInBounds_toArray, List.set_cons_zero, List.set_cons_succ, i64_w, i32_w]
            rfl
          refine done_ (by kernel_rfl) ?_
          obtain ⟨j2, hj2e⟩ : ∃ j2, j2 = j := ⟨_, rfl⟩
          obtain ⟨A2, n2, c2, hch⟩ : ∃ A2 n2 c2, (Value.slice Ac j.chunks.length cc) = .slice A2 n2 c2 := ⟨_, _, _, rfl⟩
          rw [hch, ← hj2e] at hj2
          have hzW := hz2
          have hjW := hj2
          have hBW := hB2w
          clear hz2 hj2 hB2w hch hj2e hc hc2 hj hz1 hBr hli2 hB1r hs2 hm2 hli hz hb1 hB
          generalize w2.drew = W at hzW hjW hBW ⊢
          have q0 : W.cell? ⟨w.heap.size + 1, 0, none⟩ = some (.int .i64 j2.frm) := hjW.cell 0
          have q1 : W.cell? ⟨w.heap.size + 1, 1, none⟩ = some (.int .i64 j2.too) := hjW.cell 1
          have q2 : W.cell? ⟨w.heap.size + 1, 2, none⟩ = some (.int .i64 j2.mode) := hjW.cell 2
          have q3 : W.cell? ⟨w.heap.size + 1, 3, none⟩ = some (.int .i64 j2.depth) := hjW.cell 3
          have q4 : W.cell? ⟨w.heap.size + 1, 4, none⟩ = some (.int .i64 j2.size) := hjW.cell 4
          have q5 : W.cell? ⟨w.heap.size + 1, 5, none⟩ = some (.bool j2.once) := hjW.cell 5
          have q6 : W.cell? ⟨w.heap.size + 1, 6, none⟩ = some (.bool j2.opn) := hjW.cell 6
          have q7 : W.cell? ⟨w.heap.size + 1, 7, none⟩ = some (.int .i64 j2.indent) := hjW.cell 7
          have q8 : W.cell? ⟨w.heap.size + 1, 8, none⟩ = some (.bool j2.srt) := hjW.cell 8
          have q9 : W.cell? ⟨w.heap.size + 1, 9, none⟩ = some (.slice A2 n2 c2) := hjW.cell 9
          have z0 : W.cell? ⟨w.heap.size, 0, none⟩ = some (.int .i64 0) := cell_of_row _ _ 0 _ _ (0, 0) hzW
          have z1 : W.cell? ⟨w.heap.size, 1, none⟩ = some (.int .i64 0) := cell_of_row _ _ 1 _ _ (0, 0) hzW
          have z2 : W.cell? ⟨w.heap.size, 2, none⟩ = some (.int .i64 0) := cell_of_row _ _ 2 _ _ (0, 0) hzW
          have z3 : W.cell? ⟨w.heap.size, 3, none⟩ = some (.int .i64 0) := cell_of_row _ _ 3 _ _ (0, 0) hzW
          have z4 : W.cell? ⟨w.heap.size, 4, none⟩ = some (.int .i64 0) := cell_of_row _ _ 4 _ _ (0, 0) hzW
          have z5 : W.cell? ⟨w.heap.size, 5, none⟩ = some (.bool false) := cell_of_row _ _ 5 _ _ (0, 0) hzW
          have z6 : W.cell? ⟨w.heap.size, 6, none⟩ = some (.bool false) := cell_of_row _ _ 6 _ _ (0, 0) hzW
          have z7 : W.cell? ⟨w.heap.size, 7, none⟩ = some (.int .i64 0) := cell_of_row _ _ 7 _ _ (0, 0) hzW
          have z8 : W.cell? ⟨w.heap.size, 8, none⟩ = some (.bool false) := cell_of_row _ _ 8 _ _ (0, 0) hzW
          have z9 : W.cell? ⟨w.heap.size, 9, none⟩ = some (.slice none 0 0) := cell_of_row _ _ 9 _ _ (0, 0) hzW
          have zf : ∀ i2, W.frozen? ⟨w.heap.size, i2, none⟩ = false := fun i2 => frozen_of_row _ _ i2 _ _ hzW
          have hwW : w.heap.size < W.heap.size := lt_of_block hzW
          have S : JB (set10 W w.heap.size j2 (.slice A2 n2 c2)) 28 w.heap.size j2 (.slice A2 n2 c2) := set10_at hzW
          have r := JB.cell (show JB ((set10 W w.heap.size j2 (.slice A2 n2 c2)).alloc (.cells #[.int .i64 ((i : Int) + 1), .int .i64 4] 46)) 28 w.heap.size j2 (.slice A2 n2 c2) from a_past S)
          have hsz3 : (set10 W w.heap.size j2 (.slice A2 n2 c2)).heap.size = W.heap.size := by simp [set10, World.setCell]
          have hB3 := (set10_below (H := w.heap.size) (j := j2) (ch := .slice A2 n2 c2) hBW (Nat.le_refl _)).alloc (by rw [hsz3]; omega) (.cells #[.int .i64 ((i : Int) + 1), .int .i64 4] 46)
          have hbd : ((set10 W w.heap.size j2 (.slice A2 n2 c2)).alloc (.cells #[.int .i64 ((i : Int) + 1), .int .i64 4] 46)).heap[W.heap.size]? = some (.cells #[.int .i64 ((i + 1 : Nat) : Int), .int .i64 ((4 : Nat) : Int)] 46 (0, 0)) := a_at _ _ _ hsz3.symm
          unfold set10 at r hB3 hbd
          have hib : i ≤ 65537 := by omega
          have hne : ¬ w.heap.size = W.heap.size := by omega
          clear S hsz3 hm hs hLl hLs hm1 hbi hs1 hL65 hcl hBw hsz hik hlt hLt hts hcell hbl he h35 h35b hW hHeld
          go_wp2
          refine bodyPost_ret (v := .tuple #[.agg (jobCells j2 (.slice A2 n2 c2)), .iface 42 (.pointer (some ⟨W.heap.size, 0, none⟩))]) (by simp [results, Tryd.results8, go_sem, r, jobCells]) rfl ⟨hB3, j2, _, _, _, .inl ⟨W.heap.size, i + 1, 4, rfl, hbd, HVE.out⟩⟩
end Go.Proofs.YtmejpcfbefjjaaaDoor.Scr
