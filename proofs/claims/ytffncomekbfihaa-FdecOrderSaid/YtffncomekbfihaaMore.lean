/- glossatorlaw06.more. -/
import Derived.Test.YtffncomekbfihaaRound
import Derived.Laws.IdiomStrings
namespace Go.Proofs.Ytffncomekbfihaa.Nat
open Go.RowKit Go.Shelf
set_option linter.unusedVariables false
theorem dval_nines (m : Nat) : dval (List.replicate m 57) + 1 = 10 ^ m := by
  induction m with
  | zero => rfl
  | succ m ih =>
    have h := dval_from (List.replicate m 57) (10 * 0 + (57 - 48))
    rw [List.replicate_succ]
    have h2 : dval (57 :: List.replicate m 57) = (10 * 0 + (57 - 48)) * 10 ^ (List.replicate m 57).length + dval (List.replicate m 57) := h
    rw [h2, List.length_replicate, Nat.pow_succ]
    omega
theorem dval_zeros (m : Nat) : dval (List.replicate m 48) = 0 := by
  induction m with
  | zero => rfl
  | succ m ih =>
    have h := dval_from (List.replicate m 48) (10 * 0 + (48 - 48))
    rw [List.replicate_succ]
    have h2 : dval (48 :: List.replicate m 48) = (10 * 0 + (48 - 48)) * 10 ^ (List.replicate m 48).length + dval (List.replicate m 48) := h
    rw [h2, ih]
    simp
theorem dval_one (c : Nat) : dval [c] = c - 48 := by simp [dval]
/-- what 'more' says, where a digit is not 9 -/
theorem dval_more {L : List Nat} {i c m : Nat} (hc : L[i]? = some c) (h9 : c ≤ 56) (h0 : 48 ≤ c) (hL : L = L.take (i + 1) ++ List.replicate m 57) : dval (L.take i ++ (c + 1) :: List.replicate m 48) = dval L + 1 := by
  have e1 : L.take i ++ (c + 1) :: List.replicate m 48 = L.take i ++ ([c + 1] ++ List.replicate m 48) := rfl
  have e2 : dval L = dval (L.take (i + 1) ++ List.replicate m 57) := by rw [← hL]
  rw [e1, e2, dval_append, dval_append, dval_append, dval_take_succ hc, dval_zeros, dval_one, List.length_append, List.length_replicate, List.length_replicate, List.length_singleton]
  have h1 := dval_nines m
  rw [Nat.pow_add, ← Nat.mul_assoc, Nat.pow_one, Nat.add_zero, Nat.add_assoc, h1, ← Nat.add_mul, ← Nat.succ_mul]
  congr 1
  omega
theorem dval_more9 {L : List Nat} (hL : L = List.replicate L.length 57) : dval (49 :: List.replicate L.length 48) = dval L + 1 := by
  have h1 := dval_nines L.length
  rw [← hL] at h1
  have h2 : dval ([49] ++ List.replicate L.length 48) = _ := dval_append [49] (List.replicate L.length 48)
  rw [dval_zeros, dval_one, List.length_replicate] at h2
  show dval ([49] ++ List.replicate L.length 48) = _
  omega
/-- bytes of numbers -/
def ofB (M : List Nat) : ByteArray := ⟨(M.map UInt8.ofNat).toArray⟩
theorem bts_ofB {M : List Nat} (h : ∀ c ∈ M, c < 256) : bts (ofB M) = M := by
  unfold bts ofB
  simp only [List.map_map]
  refine (List.map_congr_left (fun c hc => ?_)).trans (List.map_id M)
  have := h c hc
  simp [UInt8.toNat_ofNat']
  omega
theorem size_ofB (M : List Nat) : (ofB M).size = M.length := by
  show (M.map UInt8.ofNat).toArray.size = _
  simp
theorem bts_append (s t : ByteArray) : bts (s ++ t) = bts s ++ bts t := by
  unfold bts
  rw [ByteArray.data_append, Array.toList_append, List.map_append]
/-- a row of bytes -/
def RB (w : World) (B : Nat) (M : List Nat) : Prop := ∀ (j c : Nat), M[j]? = some c → w.cell? ⟨B, j, none⟩ = some (.int .u8 (c : Int)) ∧ w.frozen? ⟨B, j, none⟩ = false
theorem RB.set {w : World} {B : Nat} {M : List Nat} (h : RB w B M) {i : Nat} (hi : i < M.length) (x : Nat) : RB (w.setCell ⟨B, i, none⟩ (.int .u8 (x : Int))) B (M.set i x) := fun j c hc => by
  have hj : j < M.length := by have := (List.getElem?_eq_some_iff.1 hc).1; rwa [List.length_set] at this
  obtain ⟨h1, h2⟩ := h j M[j] (List.getElem?_eq_getElem hj)
  refine ⟨?_, by rw [World.frozen?_setCell]; exact h2⟩
  by_cases hij : i = j
  · subst hij
    rw [List.getElem?_set_self hi] at hc
    cases hc
    exact World.cell?_setCell_same _ _ _ h1
  · rw [List.getElem?_set_ne hij] at hc
    rw [World.cell?_setCell_other _ _ _ _ (fun q => hij (by cases q; rfl))]
    exact (h j c hc).1
theorem rb_new (W : World) (e : TypeId) (s : ByteArray) : RB (Lib.bytesWorld W e s) W.heap.size (bts s) := fun j c hc => by
  refine ⟨bts_cell W e s hc, ?_⟩
  have hj := (List.getElem?_eq_some_iff.1 hc).1
  rw [bts_length] at hj
  have h := Lib.bytesWorld_at_new W e s
  have hz : j < (Lib.bytesCells W e s).size := by simp only [Lib.bytesCells, Array.size_append, Array.size_map]; have : s.data.size = s.size := rfl; omega
  simp [World.frozen?, h]
  omega
theorem rb_string {P : Program} {W : World} {B cap : Nat} {M : List Nat} {src dst e : TypeId} (hs : P.underlying src = some (.slice e)) (he : P.underlying e = some (.int .u8)) (hd : P.underlying dst = some .string) (h : RB W B M) (hM : ∀ c ∈ M, c < 256) :
    (convert src dst (.slice (some ⟨B, 0, none⟩) M.length cap)).run P W = .ok (.string (ofB M)) W := by
  have h1 := run_convert_bytes_back (P := P) W src dst e ⟨B, 0, none⟩ cap (M.map UInt8.ofNat) hs he hd (fun j hj => by
    rw [List.length_map] at hj
    have h2 := (h j M[j] (List.getElem?_eq_getElem hj)).1
    have h3 := hM M[j] (List.getElem_mem hj)
    rw [Addr.add_lit, Nat.zero_add, h2, List.getElem_map, UInt8.toNat_ofNat', Nat.mod_eq_of_lt h3])
  rwa [List.length_map] at h1
theorem more_shift (L : List Nat) (i m : Nat) (hm : i < L.length) : (L.take (i + 1) ++ List.replicate m 48).set i 48 = L.take i ++ List.replicate (m + 1) 48 := by
  rw [List.take_succ_eq_append_getElem hm, List.append_assoc, List.set_append, if_neg (by rw [List.length_take]; omega), List.length_take, Nat.min_eq_left (Nat.le_of_lt hm), Nat.sub_self]
  rfl
theorem more_put (L : List Nat) (i m x : Nat) (hm : i < L.length) : (L.take (i + 1) ++ List.replicate m 48).set i x = L.take i ++ x :: List.replicate m 48 := by
  rw [List.take_succ_eq_append_getElem hm, List.append_assoc, List.set_append, if_neg (by rw [List.length_take]; omega), List.length_take, Nat.min_eq_left (Nat.le_of_lt hm), Nat.sub_self]
  rfl
theorem more_at (L : List Nat) (i m : Nat) (hm : i < L.length) : (L.take (i + 1) ++ List.replicate m 48)[i]? = some L[i] := by
  rw [List.getElem?_append_left (by rw [List.length_take]; omega), List.getElem?_take, if_pos (by omega), List.getElem?_eq_getElem hm]
set_option maxHeartbeats 8000000 in
set_option maxRecDepth 100000 in
theorem more_calls (s : ByteArray) (w : World) (hs : s.size ≤ 4096) (hne : s.size ≠ 0) (hD : Dgs (bts s)) :
    Calls Try.prog 7 #[.string s] w fun e w' => ∃ t, e = .returned (.string t) ∧ Dgs (bts t) ∧ dval (bts t) = dval (bts s) + 1 ∧ t.size ≤ s.size + 1 ∧ t.size ≠ 0 ∧ Below w.heap.size w w' := by
  have kb := Lib.run_convert_string_bytes (P := Try.prog) w 9 42 5 s Try.underlying9 Try.underlying42 Try.underlying5
  have hb0 := bytes_below' (Below.refl w.heap.size w) (Nat.le_refl _) 5 s
  have hR := rb_new w 5 s
  have hlen := bts_length s
  obtain ⟨W1, hW1⟩ : ∃ W1, Lib.bytesWorld w 5 s = W1 := ⟨_, rfl⟩
  rw [hW1] at hb0 hR kb
  clear hW1
  obtain ⟨L, hL⟩ : ∃ L, bts s = L := ⟨_, rfl⟩
  rw [hL] at hR hlen hD ⊢
  clear hL
  have hst : L = L.take s.size ++ List.replicate (s.size - s.size) 57 := by rw [Nat.sub_self, List.replicate_zero, List.append_nil, List.take_of_length_le (by omega)]
  have hRs : RB W1 w.heap.size (L.take s.size ++ List.replicate (s.size - s.size) 48) := by rw [Nat.sub_self, List.replicate_zero, List.append_nil, List.take_of_length_le (by omega)]; exact hR
  go_enter Try.func7, Try.ntmps7
  go_wp2
  clear kb hR
  go_loopg [4] s.size (fun kq v4 wr => v4 = .int .i64 ((kq : Int) - 1) ∧ kq ≤ s.size ∧ Hid (L = L.take kq ++ List.replicate (s.size - kq) 57) ∧ Hid (RB wr w.heap.size (L.take kq ++ List.replicate (s.size - kq) 48)) ∧ Below w.heap.size w wr)
  case atStart => exact ⟨rfl, Nat.le_refl _, Lib.hid hst, Lib.hid hRs, hb0⟩
  case round =>
    clear hst hRs hb0
    obtain ⟨rfl, hk, HS, HR, hb⟩ := hrel
    cases gk with
    | zero =>
      have q1 : ((0 : Nat) : Int) - 1 = -1 := by decide
      rw [q1]
      have h1 := HS.out
      have h2 := HR.out
      rw [List.take_zero, List.nil_append, Nat.sub_zero, ← hlen] at h1 h2
      have kc := rb_string (P := Try.prog) (cap := grownCap w s.size 0 5) (src := 42) (dst := 9) Try.underlying42 Try.underlying5 Try.underlying9 h2 (fun c hc => by have := List.eq_of_mem_replicate hc; omega)
      rw [List.length_replicate, hlen] at kc
      rw [hlen] at h2
      have h3 := dval_more9 h1
      rw [hlen] at h3
      have hZ : bts (ofB (List.replicate s.size 48)) = List.replicate s.size 48 := bts_ofB (fun c hc => by have := List.eq_of_mem_replicate hc; omega)
      have hz : (ofB (List.replicate s.size 48)).size = s.size := by rw [size_ofB, List.length_replicate]
      generalize ofB (List.replicate s.size 48) = Z at *
      have HZ : Hid _ := Lib.hid (And.intro hZ (And.intro hz h3))
      have hZs : Z.size ≤ 4096 := by omega
      clear hZ hz h3 h1 h2
      go_wp2
      go_ret
      have hbt : bts ((⟨#[49]⟩ : ByteArray) ++ Z) = 49 :: List.replicate s.size 48 := by rw [bts_append, HZ.out.1]; rfl
      refine ⟨_, rfl, ?_, by rw [hbt]; exact HZ.out.2.2, ?_, ?_, hb⟩
      · rw [hbt]
        intro c hc
        rcases List.mem_cons.1 hc with rfl | hc
        · omega
        · have := List.eq_of_mem_replicate hc; omega
      · rw [← bts_length, hbt]; simp
      · rw [← bts_length, hbt]; simp
    | succ i =>
      have hi : i < L.length := by omega
      have q1 : ((i + 1 : Nat) : Int) - 1 = (i : Int) := by omega
      rw [q1]
      have hc : L[i]? = some L[i] := List.getElem?_eq_getElem hi
      have hcd := hD.get hc
      have hat := HR.out i _ (more_at L i (s.size - (i + 1)) hi)
      have y1 := hat.1
      have y2 := hat.2
      clear hat
      have hiI : (i : Int) < (s.size : Int) := by omega
      by_cases h9 : L[i] = 57
      · have hn : L = L.take i ++ List.replicate (s.size - i) 57 := by
          have h := HS.out
          rw [List.take_succ_eq_append_getElem hi, h9, List.append_assoc] at h
          rw [show s.size - i = (s.size - (i + 1)) + 1 by omega, List.replicate_succ]
          exact h
        have hr2 := HR.out.set (i := i) (by rw [List.length_append, List.length_take, List.length_replicate]; omega) 48
        rw [more_shift L i _ hi, show s.size - (i + 1) + 1 = s.size - i by omega] at hr2
        have HN : Hid _ := Lib.hid (And.intro hn hr2)
        rw [h9] at y1
        clear hn hr2 hc h9 HS HR q1 hcd
        go_wp2
        go_roundg i
        case rel => exact ⟨by go_num, by omega, Lib.hid HN.out.1, Lib.hid HN.out.2, hb.setCell (p := ⟨w.heap.size, i, none⟩) (Nat.le_refl _) _⟩
        case measure => omega
      · have hS2 := HS.out
        have h9' : L[i] ≤ 56 := by omega
        have h3 := dval_more hc h9' hcd.1 hS2
        have hr2 := HR.out.set (i := i) (by rw [List.length_append, List.length_take, List.length_replicate]; omega) (L[i] + 1)
        rw [more_put L i _ _ hi] at hr2
        have hNd : Dgs (L.take i ++ (L[i] + 1) :: List.replicate (s.size - (i + 1)) 48) := by
          intro c hc
          rcases List.mem_append.1 hc with hc | hc
          · exact hD.take i c hc
          · rcases List.mem_cons.1 hc with rfl | hc
            · omega
            · have := List.eq_of_mem_replicate hc; omega
        have hNl : (L.take i ++ (L[i] + 1) :: List.replicate (s.size - (i + 1)) 48).length = s.size := by
          rw [List.length_append, List.length_take, List.length_cons, List.length_replicate]; omega
        generalize L[i] = c at *
        have ew : IntKind.u8.wrap ((c : Int) + 1) = (c : Int) + 1 := by rw [IntKind.wrap_u8]; omega
        have eg : (((c + 1 : Nat) : Int)) = (c : Int) + 1 := by omega
        have h9I : ¬ (c : Int) = 57 := by omega
        generalize L.take i ++ (c + 1) :: List.replicate (s.size - (i + 1)) 48 = M at *
        have kc := rb_string (P := Try.prog) (cap := grownCap w s.size 0 5) (src := 42) (dst := 9) Try.underlying42 Try.underlying5 Try.underlying9 hr2 (fun c hc => by have := hNd c hc; omega)
        rw [hNl, eg] at kc
        have hZ : bts (ofB M) = M := bts_ofB (fun c hc => by have := hNd c hc; omega)
        have hz : (ofB M).size = s.size := by rw [size_ofB, hNl]
        generalize ofB M = Z at *
        have HZ : Hid _ := Lib.hid (And.intro hZ (And.intro hz (And.intro h3 hNd)))
        clear hZ hz h3 hNd hNl hr2 HS HR hS2 hc q1 h9 h9'
        clear eg
        go_wp2
        go_ret
        refine ⟨_, rfl, ?_, by rw [HZ.out.1]; exact HZ.out.2.2.1, ?_, ?_, hb.setCell (p := ⟨w.heap.size, i, none⟩) (Nat.le_refl _) _⟩
        · rw [HZ.out.1]; exact HZ.out.2.2.2
        · have := HZ.out.2.1; omega
        · have := HZ.out.2.1; omega
end Go.Proofs.Ytffncomekbfihaa.Nat
