/- glossatorlaw06.more. -/
import Derived.Test.YtffncomekbfihaaGreatDoorRound
import Derived.Laws.IdiomStrings
namespace Go.Proofs.YtffncomekbfihaaGreatDoor.Nat
open Go.RowKit Go.Shelf
set_option linter.unusedVariables false
theorem dval_nines (m : Nat) : dval (List.replicate m 57) + 1 = 10 ^ m := by
  induction m with
  | zero => rfl
  | succ m ih =>
    have h := dval_from (List.replicate m 57) (10 * 0 + (57 - 48))
    rw [List.replicate_succ]
    have h2 : dval (57 :: List.replicate m 57) = (10 * 0 + (57 - 48)) * 10 ^ (List.replicate m 57).length + dval (List.replicate m 57) := h
    rw [h2, List.length_replicate, Nat.pow_succ]
    omega
theorem dval_zeros (m : Nat) : dval (List.replicate m 48) = 0 := by
  induction m with
  | zero => rfl
  | succ m ih =>
    have h := dval_from (List.replicate m 48) (10 * 0 + (48 - 48))
    rw [List.replicate_succ]
    have h2 : dval (48 :: List.replicate m 48) = (10 * 0 + (48 - 48)) * 10 ^ (List.replicate m 48).length + dval (List.replicate m 48) := h
    rw [h2, ih]
    simp
theorem dval_one (c : Nat) : dval [c] = c - 48 := by simp [dval]
/-- what 'more' says, where a digit is not 9 -/
theorem dval_more {L : List Nat} {i c m : Nat} (hc : L[i]? = some c) (h9 : c ≤ 56) (h0 : 48 ≤ c) (hL : L = L.take (i + 1) ++ List.replicate m 57) : dval (L.take i ++ (c + 1) :: List.replicate m 48) = dval L + 1 := by
  have e1 : L.take i ++ (c + 1) :: List.replicate m 48 = L.take i ++ ([c + 1] ++ List.replicate m 48) := rfl
  have e2 : dval L = dval (L.take (i + 1) ++ List.replicate m 57) := by rw [← hL]
  rw [e1, e2, dval_append, dval_append, dval_append, dval_take_succ hc, dval_zeros, dval_one, List.length_append, List.length_replicate, List.length_replicate, List.length_singleton]
  have h1 := dval_nines m
  rw [Nat.pow_add, ← Nat.mul_assoc, Nat.pow_one, Nat.add_zero, Nat.add_assoc, h1, ← Nat.add_mul, ← Nat.succ_mul]
  congr 1
  omega
theorem dval_more9 {L : List Nat} (hL : L = List.replicate L.length 57) : dval (49 :: List.replicate L.length 48) = dval L + 1 := by
  have h1 := dval_nines L.length
  rw [← hL] at h1
  have h2 : dval ([49] ++ List.replicate L.length 48) = _ := dval_append [49] (List.replicate L.length 48)
  rw [dval_zeros, dval_one, List.length_replicate] at h2
  show dval ([49] ++ List.replicate L.length 48) = _
  omega
/-- bytes of numbers -/
def ofB (M : List Nat) : ByteArray := ⟨(M.map UInt8.ofNat).toArray⟩
theorem bts_ofB {M : List Nat} (h : ∀ c ∈ M, c < 256) : bts (ofB M) = M := by
  unfold bts ofB
  simp only [List.map_map]
  refine (List.map_congr_left (fun c hc => ?_)).trans (List.map_id M)
  have := h c hc
  simp [UInt8.toNat_ofNat']
  omega
theorem size_ofB (M : List Nat) : (ofB M).size = M.length := by
  show (M.map UInt8.ofNat).toArray.size = _
  simp
theorem bts_append (s t : ByteArray) : bts (s ++ t) = bts s ++ bts t := by
  unfold bts
  rw [ByteArray.data_append, Array.toList_append, List.map_append]
/-- a row of bytes -/
def RB (w : World) (B : Nat) (M : List Nat) : Prop := ∀ (j c : Nat), M[j]? = some c → w.cell? ⟨B, j, none⟩ = some (.int .u8 (c : Int)) ∧ w.frozen? ⟨B, j, none⟩ = false
theorem RB.set {w : World} {B : Nat} {M : List Nat} (h : RB w B M) {i : Nat} (hi : i < M.length) (x : Nat) : RB (w.setCell ⟨B, i, none⟩ (.int .u8 (x : Int))) B (M.set i x) := fun j c hc => by
  have hj : j < M.length := by have := (List.getElem?_eq_some_iff.1 hc).1; rwa [List.length_set] at this
  obtain ⟨h1, h2⟩ := h j M[j] (List.getElem?_eq_getElem hj)
  refine ⟨?_, by rw [World.frozen?_setCell]; exact h2⟩
  by_cases hij : i = j
  · subst hij
    rw [List.getElem?_set_self hi] at hc
    cases hc
    exact World.cell?_setCell_same _ _ _ h1
  · rw [List.getElem?_set_ne hij] at hc
    rw [World.cell?_setCell_other _ _ _ _ (fun q => hij (by cases q; rfl))]
    exact (h j c hc).1
theorem rb_new (W : World) (e : TypeId) (s : ByteArray) : RB (Lib.bytesWorld W e s) W.heap.size (bts s) := fun j c hc => by
  refine ⟨bts_cell W e s hc, ?_⟩
  have hj := (List.getElem?_eq_some_iff.1 hc).1
  rw [bts_length] at hj
  have h := Lib.bytesWorld_at_new W e s
  have hz : j < (Lib.bytesCells W e s).size := by simp only [Lib.bytesCells, Array.size_append, Array.size_map]; have : s.data.size = s.size := rfl; omega
  simp [World.frozen?, h]
  omega
theorem rb_string {P : Program} {W : World} {B cap : Nat} {M : List Nat} {src dst e : TypeId} (hs : P.underlying src = some (.slice e)) (he : P.underlying e = some (.int .u8)) (hd : P.underlying dst = some .string) (h : RB W B M) (hM : ∀ c ∈ M, c < 256) :
    (convert src dst (.slice (some ⟨B, 0, none⟩) M.length cap)).run P W = .ok (.string (ofB M)) W := by
  have h1 := run_convert_bytes_back (P := P) W src dst e ⟨B, 0, none⟩ cap (M.map UInt8.ofNat) hs he hd (fun j hj => by
    rw [List.length_map] at hj
    have h2 := (h j M[j] (List.getElem?_eq_getElem hj)).1
    have h3 := hM M[j] (List.getElem_mem hj)
    rw [Addr.add_lit, Nat.zero_add, h2, List.getElem_map, UInt8.toNat_ofNat', Nat.mod_eq_of_lt h3])
  rwa [List.length_map] at h1
theorem more_shift (L : List Nat) (i m : Nat) (hm : i < L.length) : (L.take (i + 1) ++ List.replicate m 48).set i 48 = L.take i ++ List.replicate (m + 1) 48 := by
  rw [List.take_succ_eq_append_getElem hm, List.append_assoc, List.set_append, if_neg (by rw [List.length_take]; omega), List.length_take, Nat.min_eq_left (Nat.le_of_lt hm), Nat.sub_self]
  rfl
theorem more_put (L : List Nat) (i m x : Nat) (hm : i < L.length) : (L.take (i + 1) ++ List.replicate m 48).set i x = L.take i ++ x :: List.replicate m 48 := by
  rw [List.take_succ_eq_append_getElem hm, List.append_assoc, List.set_append, if_neg (by rw [List.length_take]; omega), List.length_take, Nat.min_eq_left (Nat.le_of_lt hm), Nat.sub_self]
  rfl
theorem more_at (L : List Nat) (i m : Nat) (hm : i < L.length) : (L.take (i + 1) ++ List.replicate m 48)[i]? = some L[i] := by
  rw [List.getElem?_append_left (by rw [List.length_take]; omega), List.getElem?_take, if_pos (by omega), List.getElem?_eq_getElem hm]
end Go.Proofs.YtffncomekbfihaaGreatDoor.Nat
