/- Decimal digits, as plain arithmetic. -/
import Derived.Test.YtffncomekbfihaaGreatDoorNearMore
import Derived.Lib.Strings
import Derived.Lib.ConvBytes
namespace Go.Proofs.YtffncomekbfihaaGreatDoor.Nat
open Go.RowKit Go.Shelf
set_option linter.unusedVariables false
/-- a text's bytes -/
def bts (s : ByteArray) : List Nat := s.data.toList.map UInt8.toNat
theorem bts_length (s : ByteArray) : (bts s).length = s.size := by
  unfold bts
  rw [List.length_map]
  rfl
theorem bts_head (s : ByteArray) (n : Nat) : bts (s.extract 0 n) = (bts s).take n := by
  unfold bts
  rw [Lib.extract_data]
  simp [List.map_take]
theorem bts_tail (s : ByteArray) (n : Nat) : bts (s.extract n s.size) = (bts s).drop n := by
  unfold bts
  rw [Lib.extract_data, ← List.map_drop, List.take_of_length_le]
  rw [List.length_drop]
  exact Nat.le_refl _
theorem bts_cell (W : World) (e : TypeId) (s : ByteArray) {j c : Nat} (h : (bts s)[j]? = some c) : (Lib.bytesWorld W e s).cell? ⟨W.heap.size, j, none⟩ = some (.int .u8 (c : Int)) := by
  have hj := (List.getElem?_eq_some_iff.1 h).1
  rw [bts_length] at hj
  rw [Lib.bytesWorld_cell W e s j hj]
  unfold bts at h
  rw [List.getElem?_map, Option.map_eq_some_iff] at h
  obtain ⟨b, hb, rfl⟩ := h
  simp [List.getD_eq_getElem?_getD, hb]
theorem bts_lt {s : ByteArray} {j c : Nat} (h : (bts s)[j]? = some c) : c < 256 := by
  unfold bts at h
  rw [List.getElem?_map, Option.map_eq_some_iff] at h
  obtain ⟨b, hb, rfl⟩ := h
  exact b.toNat_lt
theorem bytes_below' {B : Nat} {w W : World} (h : Below B w W) (hB : B ≤ W.heap.size) (e : TypeId) (s : ByteArray) : Below B w (Lib.bytesWorld W e s) :=
  h.trans ⟨rfl, rfl, rfl, by rw [Lib.bytesWorld_size]; omega, fun i hi => Lib.bytesWorld_at_old W e s i (by omega)⟩
/-- digits -/
def Dgs (L : List Nat) : Prop := ∀ c ∈ L, 48 ≤ c ∧ c ≤ 57
/-- their number -/
def dval (L : List Nat) : Nat := L.foldl (fun v c => 10 * v + (c - 48)) 0
theorem dval_from (L : List Nat) : ∀ v, L.foldl (fun v c => 10 * v + (c - 48)) v = v * 10 ^ L.length + dval L := by
  induction L with
  | nil => intro v; simp [dval]
  | cons c L ih =>
    intro v
    have h1 := ih (10 * v + (c - 48))
    have h2 := ih (10 * 0 + (c - 48))
    rw [List.foldl_cons, h1, List.length_cons, Nat.pow_succ]
    show _ = _ + dval (c :: L)
    have h3 : dval (c :: L) = (10 * 0 + (c - 48)) * 10 ^ L.length + dval L := h2
    rw [h3]
    simp only [Nat.mul_zero, Nat.zero_add, Nat.add_mul]
    rw [Nat.mul_comm 10 v, Nat.mul_assoc, Nat.mul_comm 10, Nat.add_assoc]
theorem dval_append (L M : List Nat) : dval (L ++ M) = dval L * 10 ^ M.length + dval M := by
  unfold dval
  rw [List.foldl_append]
  exact dval_from M _
theorem dval_take_succ {L : List Nat} {i c : Nat} (h : L[i]? = some c) : dval (L.take (i + 1)) = 10 * dval (L.take i) + (c - 48) := by
  rw [List.take_add_one, h, dval_append]
  simp [dval]
  omega
theorem Dgs.take {L : List Nat} (h : Dgs L) (n : Nat) : Dgs (L.take n) := fun c hc => h c (List.mem_of_mem_take hc)
theorem Dgs.drop {L : List Nat} (h : Dgs L) (n : Nat) : Dgs (L.drop n) := fun c hc => h c (List.mem_of_mem_drop hc)
theorem Dgs.get {L : List Nat} (h : Dgs L) {i c : Nat} (hc : L[i]? = some c) : 48 ≤ c ∧ c ≤ 57 := h c (List.mem_of_getElem? hc)
theorem Dgs.append {L M : List Nat} (h : Dgs L) (k : Dgs M) : Dgs (L ++ M) := fun c hc => by
  rcases List.mem_append.1 hc with hc | hc
  · exact h c hc
  · exact k c hc
theorem dval_lt {L : List Nat} (h : Dgs L) : dval L < 10 ^ L.length := by
  have : ∀ n, n ≤ L.length → dval (L.take n) < 10 ^ n := by
    intro n
    induction n with
    | zero => intro _; simp [dval]
    | succ n ih =>
      intro hn
      have h1 := ih (by omega)
      have h2 : L[n]? = some L[n] := List.getElem?_eq_getElem hn
      rw [dval_take_succ h2, Nat.pow_succ]
      have := h.get h2
      omega
  have h1 := this L.length (Nat.le_refl _)
  rwa [List.take_length] at h1
theorem dval_split (L : List Nat) (n : Nat) (h : n ≤ L.length) : dval L = dval (L.take n) * 10 ^ (L.length - n) + dval (L.drop n) := by
  have h1 := dval_append (L.take n) (L.drop n)
  rwa [List.take_append_drop, List.length_drop] at h1
theorem ten_lt {n : Nat} (h : n ≤ 9) : 10 ^ n ≤ 1000000000 := Nat.le_trans (Nat.pow_le_pow_right (by decide) h) (by decide)
theorem dval_limbs {L : List Nat} (h : Dgs L) (hl : L.length ≤ 4096) : (limbs (dval L)).length ≤ 513 := limbs_pow (Nat.le_trans (Nat.le_of_lt (dval_lt h)) (ten_bits _)) (by omega)
end Go.Proofs.YtffncomekbfihaaGreatDoor.Nat
