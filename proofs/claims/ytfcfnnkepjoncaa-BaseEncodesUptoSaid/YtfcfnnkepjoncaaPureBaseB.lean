import Derived.Test.YtfcfnnkepjoncaaPureBaseA
import Derived.Lib.Strings
namespace Go.Proofs.Ytfcfnnkepjoncaa.Pure
open Go.RowKit Go.Proofs.Ytfcfnnkepjoncaa.Hand Go.Proofs.YtfcfnnkepjoncaaW.PrintWords Go.Proofs.YtfcfnnkepjoncaaW.PrintLast
set_option linter.unusedVariables false
set_option linter.unusedSimpArgs false

theorem wf_u8 {x : Int} (h : (Lit.int .u8 x).wf = true) : 0 ≤ x ∧ x < 256 := by
  have h1 : IntKind.u8.min = 0 := by decide
  have h2 : IntKind.u8.max = 255 := by decide
  simp [Lit.wf] at h; omega
theorem wf_i64 {x : Int} (h : (Lit.int .i64 x).wf = true) : -9223372036854775808 ≤ x ∧ x ≤ 9223372036854775807 := by
  have h1 : IntKind.i64.min = -9223372036854775808 := by decide
  have h2 : IntKind.i64.max = 9223372036854775807 := by decide
  simp [Lit.wf] at h; omega

theorem nums_lt {l : List Int} (hl : ∀ x ∈ l, 0 ≤ x ∧ x < 256) : ∀ x ∈ l.map Int.toNat, x < 256 := by
  intro x hx; obtain ⟨y, hy, rfl⟩ := List.mem_map.1 hx; have := hl y hy; omega

theorem digits_eq (tw : Nat) (ht : 0 < tw) (l : List Nat) (hl : ∀ x ∈ l, x < 256) : encDigits tw l =
    (List.range (8 * l.length / tw)).map (digB tw (8 * l.length) (numB l)) ++ (if 0 < 8 * l.length % tw then [numB l % 2 ^ (8 * l.length % tw) * 2 ^ (tw - 8 * l.length % tw)] else []) := by
  unfold encDigits
  rw [(enc_eq tw ht l hl).2]
  dsimp only
  split <;> simp
theorem digits_len (tw : Nat) (ht : 0 < tw) (l : List Nat) (hl : ∀ x ∈ l, x < 256) : (encDigits tw l).length = 8 * l.length / tw + (if 0 < 8 * l.length % tw then 1 else 0) := by
  rw [digits_eq tw ht l hl]
  split <;> simp
theorem digits_lt (tw : Nat) (ht : 0 < tw) (l : List Nat) (hl : ∀ x ∈ l, x < 256) : ∀ d ∈ encDigits tw l, d < 2 ^ tw := by
  obtain ⟨a, b, c, d⟩ := enc_ok tw ht l hl
  unfold encDigits
  intro y hy
  split at hy
  · rcases List.mem_append.1 hy with hy | hy
    · exact d y hy
    · rw [List.mem_singleton] at hy; subst hy
      have h1 := Nat.mul_lt_mul_of_pos_right b (Nat.two_pow_pos (tw - (encBits tw l).2.1))
      rwa [← Nat.pow_add, show (encBits tw l).2.1 + (tw - (encBits tw l).2.1) = tw by omega] at h1
  · exact d y hy

theorem bt_range' (s : ByteArray) (i : Int) : 0 ≤ bt s i ∧ bt s i < 256 := by have := bt_range s i; omega
theorem encL_range (L : ByteArray) (tw m : Nat) (l : List Nat) : ∀ x ∈ encL L tw m l, 0 ≤ x ∧ x < 256 := by
  intro x hx
  unfold encL at hx
  rcases List.mem_append.1 hx with hx | hx
  · obtain ⟨d, _, rfl⟩ := List.mem_map.1 hx; exact bt_range' _ _
  · have := List.eq_of_mem_replicate hx; subst this; decide
theorem encL_len (L : ByteArray) (tw m : Nat) (l : List Nat) : (encL L tw m l).length = (encDigits tw l).length + fillN m (encDigits tw l).length := by simp [encL]

theorem bt_str (xs : List Int) (hr : ∀ x ∈ xs, 0 ≤ x ∧ x < 256) (i : Nat) (hi : i < xs.length) : bt (strOfNums xs) (i : Int) = xs.getD i 0 := by
  unfold bt
  have hs := strOfNums_size xs
  rw [dif_pos (show (i : Int).toNat < (strOfNums xs).size by omega)]
  have h1 : (strOfNums xs).data.toList[i]? = some (UInt8.ofNat (xs[i]).toNat) := by
    rw [strOfNums_data, List.getElem?_map, List.getElem?_eq_getElem hi]; rfl
  have h2 : (strOfNums xs)[(i : Int).toNat]'(by omega) = UInt8.ofNat (xs[i]).toNat := by
    have h3 : (strOfNums xs).data[i]? = some (UInt8.ofNat (xs[i]).toNat) := by rw [← Array.getElem?_toList]; exact h1
    have h4 := (Array.getElem?_eq_some_iff.1 h3).2
    exact h4
  rw [h2]
  have h5 := hr _ (List.getElem_mem hi)
  rw [List.getD_eq_getElem?_getD, List.getElem?_eq_getElem hi, Option.getD_some, UInt8.toNat_ofNat']
  omega

theorem enc_f (k : Int) (L : ByteArray) (tw m : Nat) (hof : ofK k = (L, (tw : Int), (m : Int), true)) (l : List Int) (hl : ∀ x ∈ l, 0 ≤ x ∧ x < 256) (hn : l.length ≤ 10000000000000) :
    base_Encode.f k l = some (strOfNums (encL L tw m (l.map Int.toNat)), 0) := by
  unfold base_Encode.f
  rw [hof, if_neg (by simp), if_pos ⟨hl, hn⟩]; simp

theorem of0' : ofK 0 = (aHex, ((4 : Nat) : Int), ((1 : Nat) : Int), true) := by simp [ofK]
theorem of1' : ofK 1 = (aB64, ((6 : Nat) : Int), ((4 : Nat) : Int), true) := by simp [ofK]
theorem of2' : ofK 2 = (aU64, ((6 : Nat) : Int), ((1 : Nat) : Int), true) := by simp [ofK]
theorem of3' : ofK 3 = (aB32, ((5 : Nat) : Int), ((8 : Nat) : Int), true) := by simp [ofK]
/-- two digits of a byte -/
theorem awake_enc : base_Encode.f 0 [255] = some (strOfNums [102, 102], 0) := by
  rw [enc_f 0 aHex 4 1 of0' [255] (by decide) (by decide)]
  have : encL aHex 4 1 ([255].map Int.toNat) = [102, 102] := by
    unfold encL
    rw [digits_eq 4 (by decide) _ (by decide)]
    decide +kernel
  rw [this]
end Go.Proofs.Ytfcfnnkepjoncaa.Pure
