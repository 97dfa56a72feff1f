/- fdec.decimal. -/
import Derived.Test.YtffncomekbfihaaGreatDoorDigW
import Derived.Test.YtffncomekbfihaaGreatDoorFewPure
namespace Go.Proofs.YtffncomekbfihaaGreatDoor.Nat
open Go.RowKit Go.Shelf
set_option linter.unusedVariables false
theorem dec_last {p : Nat} : ∃ L, dec p = L ++ [48 + p % 10] ∧ (1 < (dec p).length → dec (p / 10) = L) := by
  by_cases h : 10 ≤ p
  · exact ⟨dec (p / 10), dec_snoc h, fun _ => rfl⟩
  · refine ⟨[], ?_, fun hl => ?_⟩
    · rw [dec_small (by omega), show p % 10 = p from by omega]; rfl
    · rw [dec_small (by omega)] at hl; simp at hl
theorem dec_len_ten {p : Nat} (h : 1 < (dec p).length) : 10 ≤ p := by
  rcases Nat.lt_or_ge p 10 with q | q
  · rw [dec_small q] at h; simp at h
  · exact q
theorem bts_at (s : ByteArray) (i : Nat) (h : i < s.size) : (bts s)[i]? = some s[i].toNat := by
  unfold bts
  rw [List.getElem?_map, Array.getElem?_toList]
  have : s.data[i]? = some s[i] := Array.getElem?_eq_getElem (by exact h)
  rw [this]
  rfl
theorem dec_at {t : ByteArray} {p : Nat} (ht : bts t = dec p) (h : t.size - 1 < t.size) : t[t.size - 1].toNat = 48 + p % 10 := by
  obtain ⟨L, hL, _⟩ := dec_last (p := p)
  have h1 := bts_at t (t.size - 1) h
  have h2 := bts_length t
  rw [ht, hL] at h1 h2
  rw [List.length_append] at h2
  have h3 : [48 + p % 10].length = 1 := rfl
  rw [List.getElem?_append_right (by omega), show t.size - 1 - L.length = 0 from by omega] at h1
  exact (Option.some.inj h1).symm
theorem dec_cut {t : ByteArray} {p : Nat} (ht : bts t = dec p) (h : 1 < t.size) : bts (t.extract 0 (t.size - 1)) = dec (p / 10) ∧ 10 ≤ p := by
  have h2 := bts_length t
  have h3 : 10 ≤ p := dec_len_ten (by rw [← ht]; omega)
  rw [ht, dec_snoc h3, List.length_append] at h2
  have h4 : [48 + p % 10].length = 1 := rfl
  refine ⟨?_, h3⟩
  rw [bts_head, ht, dec_snoc h3, List.take_left' (by omega)]
set_option maxHeartbeats 8000000 in
set_option maxRecDepth 100000 in
theorem decimal_calls (V : Value) (v : Nat) (e : Int) (w : World) (hA : NatA w V v) (hv0 : v ≠ 0) (hv : v < 10 ^ 20) (he1 : -10000 ≤ e) (he2 : e ≤ 10000) :
    Calls Tryz.prog 26 #[V, .int .i64 e] w fun en w' => ∃ (s : ByteArray) (p z : Nat), en = .returned (.tuple #[.string s, .int .i64 (e + z)]) ∧ bts s = dec p ∧ v = p * 10 ^ z ∧ p % 10 ≠ 0 ∧ z ≤ 20 ∧ Below w.heap.size w w' := by
  have hl : (limbs v).length ≤ 4096 := Nat.le_trans (limbs_pow (e := 80) (L := 3) (Nat.le_trans (Nat.le_of_lt hv) (ten_bits 20)) (by decide)) (by decide)
  have k1 := digits_calls V v w hA hl
  have hdl : (dec v).length ≤ 20 := dec_le hv (by decide)
  have Hv : Hid _ := Lib.hid (And.intro hv0 hv)
  clear hA hl hv0 hv
  go_enter Tryz.func26, Tryz.ntmps26
  go_wp2_with (go_at_call 22; (with_reducible refine k1.mono ?_); clear k1; rintro e1 w1 ⟨s, rfl, hs, hb1⟩)
  have hss := bts_length s
  rw [hs] at hss
  have hs20 : s.size ≤ 20 := by omega
  go_loopg [8] 30 (fun kq v8 wr => ∃ (t : ByteArray) (p z : Nat), v8 = .string t ∧ bts t = dec p ∧ v = p * 10 ^ z ∧ p ≠ 0 ∧ t.size + z = s.size ∧ t.size ≤ kq ∧ wr = w1)
  case atStart => exact ⟨s, v, 0, rfl, hs, by rw [Nat.pow_zero, Nat.mul_one], Hv.out.1, rfl, by omega, rfl⟩
  case round =>
    obtain ⟨t, p, z, rfl, ht, hvp, hp0, hz, hk, rfl⟩ := hrel
    have htl := bts_length t
    have htn := dec_ne p
    rw [← ht, htl] at htn
    obtain ⟨L, hL, hL2⟩ := dec_last (p := p)
    have ht2 : (dec p).length = t.size := by rw [← ht]; exact htl
    have hLl : L.length + 1 = t.size := by rw [← htl, ht, hL, List.length_append]; rfl
    by_cases h1 : t.size = 1
    · have h1I : ¬ (1 : Int) < (t.size : Int) := by omega
      have hp10 : p % 10 ≠ 0 := by
        have : ¬ 10 ≤ p := fun q => by
          have h3 := dec_snoc q
          have h4 := dec_ne (p / 10)
          rw [h3, List.length_append] at ht2
          have h5 : [48 + p % 10].length = 1 := rfl
          omega
        omega
      have H : Hid _ := Lib.hid (And.intro ht (And.intro hvp hp10))
      clear ht hvp hp10 hL hL2 hLl htl htn hk hp0 hs hss hdl ht2
      go_wp2
      go_ret2
      exact ⟨t, p, z, by congr 3; go_num, H.out.1, H.out.2.1, by have := H.out.2.2; omega, by omega, hb1⟩
    · have h1I : (1 : Int) < (t.size : Int) := by omega
      have hw1 : IntKind.i64.wrap ((t.size : Int) - 1) = ((t.size - 1 : Nat) : Int) := by rw [IntKind.wrap_i64]; omega
      have H : Hid _ := Lib.hid (And.intro ht (And.intro hvp hp0))
      clear ht hvp hL hL2 htl htn hp0 hs hss hdl ht2
      go_wp2
      · rename_i hlt hq
        have h48 : t[t.size - 1].toNat = 48 + p % 10 := dec_at H.out.1 hlt
        have hp10 : p % 10 = 0 := by rw [h48] at hq; simp at hq; omega
        obtain ⟨c1, c2⟩ := dec_cut H.out.1 (by omega)
        go_roundg (gk - 1)
        case rel => exact ⟨t.extract 0 (t.size - 1), p / 10, z + 1, rfl, c1, by rw [H.out.2.1, Nat.pow_succ, Nat.mul_comm (10 ^ z), ← Nat.mul_assoc]; congr 1; omega, by omega, by rw [ByteArray.size_extract]; omega, by rw [ByteArray.size_extract]; omega, rfl⟩
        case measure => omega
      · rename_i hlt hq
        have h48 : t[t.size - 1].toNat = 48 + p % 10 := dec_at H.out.1 hlt
        have hp10 : p % 10 ≠ 0 := by rw [h48] at hq; simp at hq; omega
        go_ret2
        exact ⟨t, p, z, by congr 3; go_num, H.out.1, H.out.2.1, hp10, by omega, hb1⟩
end Go.Proofs.YtffncomekbfihaaGreatDoor.Nat
