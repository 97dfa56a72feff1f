/- nat.FromDigits. -/
import Derived.Test.YtffncomekbfihaaGreatDoorDigPure
import Derived.Deep.CutBlock
import Derived.Deep.DeepCutAuto
namespace Go.Proofs.YtffncomekbfihaaGreatDoor.Nat
open Go.RowKit Go.Shelf
set_option linter.unusedVariables false
theorem add_a {w : World} {V1 V2 : Value} {a b cb : Nat} {Ab : Addr} (h1 : NatA w V1 a) (h2 : NatA w V2 b) (hc : w.cell? Ab = some V2) (h : (limbs (a + b)).length ≤ 4096) :
    Calls Tryz.prog 24 #[V1, .slice (some Ab) 1 cb] w fun e w' => ∃ v', e = .returned (.tuple #[v', .int .i64 0]) ∧ NatV w' v' (a + b) ∧ Below w.heap.size w w' := by
  obtain ⟨A, l, c, rfl, hG, hO, rfl⟩ := h1
  obtain ⟨A', l', c', rfl, hG', hO', rfl⟩ := h2
  refine add_calls A l c (some Ab) A' l' c' cb w hG ?_ hG' hO hO' h
  intro j q hq
  cases j with
  | zero => simp at hq; subst hq; exact ⟨Ab, rfl, by simpa [Addr.add] using hc⟩
  | succ j => simp at hq
theorem nat_nil (w : World) : NatV w (.slice none 0 0) 0 := ⟨none, 0, by rw [limbs_zero]; rfl, by rw [limbs_zero]; exact Nat.le_refl _, by rw [limbs_zero]; exact rd_nil _ _⟩
theorem add_two {w1 : World} {v1 : Value} {a P : Nat} (hv1 : NatV w1 v1 a) (hl2 : (limbs a).length ≤ 513) (hP : P < 4294967296) (hl1 : (limbs (a + P)).length ≤ 513) :
    Calls Tryz.prog 24 #[v1, .slice (some ⟨w1.heap.size + 1, 0, none⟩) 1 1] ((w1.alloc (.cells #[.int .u32 (P : Int)] 53)).alloc (.cells #[.slice (some ⟨w1.heap.size, 0, none⟩) 1 1] 50)) fun e w' => ∃ v', e = .returned (.tuple #[v', .int .i64 0]) ∧ NatV w' v' (a + P) ∧ Below w1.heap.size w1 w' := by
  have hb1 := below_alloc w1 (.cells #[.int .u32 (P : Int)] 53)
  have hb2 := below_alloc (w1.alloc (.cells #[.int .u32 (P : Int)] 53)) (.cells #[.slice (some ⟨w1.heap.size, 0, none⟩) 1 1] 50)
  have hb := below_step hb1 hb2
  have hc : ((w1.alloc (.cells #[.int .u32 (P : Int)] 53)).alloc (.cells #[.slice (some ⟨w1.heap.size, 0, none⟩) 1 1] 50)).cell? ⟨w1.heap.size + 1, 0, none⟩ = some (.slice (some ⟨w1.heap.size, 0, none⟩) 1 1) := by
    have h := heap_alloc_new (w1.alloc (.cells #[.int .u32 (P : Int)] 53)) (.cells #[.slice (some ⟨w1.heap.size, 0, none⟩) 1 1] 50)
    rw [World.size_alloc] at h
    exact (cell_of_row _ _ 0 _ _ (0, 0) h).trans rfl
  refine (add_a ((hv1.a (by omega)).below hb) ((nata_one w1 P hP).below hb2) hc (by omega)).mono ?_
  rintro e w2 ⟨v', rfl, hv, hb3⟩
  exact ⟨v', rfl, hv, below_step hb hb3⟩
theorem full_of {t : ByteArray} (h : t.size ≠ 0) : t.toList.isEmpty = false := by
  rw [← decide_eq_emptyBytes]
  exact decide_eq_false (fun e => h (by rw [e]; rfl))
theorem empty_of {t : ByteArray} (h : t.size = 0) : t.toList.isEmpty = true := by
  rw [← decide_eq_emptyBytes]
  exact decide_eq_true (ByteArray.size_eq_zero_iff.1 h)
set_option maxHeartbeats 8000000 in
set_option maxRecDepth 100000 in
theorem from_calls (s : ByteArray) (w : World) (hs : s.size ≤ 4096) (hne : s.size ≠ 0) :
    Calls Tryz.prog 39 #[.string s] w fun e w' => ((Dgs (bts s) ∧ ∃ V, e = .returned (.tuple #[V, .int .i64 0]) ∧ NatV w' V (dval (bts s))) ∨ (¬ Dgs (bts s) ∧ e = .returned (.tuple #[.slice none 0 0, .int .i64 4]))) ∧ Below w.heap.size w w' := by
  have kb := fun (t : ByteArray) W => Lib.run_convert_string_bytes (P := Tryz.prog) W 9 73 5 t Tryz.underlying9 Tryz.underlying73 Tryz.underlying5
  have hb0 := bytes_below' (Below.refl w.heap.size w) (Nat.le_refl _) 5 s
  have hcells := fun (j c : Nat) (h : (bts s)[j]? = some c) => bts_cell w 5 s h
  have hlen := bts_length s
  obtain ⟨W1, hW1⟩ : ∃ W1, Lib.bytesWorld w 5 s = W1 := ⟨_, rfl⟩
  have k1 := kb s w
  have KB : Hid _ := Lib.hid kb
  clear kb
  rw [hW1] at hb0 hcells k1
  clear hW1
  have hs1 : (s.size : Int) ≤ 4096 := by omega
  have hemp := full_of hne
  have HNE : Hid _ := Lib.hid hne
  clear hne
  go_enter Tryz.func39, Tryz.ntmps39
  go_wp2
  clear hemp k1
  go_loopg [5, 22] s.size (fun kq v5 v22 wr => ∃ i : Nat, v22 = .int .i64 i ∧ i + kq = s.size ∧ (∀ (j c : Nat), j < i → (bts s)[j]? = some c → 48 ≤ c ∧ c ≤ 57) ∧ wr = W1)
  case atStart =>
    refine ⟨0, rfl, by omega, ?_, rfl⟩
    intro j c hj
    exact absurd hj (Nat.not_lt_zero j)
  case round =>
    obtain ⟨i, rfl, hi, hdg, rfl⟩ := hrel
    cases gk with
    | succ d =>
      obtain ⟨c, hc⟩ : ∃ c, (bts s)[i]? = some c := ⟨_, List.getElem?_eq_getElem (by omega)⟩
      have hcell := hcells i c hc
      have hi1 : (i : Int) < (s.size : Int) := by omega
      have hc256 := bts_lt hc
      clear hcells
      by_cases h1 : c < 48
      · have h1I : (c : Int) < 48 := by omega
        have hno : ¬ Dgs (bts s) := fun h => by have := h.get hc; omega
        have HNO : Hid _ := Lib.hid hno
        clear hno hc h1
        go_wp2
        go_ret2
        exact ⟨.inr ⟨HNO.out, rfl⟩, hb0⟩
      · have h1I : ¬ (c : Int) < 48 := by omega
        by_cases h2 : 57 < c
        · have h2I : (57 : Int) < (c : Int) := by omega
          have hno : ¬ Dgs (bts s) := fun h => by have := h.get hc; omega
          have HNO : Hid _ := Lib.hid hno
          clear hno hc h1 h2
          go_wp2
          go_ret2
          exact ⟨.inr ⟨HNO.out, rfl⟩, hb0⟩
        · have h2I : ¬ (57 : Int) < (c : Int) := by omega
          have hnew : ∀ (j c : Nat), j < i + 1 → (bts s)[j]? = some c → 48 ≤ c ∧ c ≤ 57 := fun j c' hj hc' => by
            rcases Nat.lt_or_ge j i with h | h
            · exact hdg j c' h hc'
            · obtain rfl : j = i := by omega
              rw [hc] at hc'; cases hc'; omega
          have HNEW : Hid _ := Lib.hid hnew
          clear hnew hdg hc h1 h2
          go_wp2
          go_roundg d
          case rel => exact ⟨i + 1, by go_num, by omega, HNEW.out, rfl⟩
          case measure => omega
    | zero =>
      have hD : Dgs (bts s) := fun c hc => by
        obtain ⟨j, hj, rfl⟩ := List.mem_iff_getElem.1 hc
        exact hdg j _ (by omega) (List.getElem?_eq_getElem hj)
      clear hdg hcells
      obtain rfl : i = s.size := by omega
      go_wp2
      have HD : Hid _ := Lib.hid hD
      obtain ⟨D, hDv⟩ : ∃ D, dval (bts s) = D := ⟨_, rfl⟩
      have hDl := dval_limbs hD (by omega)
      rw [hDv] at hDl
      have HDL : Hid _ := Lib.hid hDl
      have h0s : 0 * 10 ^ s.size + dval (bts s) = D := by omega
      clear hDl hD
      go_loopg [0, 6] s.size (fun kq v0 v6 wr => ∃ (t : ByteArray) (v : Nat), v0 = .string t ∧ t.size = kq ∧ kq ≤ 4096 ∧ Dgs (bts t) ∧ Hid (v * 10 ^ t.size + dval (bts t) = D) ∧ NatV wr v6 v ∧ Below w.heap.size w wr)
      case atStart => exact ⟨s, 0, rfl, rfl, hs, HD.out, Lib.hid h0s, nat_nil _, hb0⟩
      case round =>
        clear h0s hb0 hs1 hi hs hlen
        obtain ⟨t, v, rfl, hts, htl, hDt, HV, hx, hb⟩ := hrel
        rcases Nat.eq_zero_or_pos gk with rfl | hpos
        · have hemp := empty_of hts
          have hv : v = D := by
            have h := HV.out
            have h2 := bts_length t
            rw [hts] at h h2
            rw [List.length_eq_zero_iff.1 h2] at h
            simpa [dval] using h
          subst hv
          have HDV : Hid _ := Lib.hid hDv
          clear hDv
          go_wp2
          go_ret2
          exact ⟨.inl ⟨HD.out, _, rfl, by rw [HDV.out]; exact hx⟩, hb⟩
        · have hemp := full_of (t := t) (by omega)
          obtain ⟨m, hm⟩ : ∃ m, gk = m + 1 := ⟨gk - 1, by omega⟩
          obtain ⟨r, hr⟩ : ∃ r, m % 9 = r := ⟨_, rfl⟩
          have hr9 : r < 9 := by omega
          have hm4 : m ≤ 4096 := by omega
          have hrm : r ≤ m := by have := Nat.mod_le m 9; omega
          have q1 : (t.size : Int) - 1 = (m : Int) := by omega
          have q2 : Int.tmod (m : Int) 9 = (r : Int) := by rw [Int.tmod_eq_emod_of_nonneg (by omega)]; omega
          have q2' : (m : Int) % 9 = (r : Int) := by omega
          obtain ⟨n, hn⟩ : ∃ n, r + 1 = n := ⟨_, rfl⟩
          have q3 : (r : Int) + 1 = (n : Int) := by omega
          have hnt : n ≤ t.size := by omega
          have hnI : (n : Int) ≤ (t.size : Int) := by omega
          have hsz : (t.extract 0 n).size = n := by rw [ByteArray.size_extract]; omega
          have hsz2 : (t.extract n t.size).size = t.size - n := by rw [ByteArray.size_extract]; omega
          have k2 := KB.out (t.extract 0 n) wr
          have hcells : ∀ (j c : Nat), j < n → (bts t)[j]? = some c → (Lib.bytesWorld wr 5 (t.extract 0 n)).cell? ⟨wr.heap.size, j, none⟩ = some (.int .u8 (c : Int)) := fun j c hj hc => bts_cell wr 5 (t.extract 0 n) (by rw [bts_head, List.getElem?_take, if_pos hj]; exact hc)
          have hbW := bytes_below' (Below.refl wr.heap.size wr) (Nat.le_refl _) 5 (t.extract 0 n)
          rw [hsz] at k2
          obtain ⟨W2, hW2⟩ : ∃ W2, Lib.bytesWorld wr 5 (t.extract 0 n) = W2 := ⟨_, rfl⟩
          rw [hW2] at k2 hcells hbW
          clear hW2
          have HM : Hid _ := Lib.hid (And.intro hm (And.intro hn (And.intro hts htl)))
          have HSZ : Hid _ := Lib.hid (And.intro hsz hsz2)
          have HDV : Hid _ := Lib.hid hDv
          clear hm hn hts htl hsz hsz2 hDv hr
          go_wp2
          clear k2 q1 q2 q2' q3 hemp
          have hn9 : n ≤ 9 := by have := HM.out.2.1; omega
          go_loopg [8, 9, 11, 45] n (fun kq v8 v9 v11 v45 wx => ∃ i : Nat, v45 = .int .i64 i ∧ i + kq = n ∧ v8 = .int .u32 (dval ((bts t).take i) : Nat) ∧ v9 = .int .u32 (10 ^ i : Nat) ∧ wx = W2)
          case atStart => exact ⟨0, rfl, by omega, rfl, rfl, rfl⟩
          case round =>
            obtain ⟨i, rfl, hi, rfl, rfl, rfl⟩ := hrel
            cases gk with
            | succ d =>
              have hlt := bts_length t
              obtain ⟨c, hc⟩ : ∃ c, (bts t)[i]? = some c := ⟨_, List.getElem?_eq_getElem (by omega)⟩
              have hcell := hcells i c (by omega) hc
              have hcd := hDt.get hc
              have hPb : dval ((bts t).take i) < 10 ^ i := by
                have h := dval_lt (hDt.take i)
                rw [List.length_take, Nat.min_eq_left (by omega)] at h
                exact h
              have hB8 : 10 ^ i ≤ 100000000 := Nat.le_trans (Nat.pow_le_pow_right (by decide) (show i ≤ 8 by omega)) (by decide)
              have hts := dval_take_succ hc
              have hps : 10 ^ (i + 1) = 10 * 10 ^ i := by rw [Nat.pow_succ, Nat.mul_comm]
              generalize dval ((bts t).take i) = P at *
              generalize 10 ^ i = B at *
              have hi1 : (i : Int) < (n : Int) := by omega
              have e1 : IntKind.u32.wrap (10 * (P : Int)) = 10 * (P : Int) := by rw [IntKind.wrap_u32]; omega
              have e2 : IntKind.u8.wrap ((c : Int) - 48) = (c : Int) - 48 := by rw [IntKind.wrap_u8]; omega
              have e3 : IntKind.u32.wrap ((c : Int) - 48) = (c : Int) - 48 := by rw [IntKind.wrap_u32]; omega
              have e4 : IntKind.u32.wrap (10 * (P : Int) + ((c : Int) - 48)) = ((10 * P + (c - 48) : Nat) : Int) := by rw [IntKind.wrap_u32]; omega
              have e5 : IntKind.u32.wrap (10 * (B : Int)) = ((10 * B : Nat) : Int) := by rw [IntKind.wrap_u32]; omega
              have HTS : Hid _ := Lib.hid (And.intro hts hps)
              clear hts hps hlt hc
              go_wp2
              go_roundg d
              case rel => exact ⟨i + 1, by go_num, by omega, by (rw [HTS.out.1]; simp), by (rw [HTS.out.2]; simp), rfl⟩
              case measure => omega
            | zero =>
              obtain rfl : i = n := by omega
              have hlt := bts_length t
              have hsp := dval_split (bts t) i (by omega)
              have hV2 : (v * 10 ^ i + dval ((bts t).take i)) * 10 ^ (t.extract i t.size).size + dval (bts (t.extract i t.size)) = D := by
                rw [HSZ.out.2, bts_tail, Nat.add_mul, Nat.mul_assoc, ← Nat.pow_add, show i + (t.size - i) = t.size by omega, Nat.add_assoc, ← hlt, ← hsp, hlt]
                exact HV.out
              have hvD : v * 10 ^ i + dval ((bts t).take i) ≤ D := by
                have h1 := Nat.le_mul_of_pos_right (v * 10 ^ i + dval ((bts t).take i)) (show 0 < 10 ^ (t.extract i t.size).size from Nat.pow_pos (by decide))
                omega
              have hl1 : (limbs (v * 10 ^ i + dval ((bts t).take i))).length ≤ 513 := Nat.le_trans (limbs_len_mono hvD) HDL.out
              have hl2 : (limbs (v * 10 ^ i)).length ≤ 513 := Nat.le_trans (limbs_len_mono (Nat.le_trans (Nat.le_add_right _ _) hvD)) HDL.out
              have hl3 : (limbs v).length ≤ 513 := Nat.le_trans (limbs_len_mono (Nat.le_trans (Nat.le_trans (Nat.le_mul_of_pos_right v (Nat.pow_pos (by decide))) (Nat.le_add_right _ _)) hvD)) HDL.out
              have hPb : dval ((bts t).take i) < 4294967296 := by
                have h := dval_lt (hDt.take i)
                rw [List.length_take, Nat.min_eq_left (by omega)] at h
                have := ten_lt hn9
                omega
              have hBb : 10 ^ i < 4294967296 := by have := ten_lt hn9; omega
              have HV2 : Hid _ := Lib.hid hV2
              have hDn := hDt.drop i
              rw [← bts_tail] at hDn
              clear hV2 hsp hlt hcells hvD
              generalize dval ((bts t).take i) = P at *
              generalize 10 ^ i = B at *
              have hx1 := (hx.below hbW).a (by omega)
              have hbX := below_step hb hbW
              have kA := mul_a (hx1.below (below_alloc wr (.cells #[.int .u32 (B : Int)] 53))) (nata_one wr B hBb) (by have := limbs_small hBb; omega)
              clear hx hx1 hb hbW
              have hbY := hbX.alloc hbX.size (.cells #[.int .u32 (B : Int)] 53)
              clear hbX
              go_wp2_with (first
                | (go_at_call 53; (with_reducible refine kA.mono ?_); clear kA; rintro e1 w1 ⟨v1, rfl, hv1, hb1⟩)
                | (go_at_call 24; refine (add_two hv1 hl2 hPb hl1).mono ?_; rintro e2 w2 ⟨v2, rfl, hv2, hb2⟩))
              go_roundg (t.size - i)
              case rel => exact ⟨t.extract i t.size, v * B + P, rfl, HSZ.out.2, by have := HM.out; omega, hDn, HV2, hv2, below_step (below_step hbY hb1) hb2⟩
              case measure => have := HM.out; omega
end Go.Proofs.YtffncomekbfihaaGreatDoor.Nat
