/- nat.digit: a digit of a quotient. -/
import Derived.Test.YtffncomekbfihaaGreatDoorNatShl
import Derived.Test.YtffncomekbfihaaGreatDoorKnuthPure
import Derived.Deep.DeepCutAuto
import Derived.Deep.CutRange
import Derived.Deep.CutBlock
import Derived.Deep.RegionHeld
namespace Go.Proofs.YtffncomekbfihaaGreatDoor.Nat
open Go.RowKit Go.Shelf
set_option linter.unusedVariables false
theorem get_of_lt {l : List Nat} {i : Nat} (h : i < l.length) : ∃ x, l[i]? = some x := ⟨_, List.getElem?_eq_getElem h⟩
theorem gb_drewN (w : World) (row : Option Nat) (q : Nat) : w.grownBy (w.drewN q) row := ⟨rfl, rfl, rfl, Nat.le_refl _, fun _ _ _ => rfl⟩
theorem sub_val (c1 old borrow : Nat) (h1 : c1 < 18446744073709551616) (h2 : old < 4294967296) (h3 : borrow ≤ 1) : ∃ x' b' : Nat, IntKind.u64.wrap (IntKind.u64.wrap ((old : Int) - Go.bits BinOp.and IntKind.u64 (c1 : Int) 4294967295) - (borrow : Int)) % 4294967296 = (x' : Int) ∧
    IntKind.u64.wrap (IntKind.u64.wrap ((old : Int) - Go.bits BinOp.and IntKind.u64 (c1 : Int) 4294967295) - (borrow : Int)) / 9223372036854775808 = (b' : Int) ∧ b' ≤ 1 ∧ x' < 4294967296 ∧ old + b' * 4294967296 = c1 % 4294967296 + borrow + x' := by
  have hm := bits_mask .u64 64 (by decide) (fun n h0 h1 => by rw [IntKind.wrap_u64]; omega) 32 (by decide) (c1 : Int) (by omega) (by omega)
  rw [show ((2 : Int) ^ 32 - 1) = 4294967295 by decide, show ((2 : Int) ^ 32) = 4294967296 by decide] at hm
  rw [hm, IntKind.wrap_u64, IntKind.wrap_u64]
  have hlo : (c1 : Int) % 4294967296 = ((c1 % 4294967296 : Nat) : Int) := by omega
  rw [hlo]
  have hlo2 := Nat.mod_lt c1 (show 0 < 4294967296 by decide)
  generalize c1 % 4294967296 = lo at *
  rcases Nat.lt_or_ge old (lo + borrow) with h | h
  · exact ⟨old + 4294967296 - lo - borrow, 1, by omega, by omega, by omega, by omega, by omega⟩
  · exact ⟨old - lo - borrow, 0, by omega, by omega, by omega, by omega, by omega⟩
theorem add_blk (ad : Addr) (j : Nat) : (ad.add j).block = ad.block := by unfold Addr.add; split <;> rfl
theorem rd_far {w : World} {ad : Addr} {g i : Nat} {V : List Nat} (h : Rd w (some ad) V) (hg : ad.block ≠ g) (u : Value) : Rd (w.setCell ⟨g, i, none⟩ u) (some ad) V := fun j x hx => by
  obtain ⟨ad2, e, hc⟩ := h j x hx
  cases e
  exact ⟨ad, rfl, by rw [World.cell?_setCell_far _ _ _ _ (by rw [add_blk]; exact fun q => hg q.symm)]; exact hc⟩
theorem gb_set {w wr : World} {g i : Nat} (h : w.grownBy wr (some g)) (u : Value) : w.grownBy (wr.setCell ⟨g, i, none⟩ u) (some g) :=
  ⟨h.os, h.tape, h.output, by simpa using h.size, fun k hk hne => by rw [Below.heap_setCell _ _ _ _ (fun e => hne (by rw [e]))]; exact h.block k hk hne⟩
theorem drop_same {X U : List Nat} {a : Nat} (h : ∀ j, a ≤ j → X[j]? = U[j]?) : X.drop a = U.drop a := List.ext_getElem? (fun i => by rw [List.getElem?_drop, List.getElem?_drop]; exact h _ (Nat.le_add_right _ _))
/-- a world that has drawn -/
def Dr (w wr : World) : Prop := ∃ q, wr = w.drewN q
theorem Dr.step {w wr : World} (h : Dr w wr) (q : Nat) : Dr w (wr.drewN q) := by
  obtain ⟨p, rfl⟩ := h
  exact ⟨p + q, by rw [World.drewN_drewN]⟩
theorem dr_one (w : World) (q : Nat) : Dr w (w.drewN q) := ⟨q, rfl⟩
theorem dr_two (w : World) (p q : Nat) : Dr w ((w.drewN p).drewN q) := (dr_one w p).step q
set_option maxHeartbeats 16000000 in
set_option maxRecDepth 100000 in
theorem digit_calls (B0 g NU CU k n1 n2 cu : Nat) (U V : List Nat) (A' : Option Addr) (c' : Nat) (w : World)
    (hown : w.ownsRow B0 53 1 (.slice (some ⟨g, 0, none⟩) NU CU) NU (cv U)) (hU : Ok U) (hV : Ok V) (hVl : V.length = n1 + 1) (hn : n1 = n2 + 1) (hkn : k + n1 + 2 ≤ NU) (hNU : NU ≤ 8200) (hcu : n1 + 2 ≤ cu) (hc' : n1 + 1 ≤ c')
    (hRV : Rd w A' V) (hVg : ∀ ad, A' = some ad → ad.block ≠ g) (v1 : Nat) (hv1 : V[n1]? = some v1) (hv31 : 2147483648 ≤ v1) (hlt : nvr U k (n1 + 2) < 4294967296 * nv V) :
    Calls Tryz.prog 103 #[.slice (some ⟨g, k, none⟩) (n1 + 2) cu, .slice A' (n1 + 1) c'] w fun e w' => ∃ q : Nat, e = .returned (.int .u32 (q : Int)) ∧ q < 4294967296 ∧ ∃ U' : List Nat, w'.ownsRow B0 53 1 (.slice (some ⟨g, 0, none⟩) NU CU) NU (cv U') ∧ Ok U' ∧ U'.take k = U.take k ∧ U'.drop (k + (n1 + 2)) = U.drop (k + (n1 + 2)) ∧
      nvr U' k (n1 + 2) + q * nv V = nvr U k (n1 + 2) ∧ nvr U' k (n1 + 2) < nv V ∧ w.grownBy w' (some g) := by
  have hUl : U.length = NU := by have h1 := hown.1; rw [cv_length] at h1; omega
  obtain ⟨un, hun⟩ := get_of_lt (l := U) (i := k + (n1 + 1)) (by omega)
  obtain ⟨un1, hun1⟩ := get_of_lt (l := U) (i := k + n1) (by omega)
  obtain ⟨un2, hun2⟩ := get_of_lt (l := U) (i := k + n2) (by omega)
  obtain ⟨v2, hv2⟩ := get_of_lt (l := V) (i := n2) (by omega)
  have b1 := hU.get hun
  have b2 := hU.get hun1
  have b3 := hU.get hun2
  have b4 := hV.get hv1
  have b5 := hV.get hv2
  have cu0 := hown.cellAt (k + (n1 + 1)) (by omega)
  rw [cv_get hun] at cu0
  have cu1 := hown.cellAt (k + n1) (by omega)
  rw [cv_get hun1] at cu1
  have cu2 := hown.cellAt (k + n2) (by omega)
  rw [cv_get hun2] at cu2
  obtain ⟨ad, rfl, cv1⟩ := hRV n1 v1 hv1
  obtain ⟨ad2, e2, cv2⟩ := hRV n2 v2 hv2
  cases e2
  have hn1I : ((n1 + 1 : Nat) : Int) - 1 = (n1 : Int) := by omega
  have hn2I : ((n1 + 1 : Nat) : Int) - 2 = (n2 : Int) := by omega
  have hn1J : ((n1 : Int) + 1) - 1 = (n1 : Int) := by omega
  have hn2J : ((n1 : Int) + 1) - 2 = (n2 : Int) := by omega
  have hw1 : IntKind.i64.wrap (n1 : Int) = (n1 : Int) := by rw [IntKind.wrap_i64]; omega
  have hw2 : IntKind.i64.wrap (n2 : Int) = (n2 : Int) := by rw [IntKind.wrap_i64]; omega
  have hi1 : (n1 : Int) < (n1 : Int) + 1 := by omega
  have hi2 : (n2 : Int) < (n1 : Int) + 1 := by omega
  obtain ⟨top, htop⟩ : ∃ top, un * 4294967296 + un1 = top := ⟨_, rfl⟩
  have HN : Hid _ := Lib.hid hn
  clear hn
  have hi0 : (n1 : Int) + 1 < (n1 : Int) + 2 := by omega
  have hi3 : (n1 : Int) < (n1 : Int) + 2 := by omega
  have hi4 : (n2 : Int) < (n1 : Int) + 2 := by omega
  have ht0 : ((n1 : Int) + 1).toNat = n1 + 1 := by omega
  have hj1 := or_join b1 b2
  rw [htop] at hj1
  have hv10 : ¬ (v1 : Int) = 0 := by omega
  have hv11 : ¬ v1 = 0 := by omega
  have hUV : nvr U k (n1 + 2) = (top * 4294967296 + un2) * 4294967296 ^ n2 + nvr U k n2 := by
    have h1 := HN.out
    subst h1
    rw [nvr_succ hun, nvr_succ hun1, nvr_succ hun2, ← htop]
    simp only [Nat.pow_succ]
    generalize 4294967296 ^ n2 = E
    rw [Nat.add_mul, Nat.add_mul, Nat.add_mul]
    have e1 : un * 4294967296 * 4294967296 * E = E * 4294967296 * 4294967296 * un := by ac_rfl
    have e2 : un1 * 4294967296 * E = E * 4294967296 * un1 := by ac_rfl
    have e3 : un2 * E = E * un2 := Nat.mul_comm _ _
    omega
  have hVV : nv V = (v1 * 4294967296 + v2) * 4294967296 ^ n2 + nv (V.take n2) := by
    have h1 := HN.out
    subst h1
    have h2 : V.take (n2 + 1 + 1) = V := List.take_of_length_le (by omega)
    rw [← h2, nv_take_succ hv1, nv_take_succ hv2, Nat.pow_succ, h2]
    generalize 4294967296 ^ n2 = E
    rw [Nat.add_mul]
    have e2 : v1 * 4294967296 * E = E * 4294967296 * v1 := by ac_rfl
    have e3 : v2 * E = E * v2 := Nat.mul_comm _ _
    omega
  have hlu := nvr_lt hU k n2
  have hlv : nv (V.take n2) < 4294967296 ^ n2 := by
    have h1 := nv_lt (hV.take n2)
    rwa [List.length_take, Nat.min_eq_left (by have := HN.out; omega)] at h1
  have hhi : ∀ q r, q * v1 + r = top → r * 4294967296 + un2 < q * v2 → nvr U k (n1 + 2) < q * nv V := fun q r h1 h2 => by rw [hUV, hVV]; exact knuth_hi h1 h2 hlu
  have hlo : ∀ q r, q * v1 + r = top → q * v2 ≤ r * 4294967296 + un2 → q ≤ 4294967296 → q * nv V ≤ nvr U k (n1 + 2) + nv V := fun q r h1 h2 h3 => by rw [hUV, hVV]; exact knuth_lo h1 h2 h3 hlv (by omega)
  have hst : nvr U k (n1 + 2) < (top / v1 + 1) * nv V := by rw [hUV, hVV]; exact knuth_start (by omega) b3 hlu
  have htb : top < (v1 + 1) * 4294967296 := knuth_top (by rw [← hUV, ← hVV]; exact hlt) b5 hlv
  have hround : ∀ q r, (q + 1) * v1 + r = top → q * v1 + (r + v1) = top ∧ (4294967296 ≤ r + v1 → q < 4294967296 ∧ q * nv V ≤ nvr U k (n1 + 2) + nv V) := fun q r h1 => by
    have h2 : q * v1 + (r + v1) = top := by rw [← h1, Nat.add_mul, Nat.one_mul]; omega
    refine ⟨h2, fun h3 => ?_⟩
    have h4 : q < 4294967296 := by
      have h5 : q * v1 < 4294967296 * v1 := by rw [Nat.add_mul, Nat.one_mul] at htb; omega
      exact Nat.lt_of_mul_lt_mul_right h5
    refine ⟨h4, hlo q (r + v1) h2 ?_ (by omega)⟩
    have h6 : q * v2 ≤ 4294967295 * 4294967295 := Nat.mul_le_mul (by omega) (by omega)
    have h7 : 4294967296 * 4294967296 ≤ (r + v1) * 4294967296 := Nat.mul_le_mul_right _ h3
    omega
  have HRO : Hid _ := Lib.hid hround
  clear hround
  have HHI : Hid _ := Lib.hid hhi
  have HLO : Hid _ := Lib.hid hlo
  have HST : Hid _ := Lib.hid hst
  have HTB : Hid _ := Lib.hid htb
  have HLT : Hid _ := Lib.hid hlt
  clear hUV hVV hlu hlv hhi hlo hst htb hlt htop
  have hq0b : top / v1 < 4294967298 := by
    have h_ := HTB.out
    rw [Nat.div_lt_iff_lt_mul (by omega)]
    omega
  have hdm := Nat.div_add_mod top v1
  have hr0b := Nat.mod_lt top (show 0 < v1 by omega)
  obtain ⟨Q0, hQ0⟩ : ∃ q, top / v1 = q := ⟨_, rfl⟩
  obtain ⟨R0, hR0⟩ : ∃ q, top % v1 = q := ⟨_, rfl⟩
  have hq0 : IntKind.u64.wrap ((top : Int) / (v1 : Int)) = (Q0 : Int) := by rw [IntKind.wrap_u64, ← Int.natCast_ediv, hQ0]; omega
  have hr0 : (top : Int) % (v1 : Int) = (R0 : Int) := by rw [← Int.natCast_emod, hR0]
  rw [hQ0] at hq0b
  rw [hQ0, hR0, Nat.mul_comm v1] at hdm
  rw [hR0] at hr0b
  have HDM : Hid _ := Lib.hid hdm
  have HQ0 : Hid _ := Lib.hid hQ0
  clear hdm hQ0 hR0
  go_enter Tryz.func103, Tryz.ntmps103
  go_wp2_with fail
  go_quiet (fail)
  go_wp2_with fail
  go_quiet (fail)
  go_upto_block 0 with fail
  have HR0 : Hid _ := Lib.hid hr0
  clear hr0 hq0
  go_cut [7] (fun v7 wx => ∃ q : Nat, v7 = .int .u64 q ∧ q < 4294967296 ∧ nvr U k (n1 + 2) < (q + 1) * nv V ∧ q * nv V ≤ nvr U k (n1 + 2) + nv V ∧ Dr w wx)
  case first =>
    go_wp2_with fail
    go_loopg [7, 8] Q0 (fun kq v7 v8 wr => ∃ r : Nat, v7 = .int .u64 kq ∧ v8 = .int .u64 r ∧ kq * v1 + r = top ∧ r < 4294967296 ∧ kq ≤ Q0 ∧ nvr U k (n1 + 2) < (kq + 1) * nv V ∧ Dr w wr)
    case atStart => exact ⟨R0, rfl, congrArg _ HR0.out, HDM.out, by omega, Nat.le_refl _, by have h_ := HST.out; rw [HQ0.out] at h_; exact h_, by first | exact dr_two _ _ _ | exact dr_one _ _⟩
    case round =>
      obtain ⟨r, rfl, rfl, hqr, hr, hkQ, hQ, nq, rfl⟩ := hrel
      have cw1 := cv1
      have hQ0b : gk < 4294967298 := by omega
      by_cases hA : 4294967296 ≤ gk
      · obtain ⟨q, hgq⟩ : ∃ q, gk = q + 1 := ⟨gk - 1, by omega⟩
        have hA1 : (0 : Int) < (gk : Int) / 4294967296 := by omega
        have hq1 : IntKind.u64.wrap ((gk : Int) - 1) = (q : Int) := by rw [IntKind.wrap_u64]; omega
        have hgt : nvr U k (n1 + 2) < gk * nv V := Nat.lt_of_lt_of_le HLT.out (Nat.mul_le_mul_right _ hA)
        have HG : Hid _ := Lib.hid hgq
        clear hgq
        go_wp2_with fail
        go_quiet (fail)
        go_wp2_with fail
        · go_meet
          case rel =>
            have h_ := (HRO.out q r (by have h_ := HG.out; rw [← h_]; exact hqr)).2 (by omega)
            exact ⟨q, rfl, h_.1, by have h_ := HG.out; rw [← h_]; exact hgt, h_.2, by first | exact dr_two _ _ _ | exact dr_one _ _⟩
        · go_roundg q
          case rel => exact ⟨r + v1, rfl, by rw [Int.natCast_add], (HRO.out q r (by have h_ := HG.out; rw [← h_]; exact hqr)).1, by omega, by have h_ := HG.out; omega, by have h_ := HG.out; rw [← h_]; exact hgt, by first | exact dr_two _ _ _ | exact dr_one _ _⟩
          case measure => have h_ := HG.out; omega
      · have hP64 : gk * v2 ≤ 18446744065119617025 := Nat.mul_le_mul (show gk ≤ 4294967295 by omega) (show v2 ≤ 4294967295 by omega)
        have hA1 : (gk : Int) / 4294967296 = 0 := by omega
        obtain ⟨P, hP⟩ : ∃ P, gk * v2 = P := ⟨_, rfl⟩
        obtain ⟨T, hT⟩ : ∃ T, r * 4294967296 + un2 = T := ⟨_, rfl⟩
        have hPw : IntKind.u64.wrap ((gk : Int) * (v2 : Int)) = (P : Int) := by rw [IntKind.wrap_u64, ← Int.natCast_mul, hP]; omega
        have hPw2 : (gk : Int) * (v2 : Int) = (P : Int) := by rw [← Int.natCast_mul, hP]
        have hTj := or_join hr b3
        rw [hT] at hTj
        by_cases hPT : T < P
        · obtain ⟨q, hgq⟩ : ∃ q, gk = q + 1 := ⟨gk - 1, by
            rcases Nat.eq_zero_or_pos gk with h | h
            · rw [h, Nat.zero_mul] at hP; omega
            · omega⟩
          have hgt : nvr U k (n1 + 2) < gk * nv V := HHI.out gk r hqr (by rw [hP, hT]; exact hPT)
          have hq1 : IntKind.u64.wrap ((gk : Int) - 1) = (q : Int) := by rw [IntKind.wrap_u64]; omega
          have hPTI : (T : Int) < (P : Int) := by omega
          have HG : Hid _ := Lib.hid hgq
          have HP : Hid _ := Lib.hid hP
          have HT2 : Hid _ := Lib.hid hT
          clear hgq hP hT
          go_wp2_with fail
          go_quiet (fail)
          go_wp2_with fail
          · go_meet
            case rel =>
              have h_ := (HRO.out q r (by have h_ := HG.out; rw [← h_]; exact hqr)).2 (by omega)
              exact ⟨q, rfl, h_.1, by have h_ := HG.out; rw [← h_]; exact hgt, h_.2, by first | exact dr_two _ _ _ | exact dr_one _ _⟩
          · go_roundg q
            case rel => exact ⟨r + v1, rfl, by rw [Int.natCast_add], (HRO.out q r (by have h_ := HG.out; rw [← h_]; exact hqr)).1, by omega, by have h_ := HG.out; omega, by have h_ := HG.out; rw [← h_]; exact hgt, by first | exact dr_two _ _ _ | exact dr_one _ _⟩
            case measure => have h_ := HG.out; omega
        · have hle : gk * nv V ≤ nvr U k (n1 + 2) + nv V := HLO.out gk r hqr (by rw [hP, hT]; omega) (by omega)
          have hPTI : ¬ (T : Int) < (P : Int) := by omega
          have HP : Hid _ := Lib.hid hP
          have HT2 : Hid _ := Lib.hid hT
          clear hP hT
          go_wp2_with fail
          go_quiet (fail)
          go_wp2_with fail
          go_meet
          case rel => exact ⟨gk, rfl, by omega, hQ, hle, by first | exact dr_two _ _ _ | exact dr_one _ _⟩
  case rest =>
    obtain ⟨q, rfl, hq32, hQ, hQ1, hdr⟩ := hcut
    clear HHI HLO HST HTB HLT HDM HQ0 HR0 HRO hj1 cv1 cv2 cu0 cu1 cu2 hi1 hi2 hi3 hi4 hw1 hw2 hn1I hn2I hn1J hn2J hq0b hr0b hv10 hv11
    have hownD : wc.ownsRow B0 53 1 (.slice (some ⟨g, 0, none⟩) NU CU) NU (cv U) := by obtain ⟨z, rfl⟩ := hdr; exact hown
    have hRD : Rd wc (some ad) V := by obtain ⟨z, rfl⟩ := hdr; exact hRV
    have hgD : w.grownBy wc (some g) := by obtain ⟨z, rfl⟩ := hdr; exact gb_drewN w _ z
    clear hdr hown hRV
    go_wp2_with fail
    go_loopg [9, 10, 11, 12, 83] (n1 + 2) (fun kq v9 v10 v11 v12 v83 wr => ∃ (i carry borrow : Nat) (X : List Nat), v83 = .int .i64 i ∧ v9 = .int .u64 carry ∧ v10 = .int .u64 borrow ∧ i + kq = n1 + 2 ∧ carry < 4294967296 ∧ borrow ≤ 1 ∧ (n1 + 2 ≤ i → carry = 0) ∧ wr.ownsRow B0 53 1 (.slice (some ⟨g, 0, none⟩) NU CU) NU (cv X) ∧ X.length = NU ∧ Ok X ∧ X.take k = U.take k ∧ (∀ j, k + i ≤ j → X[j]? = U[j]?) ∧
      nvr X k i + q * nv (V.take i) = nvr U k i + (borrow + carry) * 4294967296 ^ i ∧ Rd wr (some ad) V ∧ w.grownBy wr (some g))
    case atStart => exact ⟨0, 0, 0, U, rfl, rfl, rfl, by omega, by omega, by omega, (fun h => rfl), hownD, hUl, hU, rfl, (fun j _ => rfl), by simp [nvr_zero, nv], hRD, hgD⟩
    case round =>
      clear hownD hRD hgD
      obtain ⟨i, carry, borrow, X, rfl, rfl, rfl, hi, hcar, hbor, hc0, hown, hXl, hX, hXk, hXj, hXv, hRV, hgb⟩ := hrel
      cases gk with
      | zero =>
        obtain rfl : i = n1 + 2 := by omega
        have hc0' := hc0 (Nat.le_refl _)
        subst hc0'
        rw [List.take_of_length_le (show V.length ≤ n1 + 2 by omega), Nat.add_zero] at hXv
        rcases (show borrow = 0 ∨ borrow = 1 by omega) with rfl | rfl
        · rw [Nat.zero_mul, Nat.add_zero] at hXv
          have hrem : nvr X k (n1 + 2) < nv V := by rw [Nat.add_mul, Nat.one_mul] at hQ; omega
          have HQ : Hid _ := Lib.hid hXv
          have HRM : Hid _ := Lib.hid hrem
          clear hXv hrem hQ hQ1
          have eq32 : (q : Int) % 4294967296 = (q : Int) := by omega
          go_wp2
          go_ret
          exact ⟨q, rfl, hq32, X, hown, hX, hXk, drop_same hXj, HQ.out, HRM.out, hgb⟩
        · rw [Nat.one_mul] at hXv
          have hXlt := nvr_lt hX k (n1 + 2)
          have hq1 : 1 ≤ q := by
            rcases Nat.eq_zero_or_pos q with h | h
            · subst h; rw [Nat.zero_mul] at hXv; omega
            · exact h
          obtain ⟨q1, hqq⟩ : ∃ q1, q = q1 + 1 := ⟨q - 1, by omega⟩
          have hfin : ∀ Y carry : Nat, Y < 4294967296 ^ (n1 + 2) → carry ≤ 1 → Y + carry * 4294967296 ^ (n1 + 2) = nvr X k (n1 + 2) + nv V → Y + q1 * nv V = nvr U k (n1 + 2) ∧ Y < nv V := fun Y carry h1 h2 h3 => by
            rw [hqq, Nat.add_mul, Nat.one_mul] at hXv hQ1
            have h4 : nvr U k (n1 + 2) < q1 * nv V + nv V := by omega
            rcases (show carry = 0 ∨ carry = 1 by omega) with rfl | rfl
            · rw [Nat.zero_mul, Nat.add_zero] at h3; omega
            · rw [Nat.one_mul] at h3; omega
          have hq1w : IntKind.u64.wrap ((q : Int) - 1) = (q1 : Int) := by rw [IntKind.wrap_u64]; omega
          have hq1w2 : (q : Int) - 1 = (q1 : Int) := by omega
          have hq1m : (q1 : Int) % 4294967296 = (q1 : Int) := by omega
          have hq132 : q1 < 4294967296 := by omega
          have HFIN : Hid _ := Lib.hid hfin
          have HQQ : Hid _ := Lib.hid hqq
          clear hfin hqq hXv hQ hQ1 hXlt hc0
          go_wp2
          go_loopg [9, 13, 124] (n1 + 2) (fun kq v9 v13 v124 wr2 => ∃ (i carry : Nat) (Y : List Nat), v124 = .int .i64 i ∧ v9 = .int .u64 carry ∧ i + kq = n1 + 2 ∧ carry ≤ 1 ∧ wr2.ownsRow B0 53 1 (.slice (some ⟨g, 0, none⟩) NU CU) NU (cv Y) ∧ Y.length = NU ∧ Ok Y ∧ Y.take k = U.take k ∧ (∀ j, k + i ≤ j → Y[j]? = X[j]?) ∧
            nvr Y k i + carry * 4294967296 ^ i = nvr X k i + nv (V.take i) ∧ Rd wr2 (some ad) V ∧ w.grownBy wr2 (some g))
          case atStart => exact ⟨0, 0, X, rfl, rfl, by omega, by omega, hown, hXl, hX, hXk, (fun j _ => rfl), by simp [nvr_zero, nv], hRV, hgb⟩
          case round =>
            have hXj2 : ∀ j, k + (n1 + 2) ≤ j → X[j]? = U[j]? := hXj
            have HXJ2 : Hid _ := Lib.hid hXj2
            clear hown hX hXk hXj hXj2 hRV hgb
            obtain ⟨i, carry, Y, rfl, rfl, hi2, hcar, hown, hYl, hY, hYk, hYj, hYv, hRV, hgb⟩ := hrel
            cases gk with
            | zero =>
              obtain rfl : i = n1 + 2 := by omega
              rw [List.take_of_length_le (show V.length ≤ n1 + 2 by omega)] at hYv
              have hend := HFIN.out _ carry (nvr_lt hY k (n1 + 2)) hcar hYv
              have HE : Hid _ := Lib.hid hend
              have HYJ : Hid _ := Lib.hid hYj
              clear hend hYv hYj
              go_wp2
              go_ret
              exact ⟨q1, rfl, hq132, Y, hown, hY, hYk, drop_same (fun j hj => (HYJ.out j hj).trans (HXJ2.out j hj)), HE.out.1, HE.out.2, hgb⟩
            | succ d2 =>
              obtain ⟨old, hold⟩ := get_of_lt (l := Y) (i := k + i) (by omega)
              have hold32 := hY.get hold
              have hcO := hown.cellAt (k + i) (by omega)
              rw [cv_get hold] at hcO
              have hfO := hown.frozenAt (k + i)
              have hoX : X[k + i]? = some old := by rw [← hYj _ (Nat.le_refl _)]; exact hold
              have hiI : (i : Int) < (n1 : Int) + 2 := by omega
              have HYJ : Hid _ := Lib.hid hYj
              have HYV : Hid _ := Lib.hid hYv
              have HYK : Hid _ := Lib.hid hYk
              clear hYj hYv hYk
              by_cases hin : i < n1 + 1
              · obtain ⟨vi, hvi⟩ := get_of_lt (l := V) (i := i) (by omega)
                have hvi32 := hV.get hvi
                obtain ⟨ad3, e3, y⟩ := hRV i vi hvi
                cases e3
                have hinI : (i : Int) < (n1 : Int) + 1 := by omega
                have k3 := fun W => low_calls (carry + old + vi) W (by omega)
                simp only [Int.natCast_add] at k3
                go_wp2_with (go_at_call 61; (with_reducible refine (k3 _).mono ?_); clear k3; rintro e6 w6 ⟨rfl, rfl⟩)
                have hs1 : (carry + old + vi) / 4294967296 ≤ 1 := by omega
                have es : ((carry : Int) + (old : Int) + (vi : Int)) % 4294967296 = (((carry + old + vi) % 4294967296 : Nat) : Int) := by omega
                have es2 : ((carry : Int) + (old : Int) + (vi : Int)) / 4294967296 = (((carry + old + vi) / 4294967296 : Nat) : Int) := by omega
                rw [es, es2]
                have hm := Nat.mod_lt (carry + old + vi) (show 0 < 4294967296 by decide)
                have hst := (hown.stored (k + i) (.int .u32 (((carry + old + vi) % 4294967296 : Nat) : Int))).1
                go_roundg d2
                case rel => exact ⟨i + 1, (carry + old + vi) / 4294967296, Y.set (k + i) ((carry + old + vi) % 4294967296), by go_num, rfl, by omega, hs1, by rw [cv_set]; exact hst, by rw [List.length_set]; exact hYl, hY.set _ _ hm, by rw [List.take_set_of_le (Nat.le_add_right _ _)]; exact HYK.out, (fun j hj => by rw [List.getElem?_set_ne (by omega)]; exact HYJ.out j (by omega)), by
                    rw [nvr_succ (List.getElem?_set_self (by omega)), nvr_set (Nat.le_refl _), nvr_succ hoX, nv_take_succ hvi, Nat.pow_succ]
                    have h_ := back_step old vi HYV.out rfl
                    omega, rd_far hRV (hVg ad rfl) _, gb_set hgb _⟩
                case measure => omega
              · have hinI : ¬ (i : Int) < (n1 : Int) + 1 := by omega
                have k3 := fun W => low_calls (carry + old) W (by omega)
                simp only [Int.natCast_add] at k3
                go_wp2_with (go_at_call 61; (with_reducible refine (k3 _).mono ?_); clear k3; rintro e6 w6 ⟨rfl, rfl⟩)
                have hs1 : (carry + old) / 4294967296 ≤ 1 := by omega
                have es : ((carry : Int) + (old : Int)) % 4294967296 = (((carry + old) % 4294967296 : Nat) : Int) := by omega
                have es2 : ((carry : Int) + (old : Int)) / 4294967296 = (((carry + old) / 4294967296 : Nat) : Int) := by omega
                rw [es, es2]
                have hm := Nat.mod_lt (carry + old) (show 0 < 4294967296 by decide)
                have hst := (hown.stored (k + i) (.int .u32 (((carry + old) % 4294967296 : Nat) : Int))).1
                go_roundg d2
                case rel => exact ⟨i + 1, (carry + old) / 4294967296, Y.set (k + i) ((carry + old) % 4294967296), by go_num, rfl, by omega, hs1, by rw [cv_set]; exact hst, by rw [List.length_set]; exact hYl, hY.set _ _ hm, by rw [List.take_set_of_le (Nat.le_add_right _ _)]; exact HYK.out, (fun j hj => by rw [List.getElem?_set_ne (by omega)]; exact HYJ.out j (by omega)), by
                    have hV1 : V.take i = V := List.take_of_length_le (by omega)
                    have hV2 : V.take (i + 1) = V := List.take_of_length_le (by omega)
                    rw [nvr_succ (List.getElem?_set_self (by omega)), nvr_set (Nat.le_refl _), nvr_succ hoX, hV2, Nat.pow_succ]
                    have h0 := HYV.out
                    rw [hV1] at h0
                    have h_ := back_step old 0 h0 rfl
                    simp only [Nat.mul_zero, Nat.add_zero] at h_
                    omega, rd_far hRV (hVg ad rfl) _, gb_set hgb _⟩
                case measure => omega
      | succ d =>
        obtain ⟨old, hold⟩ := get_of_lt (l := X) (i := k + i) (by omega)
        have hold32 := hX.get hold
        have hcO := hown.cellAt (k + i) (by omega)
        rw [cv_get hold] at hcO
        have hfO := hown.frozenAt (k + i)
        have hoU : U[k + i]? = some old := by rw [← hXj _ (Nat.le_refl _)]; exact hold
        have hiI : (i : Int) < (n1 : Int) + 2 := by omega
        have HXJ : Hid _ := Lib.hid hXj
        have HXV : Hid _ := Lib.hid hXv
        have HXK : Hid _ := Lib.hid hXk
        have HC0 : Hid _ := Lib.hid hc0
        clear hXj hXv hXk hc0
        by_cases hin : i < n1 + 1
        · obtain ⟨vi, hvi⟩ := get_of_lt (l := V) (i := i) (by omega)
          have hvi32 := hV.get hvi
          obtain ⟨ad3, e3, y⟩ := hRV i vi hvi
          cases e3
          have hinI : (i : Int) < (n1 : Int) + 1 := by omega
          have hP64 : q * vi ≤ 18446744065119617025 := Nat.mul_le_mul (show q ≤ 4294967295 by omega) (show vi ≤ 4294967295 by omega)
          have hP64I : (q : Int) * (vi : Int) ≤ 18446744065119617025 := by have h_ := Int.ofNat_le.2 hP64; rw [Int.natCast_mul] at h_; exact h_
          have hP0 : (0 : Int) ≤ (q : Int) * (vi : Int) := Int.mul_nonneg (Int.natCast_nonneg _) (Int.natCast_nonneg _)
          go_wp2
          obtain ⟨x', b', hx', hb', hb1, hx32, hxe⟩ := sub_val (carry + q * vi) old borrow (by omega) hold32 hbor
          have eC : (carry : Int) + (q : Int) * (vi : Int) = ((carry + q * vi : Nat) : Int) := by rw [Int.natCast_add, Int.natCast_mul]
          rw [eC]
          rw [← eC] at hx' hb'
          rw [eC] at hx' hb'
          have eD : ((carry + q * vi : Nat) : Int) / 4294967296 = (((carry + q * vi) / 4294967296 : Nat) : Int) := by rw [Int.natCast_ediv]; rfl
          rw [eD]
          rw [hx', hb']
          clear hx' hb'
          have hst := (hown.stored (k + i) (.int .u32 (x' : Int))).1
          have hbl := (hown.lt g rfl)
          go_roundg d
          case rel => exact ⟨i + 1, (carry + q * vi) / 4294967296, b', X.set (k + i) x', by go_num, rfl, rfl, by omega, by omega, hb1, (fun h => by exfalso; omega), by rw [cv_set]; exact hst, by rw [List.length_set]; exact hXl, hX.set _ _ hx32, by rw [List.take_set_of_le (Nat.le_add_right _ _)]; exact HXK.out, (fun j hj => by rw [List.getElem?_set_ne (by omega)]; exact HXJ.out j (by omega)), by
              rw [nvr_succ (List.getElem?_set_self (by omega)), nvr_set (Nat.le_refl _), nvr_succ hoU, nv_take_succ hvi, Nat.mul_add, Nat.pow_succ]
              exact sub_step HXV.out hxe, rd_far hRV (hVg ad rfl) _, gb_set hgb _⟩
          case measure => omega
        · have hinI : ¬ (i : Int) < (n1 : Int) + 1 := by omega
          go_wp2
          obtain ⟨x', b', hx', hb', hb1, hx32, hxe⟩ := sub_val (carry) old borrow (by omega) hold32 hbor
          have eD : (carry : Int) / 4294967296 = ((carry / 4294967296 : Nat) : Int) := by omega
          rw [eD]
          rw [hx', hb']
          clear hx' hb'
          have hst := (hown.stored (k + i) (.int .u32 (x' : Int))).1
          have hbl := (hown.lt g rfl)
          go_roundg d
          case rel => exact ⟨i + 1, (carry) / 4294967296, b', X.set (k + i) x', by go_num, rfl, rfl, by omega, by omega, hb1, (fun h => by omega), by rw [cv_set]; exact hst, by rw [List.length_set]; exact hXl, hX.set _ _ hx32, by rw [List.take_set_of_le (Nat.le_add_right _ _)]; exact HXK.out, (fun j hj => by rw [List.getElem?_set_ne (by omega)]; exact HXJ.out j (by omega)), by
              have hV1 : V.take i = V := List.take_of_length_le (by omega)
              have hV2 : V.take (i + 1) = V := List.take_of_length_le (by omega)
              rw [nvr_succ (List.getElem?_set_self (by omega)), nvr_set (Nat.le_refl _), nvr_succ hoU, hV2, Nat.pow_succ]
              have h_ := HXV.out
              rw [hV1] at h_
              have h2 := sub_step (q := q) (vi := 0) (x' := x') (b' := b') (ui := old) h_ (by rw [Nat.mul_zero, Nat.add_zero]; exact hxe)
              simp only [Nat.mul_zero, Nat.add_zero] at h2
              exact h2, rd_far hRV (hVg ad rfl) _, gb_set hgb _⟩
          case measure => omega
end Go.Proofs.YtffncomekbfihaaGreatDoor.Nat
