/- glossatorref06: run, whence. glossatorref06.Scan. -/
import Derived.Test.YtffncomekbfihaaGreatDoorRef8
import Derived.Test.YtffncomekbfihaaGreatDoorScanM
import Derived.Test.YtffncomekbfihaaGreatDoorScan
import Derived.Deep.CutBlock
import Derived.Deep.DeepCutAuto
namespace Go.Proofs.YtffncomekbfihaaGreatDoor.Nat
open Go.RowKit Go.Shelf
set_option linter.unusedVariables false
set_option linter.unusedSimpArgs false
set_option maxHeartbeats 8000000 in
set_option maxRecDepth 100000 in
theorem run_ref (s : ByteArray) (P : Nat) (w : World) (hs : s.size ≤ 9223372036854775807) (hP : P ≤ s.size) :
    Calls Tryz.prog 93 #[.string s, .int .i64 (P : Int)] w fun e w' => e = .returned (.int .i64 ((((bts s).drop P).takeWhile dg).length : Nat)) ∧ w = w' := by
  have hl := bts_length s
  go_enter Tryz.func93, Tryz.ntmps93
  go_wp2
  go_loopg [5] (s.size - P) (fun kq v5 wr => ∃ n : Nat, v5 = .int .i64 n ∧ P + n + kq = s.size ∧ Hid (∀ (i c : Nat), i < n → ((bts s).drop P)[i]? = some c → dg c = true) ∧ wr = w)
  case atStart => exact ⟨0, rfl, by omega, Lib.hid (fun i c h => absurd h (Nat.not_lt_zero i)), rfl⟩
  case round =>
    obtain ⟨n, rfl, hn, HD, rfl⟩ := hrel
    obtain ⟨Q, hQ⟩ : ∃ Q, P + n = Q := ⟨_, rfl⟩
    have hQI : (P : Int) + (n : Int) = (Q : Int) := by omega
    have hwQ : IntKind.i64.wrap (Q : Int) = (Q : Int) := by rw [IntKind.wrap_i64]; omega
    have hend : (∀ c, ((bts s).drop P)[n]? = some c → dg c = false) → (((bts s).drop P).takeWhile dg).length = n := fun he => by
      have hnl : n ≤ ((bts s).drop P).length := by rw [List.length_drop]; omega
      rw [(takeWhile_take HD.out hnl he).1, List.length_take]
      omega
    have hdr : ((bts s).drop P)[n]? = (bts s)[Q]? := by rw [List.getElem?_drop, hQ]
    cases gk with
    | zero =>
      have hlt : ¬ (Q : Int) < (s.size : Int) := by omega
      have hr := hend (fun c hc => by rw [hdr, List.getElem?_eq_none (by omega)] at hc; cases hc)
      have HR : Hid _ := Lib.hid hr
      clear hr hend hdr HD hn hl
      go_wp2
      go_ret
      exact ⟨by rw [HR.out]; rfl, rfl⟩
    | succ d =>
      have hltQ : Q < s.size := by omega
      have hlt : (Q : Int) < (s.size : Int) := by omega
      obtain ⟨c, hc⟩ : ∃ c, (bts s)[Q]? = some c := ⟨_, List.getElem?_eq_getElem (by omega)⟩
      have hat := bts_ix hc
      rw [hc] at hdr
      by_cases hdc : dg c = true
      · have hb : 48 ≤ c ∧ c ≤ 57 := by simpa [dg] using hdc
        have h1 : (48 : Int) ≤ (c : Int) := by omega
        have h2 : (c : Int) ≤ 57 := by omega
        have hnew : ∀ (i c : Nat), i < n + 1 → ((bts s).drop P)[i]? = some c → dg c = true := fun i c' hi hc' => by
          rcases Nat.lt_or_ge i n with h | h
          · exact HD.out i c' h hc'
          · obtain rfl : i = n := by omega
            rw [hdr] at hc'
            cases hc'
            exact hdc
        have HNEW : Hid _ := Lib.hid hnew
        clear hnew hdc hb HD hend hdr hc
        go_wp2
        go_roundg d
        case rel => exact ⟨n + 1, by go_num, by omega, HNEW.out, rfl⟩
        case measure => omega
      · have hdf : dg c = false := by simpa using hdc
        have hb : ¬ (48 ≤ c ∧ c ≤ 57) := by simpa [dg] using hdf
        have hr := hend (fun c' hc' => by rw [hdr] at hc'; cases hc'; exact hdf)
        have HR : Hid _ := Lib.hid hr
        clear hr hend hdr HD hdc hdf hc
        by_cases h48 : 48 ≤ c
        · have h3 : (48 : Int) ≤ (c : Int) := by omega
          have h4 : ¬ (c : Int) ≤ 57 := by omega
          go_wp2
          go_ret
          exact ⟨by rw [HR.out]; rfl, rfl⟩
        · have h3 : ¬ (48 : Int) ≤ (c : Int) := by omega
          go_wp2
          go_ret
          exact ⟨by rw [HR.out]; rfl, rfl⟩
theorem all_take_succ {L : List Nat} {i c : Nat} (h : L[i]? = some c) : (L.take (i + 1)).all (fun c => c = 48) = ((L.take i).all (fun c => c = 48) && decide (c = 48)) := by
  rw [List.take_add_one, h, List.all_append]
  simp
/-- Round, whatever the exponent -/
def whn (neg : Bool) (L : List Nat) (e : Int) : Nat × Nat :=
  if e < -2000 then (sgn neg 0, 0) else if 2000 < e then (if L.all (fun c => c = 48) then (sgn neg 0, 0) else (0, 8)) else rnd neg L e
theorem scT_whn (neg : Bool) (D : List Nat) (pl : Nat) (exp : List Nat) (low : Bool) :
    scT neg D pl exp low true = if 800 < D.length ∨ 4 < exp.length then (0, 2) else whn neg D ((if low then -(dval exp : Int) else dval exp) - pl) := by
  unfold scT whn
  rw [if_neg (by decide)]
set_option maxHeartbeats 8000000 in
set_option maxRecDepth 100000 in
theorem whence_ref (neg : Bool) (s : ByteArray) (e : Int) (w : World) (hs : s.size ≤ 9223372036854775807) :
    Calls Tryz.prog 94 #[.bool neg, .string s, .int .i64 e] w fun en w' => en = .returned (rndV (whn neg (bts s) e)) ∧ Below w.heap.size w w' := by
  have hl := bts_length s
  have hb0 := Below.refl w.heap.size w
  unfold whn
  by_cases hin : -2000 ≤ e ∧ e ≤ 2000
  · rw [if_neg (by omega), if_neg (by omega)]
    have h1 : -2000 ≤ e := hin.1
    have h2 : e ≤ 2000 := hin.2
    have kr := rround_calls neg s e w
    unfold rndV at kr
    unfold rndV
    generalize rnd neg (bts s) e = R at *
    clear hin
    go_enter Tryz.func94, Tryz.ntmps94
    go_wp2_with (go_at_call 112; (with_reducible refine kr.mono ?_); clear kr; rintro e1 w1 ⟨rfl, hb1⟩)
    go_ret2
    exact ⟨rfl, hb1⟩
  · have ks := fun W => sign_ref neg W
    by_cases e1 : e < -2000
    · rw [if_pos e1]
      have hc1 : ¬ -2000 ≤ e := by omega
      clear hin
      go_enter Tryz.func94, Tryz.ntmps94
      go_wp2
      go_loopg [8, 9] s.size (fun kq v8 v9 wr => ∃ (i : Nat) (B : Bool), v9 = .int .i64 i ∧ i + kq = s.size ∧ v8 = .bool B ∧ Hid (((bts s).take i).all (fun c => c = 48) = B) ∧ wr = w)
      case atStart => exact ⟨0, true, rfl, by omega, rfl, Lib.hid rfl, rfl⟩
      case round =>
        obtain ⟨i, B, rfl, hi, rfl, HB, rfl⟩ := hrel
        cases gk with
        | zero =>
          obtain rfl : i = s.size := by omega
          have hB := HB.out
          rw [List.take_of_length_le (by omega)] at hB
          clear hB HB hl
          go_wp2_with (go_at_call 125; (with_reducible refine (ks _).mono ?_); clear ks; rintro e2 w2 ⟨rfl, rfl⟩)
          go_ret2
          exact ⟨rfl, hb0⟩
        | succ d =>
          obtain ⟨c, hc⟩ : ∃ c, (bts s)[i]? = some c := ⟨_, List.getElem?_eq_getElem (by omega)⟩
          have hat := bts_ix hc
          have hi1 : (i : Int) < (s.size : Int) := by omega
          have hnew := all_take_succ hc
          rw [HB.out] at hnew
          cases B with
          | false =>
            have HN : Hid _ := Lib.hid hnew
            clear hnew hc HB hl
            go_wp2
            go_roundg d
            case rel => exact ⟨i + 1, false, by go_num, by omega, rfl, HN, rfl⟩
            case measure => omega
          | true =>
            by_cases h48 : c = 48
            · subst h48
              have HN : Hid _ := Lib.hid hnew
              clear hnew hc HB hl
              go_wp2
              go_roundg d
              case rel => exact ⟨i + 1, true, by go_num, by omega, rfl, HN, rfl⟩
              case measure => omega
            · have hcf : ((c : Int) == 48) = false := beq_eq_false_iff_ne.2 (by omega)
              rw [decide_eq_false h48] at hnew
              have HN : Hid _ := Lib.hid hnew
              clear hnew hc HB hl h48
              go_wp2
              go_roundg d
              case rel => exact ⟨i + 1, false, by go_num, by omega, rfl, HN, rfl⟩
              case measure => omega
    · rw [if_neg e1]
      have e2 : 2000 < e := by omega
      rw [if_pos e2]
      obtain ⟨RV, hRV⟩ : ∃ RV : Nat × Nat, (if (bts s).all (fun c => c = 48) then (sgn neg 0, 0) else (0, 8)) = RV := ⟨_, rfl⟩
      rw [hRV]
      have HRV : Hid _ := Lib.hid hRV
      clear hRV
      have hc1 : -2000 ≤ e := by omega
      have hc2 : ¬ e ≤ 2000 := by omega
      clear hin
      go_enter Tryz.func94, Tryz.ntmps94
      go_wp2
      go_loopg [8, 9] s.size (fun kq v8 v9 wr => ∃ (i : Nat) (B : Bool), v9 = .int .i64 i ∧ i + kq = s.size ∧ v8 = .bool B ∧ Hid (((bts s).take i).all (fun c => c = 48) = B) ∧ wr = w)
      case atStart => exact ⟨0, true, rfl, by omega, rfl, Lib.hid rfl, rfl⟩
      case round =>
        obtain ⟨i, B, rfl, hi, rfl, HB, rfl⟩ := hrel
        cases gk with
        | zero =>
          obtain rfl : i = s.size := by omega
          have hB := HB.out
          rw [List.take_of_length_le (by omega)] at hB
          clear HB hl
          cases B with
          | true =>
            have hR := HRV.out
            rw [if_pos hB] at hR
            have HR : Hid _ := Lib.hid hR
            clear hR hB HRV
            go_wp2_with (go_at_call 125; (with_reducible refine (ks _).mono ?_); clear ks; rintro e2 w2 ⟨rfl, rfl⟩)
            go_ret2
            exact ⟨by rw [← HR.out]; rfl, hb0⟩
          | false =>
            have hR := HRV.out
            rw [if_neg (by rw [hB]; decide)] at hR
            have HR : Hid _ := Lib.hid hR
            clear hR hB HRV
            go_wp2_with fail
            go_ret2
            exact ⟨by rw [← HR.out]; rfl, hb0⟩
        | succ d =>
          obtain ⟨c, hc⟩ : ∃ c, (bts s)[i]? = some c := ⟨_, List.getElem?_eq_getElem (by omega)⟩
          have hat := bts_ix hc
          have hi1 : (i : Int) < (s.size : Int) := by omega
          have hnew := all_take_succ hc
          rw [HB.out] at hnew
          cases B with
          | false =>
            have HN : Hid _ := Lib.hid hnew
            clear hnew hc HB hl
            go_wp2
            go_roundg d
            case rel => exact ⟨i + 1, false, by go_num, by omega, rfl, HN, rfl⟩
            case measure => omega
          | true =>
            by_cases h48 : c = 48
            · subst h48
              have HN : Hid _ := Lib.hid hnew
              clear hnew hc HB hl
              go_wp2
              go_roundg d
              case rel => exact ⟨i + 1, true, by go_num, by omega, rfl, HN, rfl⟩
              case measure => omega
            · have hcf : ((c : Int) == 48) = false := beq_eq_false_iff_ne.2 (by omega)
              rw [decide_eq_false h48] at hnew
              have HN : Hid _ := Lib.hid hnew
              clear hnew hc HB hl h48
              go_wp2
              go_roundg d
              case rel => exact ⟨i + 1, false, by go_num, by omega, rfl, HN, rfl⟩
              case measure => omega
end Go.Proofs.YtffncomekbfihaaGreatDoor.Nat
namespace Go.Proofs.YtffncomekbfihaaGreatDoor.Nat
open Go.RowKit Go.Shelf
set_option linter.unusedVariables false
set_option linter.unusedSimpArgs false
theorem drop_at {S : List Nat} {P c : Nat} (h : S[P]? = some c) : S.drop P = c :: S.drop (P + 1) := by
  obtain ⟨hl, he⟩ := List.getElem?_eq_some_iff.1 h
  rw [List.drop_eq_getElem_cons hl, he]
theorem sgc_at (X S : List Nat) (P : Nat) (hX : ∀ c ∈ X, c ≠ 0) (hP : P ≤ S.length) : ∃ (b : Bool) (Q : Nat), decide ((sgc X (S.drop P)).1 ≠ 0) = b ∧ (sgc X (S.drop P)).2 = S.drop Q ∧ Q = (if b then P + 1 else P) ∧ Q ≤ S.length ∧
    ((P = S.length ∧ b = false) ∨ (P < S.length ∧ ∃ c, S[P]? = some c ∧ ((c ∈ X ∧ b = true ∧ (sgc X (S.drop P)).1 = c) ∨ (c ∉ X ∧ b = false)))) := by
  rcases Nat.lt_or_ge P S.length with h | h
  · obtain ⟨c, hc⟩ : ∃ c, S[P]? = some c := ⟨_, List.getElem?_eq_getElem h⟩
    rw [drop_at hc]
    by_cases hm : c ∈ X
    · rw [sgc_pos hm]
      exact ⟨true, P + 1, decide_eq_true (hX c hm), rfl, rfl, h, .inr ⟨h, c, hc, .inl ⟨hm, rfl, rfl⟩⟩⟩
    · rw [sgc_neg hm]
      exact ⟨false, P, rfl, (drop_at hc).symm, rfl, hP, .inr ⟨h, c, hc, .inr ⟨hm, rfl⟩⟩⟩
  · have e : S.drop P = [] := List.drop_eq_nil_of_le h
    rw [e]
    exact ⟨false, P, rfl, e.symm, rfl, hP, .inl ⟨by omega, rfl⟩⟩
theorem run_at {S : List Nat} {P n : Nat} (h : ((S.drop P).takeWhile dg).length = n) (hP : P ≤ S.length) : (S.drop P).dropWhile dg = S.drop (P + n) ∧ (S.drop P).takeWhile dg = (S.drop P).take n ∧ P + n ≤ S.length := by
  have h1 : (S.drop P).takeWhile dg ++ (S.drop P).dropWhile dg = S.drop P := List.takeWhile_append_dropWhile
  have h2 : ((S.drop P).takeWhile dg ++ (S.drop P).dropWhile dg).length = (S.drop P).length := by rw [h1]
  rw [List.length_append, h, List.length_drop] at h2
  refine ⟨?_, ?_, by omega⟩
  · rw [← List.drop_drop]
    conv => rhs; rw [← h1]
    rw [← h, List.drop_left]
  · conv => rhs; rw [← h1]
    rw [← h, List.take_left]
theorem bts_mid (s : ByteArray) (a b : Nat) : bts (s.extract a b) = ((bts s).drop a).take (b - a) := by
  unfold bts
  rw [Lib.extract_data, List.map_take, List.map_drop]
theorem bts_add (a b : ByteArray) : bts (a ++ b) = bts a ++ bts b := by
  unfold bts
  rw [ByteArray.data_append, Array.toList_append, List.map_append]
theorem scT_bad (neg : Bool) (D : List Nat) (pl : Nat) (exp : List Nat) (low : Bool) : scT neg D pl exp low false = (0, 4) := by
  unfold scT
  rw [if_pos rfl]
theorem ten4 {v n : Nat} (h : v < 10 ^ n) (hn : n ≤ 4) : v < 10000 := Nat.lt_of_lt_of_le h (Nat.le_trans (Nat.pow_le_pow_right (by decide) hn) (by decide : 10 ^ 4 ≤ 10000))
set_option maxHeartbeats 16000000 in
set_option maxRecDepth 100000 in
theorem scan_ref (s : ByteArray) (w : World) (hs : s.size ≤ 9223372036854775807) :
    Calls Tryz.prog 44 #[.string s] w fun e w' => e = .returned (rndV (sc (bts s))) ∧ Below w.heap.size w w' := by
  have hb0 := Below.refl w.heap.size w
  have hl := bts_length s
  obtain ⟨ng, at0, hng, hr0, ha0, hl0, hcase0⟩ := sgc_at [45] (bts s) 0 (by decide) (Nat.zero_le _)
  rw [List.drop_zero] at hng hr0 hcase0
  obtain ⟨n0, hn0⟩ : ∃ n0, (((bts s).drop at0).takeWhile dg).length = n0 := ⟨_, rfl⟩
  obtain ⟨hr1, ht1, hl1⟩ := run_at hn0 hl0
  obtain ⟨at1, hat1⟩ : ∃ at1, at0 + n0 = at1 := ⟨_, rfl⟩
  rw [hat1] at hr1 hl1
  have hsc : sc (bts s) = scT ng (((bts s).drop at0).takeWhile dg ++ (scB ((bts s).drop at1)).2.1) (scB ((bts s).drop at1)).2.1.length (scC (scB ((bts s).drop at1)).2.2).2.1 (scC (scB ((bts s).drop at1)).2.2).2.2.1 (decide (n0 ≠ 0) && (scB ((bts s).drop at1)).1 && (scC (scB ((bts s).drop at1)).2.2).1 && decide ((scC (scB ((bts s).drop at1)).2.2).2.2.2.length = 0)) := by
    unfold sc
    rw [hr0, hng, hr1, hn0]
  have hkr := run_ref s at0 w hs (by omega)
  rw [hn0] at hkr
  have hd0 : bts (s.extract at0 at1) = ((bts s).drop at0).takeWhile dg := by rw [bts_mid, ht1]; congr 1; omega
  have hat1I : (at0 : Int) + (n0 : Int) = (at1 : Int) := by omega
  have hw1 : IntKind.i64.wrap (at1 : Int) = (at1 : Int) := by rw [IntKind.wrap_i64]; omega
  have hat1s : at1 ≤ s.size := by omega
  have hat0s : at0 ≤ at1 := by omega
  obtain ⟨RV, hRV⟩ : ∃ RV, sc (bts s) = RV := ⟨_, rfl⟩
  rw [hRV]
  have HSC : Hid _ := Lib.hid (And.intro hsc (And.intro hRV hd0))
  have HN0 : Hid _ := Lib.hid hn0
  clear hsc hRV hr0 hng hr1 ht1 hn0 hd0
  generalize hd0v : s.extract at0 at1 = d0 at *
  go_enter Tryz.func44, Tryz.ntmps44
  go_upto_region 1 with fail
  go_cut [4] (fun v4 wx => v4 = .bool ng ∧ wx = w)
  case first =>
    as_aux_lemma =>
      rcases hcase0 with ⟨h0, rfl⟩ | ⟨h0, c, hc, h1⟩
      · have hemp := empty_of (t := s) (by omega)
        clear hkr hl0 hl1 ha0
        go_wp2
        go_meet
        case rel => exact ⟨rfl, rfl⟩
      · have hful := full_of (t := s) (by omega)
        have hat := bts_ix hc
        have hs0 : 0 < s.size := by omega
        rcases h1 with ⟨hm, rfl, _⟩ | ⟨hm, rfl⟩
        · obtain rfl : c = 45 := by simpa using hm
          clear hkr hl0 hl1 ha0 hm
          go_wp2
          go_meet
          case rel => exact ⟨rfl, rfl⟩
        · have hcf : ((c : Int) == 45) = false := beq_eq_false_iff_ne.2 (fun q => hm (by simp; omega))
          clear hkr hl0 hl1 ha0 hm
          go_wp2
          go_meet
          case rel => exact ⟨rfl, rfl⟩
  case rest =>
    as_aux_lemma =>
      obtain ⟨rfl, rfl⟩ := hcut
      clear hcase0
      go_upto_if 21 with fail
      go_cut [5] (fun v5 wx => v5 = .int .i64 (at0 : Int) ∧ wx = wc)
      case first =>
        as_aux_lemma =>
          cases ng with
          | true =>
            as_aux_lemma =>
              rw [if_pos rfl] at ha0
              subst ha0
              go_wp2
              go_meet
              case rel => exact ⟨rfl, rfl⟩
          | false =>
            as_aux_lemma =>
              rw [if_neg (by decide)] at ha0
              subst ha0
              go_wp2
              go_meet
              case rel => exact ⟨rfl, rfl⟩
      case rest =>
        as_aux_lemma =>
          obtain ⟨rfl, rfl⟩ := hcut
          clear ha0
          go_upto_region 10 with (go_at_call 93; (with_reducible refine hkr.mono ?_); clear hkr; rintro e1 w1 ⟨rfl, rfl⟩)
          obtain ⟨hsc, hRV, hd0⟩ := HSC.out
          by_cases hn0z : n0 = 0
          · subst hn0z
            have hres : RV = (0, 4) := by rw [← hRV, hsc, decide_eq_false (by simp), Bool.false_and, Bool.false_and, Bool.false_and]; exact scT_bad _ _ _ _ _
            have HRES : Hid _ := Lib.hid hres
            clear hsc hRV hd0 HSC hres
            go_wp2
            go_ret2
            exact ⟨by rw [HRES.out]; rfl, hb0⟩
          obtain ⟨hn0, hn0h⟩ : ∃ hn0 : (((bts s).drop at0).takeWhile dg).length = n0, True := ⟨HN0.out, trivial⟩
          have hd0z : d0.size = n0 := by rw [← bts_length, hd0, hn0]
          have hn0p : (0 : Int) < (n0 : Int) := by omega
          have hn0I : ((n0 : Int) == 0) = false := beq_eq_false_iff_ne.2 (by omega)
          rw [decide_eq_true hn0z, Bool.true_and] at hsc
          obtain ⟨bd, atd, hbd, hrd, had, hld, hcased⟩ := sgc_at [46] (bts s) at1 (by decide) hl1
          generalize hTW : ((bts s).drop at0).takeWhile dg = TW at *
          have H1 : Hid _ := Lib.hid (And.intro hsc (And.intro hRV (And.intro hd0 (And.intro hbd hrd))))
          clear hsc hRV hd0 hbd hrd HSC hn0 hn0h hTW HN0 hn0z
          go_cut [48] (fun v48 wx => v48 = .bool bd ∧ wx = wc)
          case first =>
            as_aux_lemma =>
              clear had hld
              rcases hcased with ⟨h0, rfl⟩ | ⟨h0, c, hc, h1⟩
              · have hnl : ¬ (at1 : Int) < (s.size : Int) := by omega
                clear h0
                go_wp2
                go_meet
                case rel => exact ⟨rfl, rfl⟩
              · have hlt : (at1 : Int) < (s.size : Int) := by omega
                have hat := bts_ix hc
                clear h0
                rcases h1 with ⟨hm, rfl, _⟩ | ⟨hm, rfl⟩
                · obtain rfl : c = 46 := by simpa using hm
                  clear hm hc
                  go_wp2
                  go_meet
                  case rel => exact ⟨rfl, rfl⟩
                · have hcf : ((c : Int) == 46) = false := beq_eq_false_iff_ne.2 (fun q => hm (by simp; omega))
                  clear hm hc
                  go_wp2
                  go_meet
                  case rel => exact ⟨by first | rfl | (rw [hcf]), rfl⟩
          case rest =>
            as_aux_lemma =>
              obtain ⟨rfl, rfl⟩ := hcut
              clear hcased
              go_upto_if 48 with fail
              go_cut [5, 6, 7, 9] (fun v5 v6 v7 v9 wx => ∃ (at2 n2 : Nat) (d : ByteArray), v5 = .int .i64 (at2 : Int) ∧ v6 = .int .i64 (n2 : Int) ∧ v7 = .string d ∧ v9 = .int .i64 (-((scB ((bts s).drop at1)).2.1.length : Int)) ∧ bts d = TW ++ (scB ((bts s).drop at1)).2.1 ∧ (scB ((bts s).drop at1)).2.2 = (bts s).drop at2 ∧ (scB ((bts s).drop at1)).1 = decide (n2 ≠ 0) ∧ at2 ≤ s.size ∧ wx = wc)
              case first =>
                as_aux_lemma =>
                  obtain ⟨_, _, hd0, hbd, hrd⟩ := H1.out
                  cases bd with
                  | false =>
                    as_aux_lemma =>
                      rw [if_neg (by decide)] at had
                      obtain rfl : at1 = atd := had.symm
                      have hz : (sgc [46] ((bts s).drop at1)).1 = 0 := by simpa using hbd
                      have hB := scB_neg hz
                      rw [hrd] at hB
                      have HB : Hid _ := Lib.hid (And.intro hB hd0)
                      clear hB hd0 hz hbd hrd H1
                      go_wp2
                      go_meet
                      case rel => exact ⟨at1, n0, d0, rfl, rfl, rfl, by rw [HB.out.1]; rfl, by rw [HB.out.1, HB.out.2]; simp, by rw [HB.out.1], by rw [HB.out.1, decide_eq_true (by omega)], hat1s, rfl⟩
                  | true =>
                    as_aux_lemma =>
                      rw [if_pos rfl] at had
                      have hz : (sgc [46] ((bts s).drop at1)).1 ≠ 0 := by simpa using hbd
                      have hB := scB_pos hz
                      rw [hrd] at hB
                      obtain ⟨n2, hn2⟩ : ∃ n2, (((bts s).drop atd).takeWhile dg).length = n2 := ⟨_, rfl⟩
                      obtain ⟨hr1, ht1, hl2⟩ := run_at hn2 hld
                      obtain ⟨at2, hat2⟩ : ∃ at2, atd + n2 = at2 := ⟨_, rfl⟩
                      rw [hat2] at hr1 hl2
                      have kr := run_ref s atd wc hs (by omega)
                      rw [hn2] at kr
                      have hpt : bts (s.extract atd at2) = ((bts s).drop atd).takeWhile dg := by rw [bts_mid, ht1]; congr 1; omega
                      have hptz : (s.extract atd at2).size = n2 := by rw [← bts_length, hpt, hn2]
                      rw [hr1, hn2, ← hpt] at hB
                      generalize hpp : s.extract atd at2 = part at *
                      have q1 : (at1 : Int) + 1 = (atd : Int) := by omega
                      have q2 : IntKind.i64.wrap (atd : Int) = (atd : Int) := by rw [IntKind.wrap_i64]; omega
                      have q3 : (atd : Int) + (n2 : Int) = (at2 : Int) := by omega
                      have q4 : IntKind.i64.wrap (at2 : Int) = (at2 : Int) := by rw [IntKind.wrap_i64]; omega
                      have q5 : IntKind.i64.wrap (-(n2 : Int)) = -(n2 : Int) := by rw [IntKind.wrap_i64]; omega
                      have hat2s : at2 ≤ s.size := by omega
                      have hatd2 : atd ≤ at2 := by omega
                      have hsum : d0.size + part.size ≤ s.size := by omega
                      have HB : Hid _ := Lib.hid (And.intro hB (And.intro hd0 (And.intro hptz (bts_length part))))
                      clear hB hd0 hz hbd hrd H1 hr1 ht1 hn2 hpt had hat2 hptz
                      go_wp2_with (go_at_call 93; (with_reducible refine kr.mono ?_); clear kr; rintro e1 w1 ⟨rfl, rfl⟩)
                      go_meet
                      case rel => exact ⟨at2, n2, d0 ++ part, rfl, rfl, rfl, by rw [HB.out.1]; have h1 := HB.out.2.2.1; have h2 := HB.out.2.2.2; simp only; rw [h2, h1], by rw [HB.out.1, bts_add, HB.out.2.1], by rw [HB.out.1], by rw [HB.out.1], hat2s, rfl⟩
              case rest =>
                as_aux_lemma =>
                  obtain ⟨at2, n2, d, rfl, rfl, rfl, rfl, hd, hr2, hg2, hat2, rfl⟩ := hcut
                  obtain ⟨hsc, hRV, _, _, _⟩ := H1.out
                  rw [hr2, hg2, ← hd] at hsc
                  have hplen : (scB ((bts s).drop at1)).2.1.length ≤ d.size := by rw [← bts_length, hd, List.length_append]; omega
                  generalize (scB ((bts s).drop at1)).2.1.length = pl at *
                  have H2 : Hid _ := Lib.hid (And.intro hsc hRV)
                  clear hsc hRV H1 hd hr2 hg2 hat1I hw1 hat1s hat0s hl0 hl1 hn0p had hld hd0z
                  by_cases hn2z : n2 = 0
                  · subst hn2z
                    have hres : RV = (0, 4) := by rw [← H2.out.2, H2.out.1, decide_eq_false (by simp), Bool.false_and, Bool.false_and]; exact scT_bad _ _ _ _ _
                    have HRES : Hid _ := Lib.hid hres
                    clear H2 hres
                    go_wp2
                    go_ret2
                    exact ⟨by rw [HRES.out]; rfl, hb0⟩
                  have hn2I : ((n2 : Int) == 0) = false := beq_eq_false_iff_ne.2 (by omega)
                  obtain ⟨hsc, hRV⟩ := H2.out
                  rw [decide_eq_true hn2z, Bool.true_and, hRV] at hsc
                  obtain ⟨be, ate, hbe, hre, hae, hle, hcasee⟩ := sgc_at [101, 69] (bts s) at2 (by decide) (by omega)
                  have H3 : Hid _ := Lib.hid (And.intro hsc (And.intro hbe hre))
                  clear hsc hRV H2 hbe hre hn2z
                  go_upto_region 19 with fail
                  go_cut [90] (fun v90 wx => v90 = .bool be ∧ wx = wc)
                  case first =>
                    as_aux_lemma =>
                      clear hae hle
                      rcases hcasee with ⟨h0, rfl⟩ | ⟨h0, c, hc, h1⟩
                      · have hnl : ¬ (at2 : Int) < (s.size : Int) := by omega
                        clear h0
                        go_wp2
                        go_meet
                        case rel => exact ⟨rfl, rfl⟩
                      · have hlt : (at2 : Int) < (s.size : Int) := by omega
                        have hat := bts_ix hc
                        clear h0
                        rcases h1 with ⟨hm, rfl, _⟩ | ⟨hm, rfl⟩
                        · rcases (show c = 101 ∨ c = 69 by simpa using hm) with rfl | rfl
                          · clear hm hc
                            go_wp2
                            go_meet
                            case rel => exact ⟨rfl, rfl⟩
                          · clear hm hc
                            go_wp2
                            go_meet
                            case rel => exact ⟨rfl, rfl⟩
                        · have hcf : ((c : Int) == 101) = false := beq_eq_false_iff_ne.2 (fun q => hm (by simp; omega))
                          have hcg : ((c : Int) == 69) = false := beq_eq_false_iff_ne.2 (fun q => hm (by simp; omega))
                          clear hm hc
                          go_wp2
                          go_meet
                          case rel => exact ⟨by first | rfl | (rw [hcg]), rfl⟩
                  case rest =>
                    as_aux_lemma =>
                      obtain ⟨rfl, rfl⟩ := hcut
                      clear hcasee
                      go_upto_if 90 with fail
                      cases be with
                      | false =>
                        as_aux_lemma =>
                          rw [if_neg (by decide)] at hae
                          obtain rfl : at2 = ate := hae.symm
                          obtain ⟨hsc, hbe, hre⟩ := H3.out
                          have hz : (sgc [101, 69] ((bts s).drop at2)).1 = 0 := by simpa using hbe
                          have hC := scC_neg hz
                          rw [hre] at hC
                          rw [hC] at hsc
                          have HFIN : Hid (RV = scT ng (bts d) pl [] false (decide (((bts s).drop at2).length = 0)) ∧ Dgs [] ∧ bts (⟨#[]⟩ : ByteArray) = []) := Lib.hid ⟨by rw [hsc, Bool.true_and], (fun c hc => by cases hc), rfl⟩
                          clear hsc hbe hre hz hC H3
                          go_upto_region 29 with fail
                          have hres0 : RV = scT ng (bts d) pl [] false (decide (((bts s).drop at2).length = 0)) := HFIN.out.1
                          by_cases hend : at2 = s.size
                          case neg =>
                            as_aux_lemma =>
                              have hne : ((at2 : Int) != (s.size : Int)) = true := bne_iff_ne.2 (by omega)
                              have hres : RV = (0, 4) := by rw [hres0, decide_eq_false (by rw [List.length_drop]; omega)]; exact scT_bad _ _ _ _ _
                              have HRES : Hid _ := Lib.hid hres
                              clear hres hres0 HFIN hend
                              go_wp2
                              go_ret2
                              exact ⟨by rw [HRES.out]; rfl, hb0⟩
                          case pos =>
                            as_aux_lemma =>
                              have hnf : ((at2 : Int) != (s.size : Int)) = false := by rw [hend]; simp
                              rw [decide_eq_true (by rw [List.length_drop]; omega), scT_whn] at hres0
                              have hdl := bts_length d
                              by_cases h8 : 800 < d.size
                              · rw [if_pos (.inl (by omega))] at hres0
                                have h8I : (800 : Int) < (d.size : Int) := by omega
                                have HRES : Hid _ := Lib.hid hres0
                                clear hres0 HFIN hend
                                go_wp2
                                go_ret2
                                exact ⟨by rw [HRES.out]; rfl, hb0⟩
                              have h8I : ¬ (800 : Int) < (d.size : Int) := by omega
                              rw [if_neg (by simp; omega)] at hres0
                              have hpld : pl ≤ d.size := hplen
                              have hres1 : RV = whn ng (bts d) (-(pl : Int)) := by rw [hres0]; congr 1; simp [dval]
                              have kw := fun W => whence_ref ng d (-(pl : Int)) W (by omega)
                              unfold rndV at kw
                              have HRES : Hid _ := Lib.hid hres1
                              have hpl8 : pl ≤ 800 := by omega
                              have hwe : IntKind.i64.wrap (-(pl : Int)) = -(pl : Int) := by rw [IntKind.wrap_i64]; omega
                              clear hres0 hres1 HFIN hend hdl hplen hpld
                              generalize whn ng (bts d) (-(pl : Int)) = R at *
                              go_wp2
                              obtain ⟨K, HK⟩ : ∃ K, Hid (K = 0) := ⟨0, Lib.hid rfl⟩
                              go_loopg [12, 13] K (fun kq v12 v13 wr => v13 = .int .i64 0 ∧ kq = 0 ∧ v12 = .int .i64 0 ∧ wr = wc)
                              case atStart => exact ⟨rfl, HK.out, rfl, rfl⟩
                              case round =>
                                as_aux_lemma =>
                                  obtain ⟨rfl, hi, rfl, rfl⟩ := hrel
                                  subst hi
                                  go_wp2_with (go_at_call 94; (with_reducible refine (kw _).mono ?_); clear kw; rintro e9 w9 ⟨rfl, hb9⟩)
                                  go_ret2
                                  exact ⟨by rw [HRES.out]; rfl, below_step hb0 hb9⟩
                      | true =>
                        as_aux_lemma =>
                          rw [if_pos rfl] at hae
                          obtain ⟨hsc, hbe, hre⟩ := H3.out
                          have hz : (sgc [101, 69] ((bts s).drop at2)).1 ≠ 0 := by simpa using hbe
                          have hC := scC_pos hz
                          rw [hre] at hC
                          rw [hC] at hsc
                          obtain ⟨bs, ats, hbs, hrs, has, hls, hcases⟩ := sgc_at [43, 45] (bts s) ate (by decide) hle
                          obtain ⟨low, hlow⟩ : ∃ low, decide ((sgc [43, 45] ((bts s).drop ate)).1 = 45) = low := ⟨_, rfl⟩
                          obtain ⟨n3, hn3⟩ : ∃ n3, (((bts s).drop ats).takeWhile dg).length = n3 := ⟨_, rfl⟩
                          obtain ⟨hr1, ht1, hl3⟩ := run_at hn3 hls
                          obtain ⟨at5, hat5⟩ : ∃ at5, ats + n3 = at5 := ⟨_, rfl⟩
                          rw [hat5] at hr1 hl3
                          rw [hrs, hlow, hr1, hn3] at hsc
                          have kr := run_ref s ats wc hs (by omega)
                          rw [hn3] at kr
                          have hx : bts (s.extract ats at5) = ((bts s).drop ats).takeWhile dg := by rw [bts_mid, ht1]; congr 1; omega
                          generalize hxx : s.extract ats at5 = x at *
                          have hdx := takeWhile_dgs ((bts s).drop ats)
                          generalize ((bts s).drop ats).takeWhile dg = EX at *
                          have q1 : (at2 : Int) + 1 = (ate : Int) := by omega
                          have q2 : IntKind.i64.wrap (ate : Int) = (ate : Int) := by rw [IntKind.wrap_i64]; omega
                          have q3 : (ats : Int) + (n3 : Int) = (at5 : Int) := by omega
                          have q4 : IntKind.i64.wrap (at5 : Int) = (at5 : Int) := by rw [IntKind.wrap_i64]; omega
                          have hat5s : at5 ≤ s.size := by omega
                          have hats5 : ats ≤ at5 := by omega
                          have H4 : Hid _ := Lib.hid (And.intro hsc (And.intro hbs (And.intro hlow (And.intro hdx hx))))
                          clear hsc hbe hre hz hC H3 hbs hrs hr1 ht1 hn3 hx hdx hae hat5
                          go_upto_region 21 with fail
                          go_cut [108] (fun v108 wx => v108 = .bool bs ∧ wx = wc)
                          case first =>
                            as_aux_lemma =>
                              clear has hls kr
                              rcases hcases with ⟨h0, rfl⟩ | ⟨h0, c, hc, h1⟩
                              · have hnl : ¬ (ate : Int) < (s.size : Int) := by omega
                                clear h0
                                go_wp2
                                go_meet
                                case rel => exact ⟨rfl, rfl⟩
                              · have hlt : (ate : Int) < (s.size : Int) := by omega
                                have hat := bts_ix hc
                                clear h0
                                rcases h1 with ⟨hm, rfl, _⟩ | ⟨hm, rfl⟩
                                · rcases (show c = 43 ∨ c = 45 by simpa using hm) with rfl | rfl
                                  · clear hm hc
                                    go_wp2
                                    go_meet
                                    case rel => exact ⟨rfl, rfl⟩
                                  · clear hm hc
                                    go_wp2
                                    go_meet
                                    case rel => exact ⟨rfl, rfl⟩
                                · have hcf : ((c : Int) == 43) = false := beq_eq_false_iff_ne.2 (fun q => hm (by simp; omega))
                                  have hcg : ((c : Int) == 45) = false := beq_eq_false_iff_ne.2 (fun q => hm (by simp; omega))
                                  clear hm hc
                                  go_wp2
                                  go_meet
                                  case rel => exact ⟨by first | rfl | (rw [hcg]), rfl⟩
                          case rest =>
                            as_aux_lemma =>
                              obtain ⟨rfl, rfl⟩ := hcut
                              go_upto_if 108 with fail
                              go_cut [5, 11] (fun v5 v11 wx => v5 = .int .i64 (ats : Int) ∧ v11 = .bool low ∧ wx = wc)
                              case first =>
                                as_aux_lemma =>
                                  clear kr
                                  obtain ⟨_, hbs, hlow, _⟩ := H4.out
                                  cases bs with
                                  | false =>
                                    as_aux_lemma =>
                                      rw [if_neg (by decide)] at has
                                      subst has
                                      have hz : (sgc [43, 45] ((bts s).drop ats)).1 = 0 := by simpa using hbs
                                      rw [hz] at hlow
                                      have hlf : low = false := by rw [← hlow]; rfl
                                      subst hlf
                                      clear hlow hz hbs H4 hcases
                                      go_wp2
                                      go_meet
                                      case rel => exact ⟨rfl, rfl, rfl⟩
                                  | true =>
                                    as_aux_lemma =>
                                      rw [if_pos rfl] at has
                                      have s1 : (ate : Int) + 1 = (ats : Int) := by omega
                                      have s2 : IntKind.i64.wrap (ats : Int) = (ats : Int) := by rw [IntKind.wrap_i64]; omega
                                      clear has
                                      rcases hcases with ⟨_, h0⟩ | ⟨h0, c, hc, h1⟩
                                      · cases h0
                                      · have hlt : (ate : Int) < (s.size : Int) := by omega
                                        have hat := bts_ix hc
                                        clear h0
                                        rcases h1 with ⟨hm, _, he⟩ | ⟨_, h0⟩
                                        · rw [he] at hlow
                                          rcases (show c = 43 ∨ c = 45 by simpa using hm) with rfl | rfl
                                          · have hlf : low = false := by rw [← hlow]; rfl
                                            subst hlf
                                            clear hlow he hbs H4 hm hc
                                            go_wp2
                                            go_meet
                                            case rel => exact ⟨rfl, rfl, rfl⟩
                                          · have hlf : low = true := by rw [← hlow]; rfl
                                            subst hlf
                                            clear hlow he hbs H4 hm hc
                                            go_wp2
                                            go_meet
                                            case rel => exact ⟨rfl, rfl, rfl⟩
                                        · cases h0
                              case rest =>
                                as_aux_lemma =>
                                  obtain ⟨rfl, rfl, rfl⟩ := hcut
                                  obtain ⟨hsc, _, _, hdx, hx⟩ := H4.out
                                  clear hcases has
                                  by_cases hn3z : n3 = 0
                                  · subst hn3z
                                    have hres : RV = (0, 4) := by rw [hsc, decide_eq_false (by simp), Bool.false_and]; exact scT_bad _ _ _ _ _
                                    have HRES : Hid _ := Lib.hid hres
                                    clear H4 hres hsc hdx hx
                                    go_wp2_with (go_at_call 93; (with_reducible refine kr.mono ?_); clear kr; rintro e1 w1 ⟨rfl, rfl⟩)
                                    go_ret2
                                    exact ⟨by rw [HRES.out]; rfl, hb0⟩
                                  have hn3I : ¬ (n3 : Int) = 0 := by omega
                                  rw [decide_eq_true hn3z, Bool.true_and] at hsc
                                  have HFIN : Hid (RV = scT ng (bts d) pl EX low (decide (((bts s).drop at5).length = 0)) ∧ Dgs EX ∧ bts x = EX) := Lib.hid ⟨hsc, hdx, hx⟩
                                  clear hsc hdx hx H4 hn3z
                                  go_upto_region 29 with (go_at_call 93; (with_reducible refine kr.mono ?_); clear kr; rintro e1 w1 ⟨rfl, rfl⟩)
                                  have hres0 : RV = scT ng (bts d) pl EX low (decide (((bts s).drop at5).length = 0)) := HFIN.out.1
                                  by_cases hend : at5 = s.size
                                  case neg =>
                                    as_aux_lemma =>
                                      have hne : ((at5 : Int) != (s.size : Int)) = true := bne_iff_ne.2 (by omega)
                                      have hres : RV = (0, 4) := by rw [hres0, decide_eq_false (by rw [List.length_drop]; omega)]; exact scT_bad _ _ _ _ _
                                      have HRES : Hid _ := Lib.hid hres
                                      clear hres hres0 HFIN hend
                                      go_wp2
                                      go_ret2
                                      exact ⟨by rw [HRES.out]; rfl, hb0⟩
                                  case pos =>
                                    as_aux_lemma =>
                                      have hnf : ((at5 : Int) != (s.size : Int)) = false := by rw [hend]; simp
                                      rw [decide_eq_true (by rw [List.length_drop]; omega), scT_whn] at hres0
                                      have hdl := bts_length d
                                      have hxl := bts_length x
                                      have hxe : bts x = EX := HFIN.out.2.2
                                      rw [hxe] at hxl
                                      by_cases h8 : 800 < d.size
                                      · rw [if_pos (.inl (by omega))] at hres0
                                        have h8I : (800 : Int) < (d.size : Int) := by omega
                                        have HRES : Hid _ := Lib.hid hres0
                                        clear hres0 HFIN hend hxe
                                        go_wp2
                                        go_ret2
                                        exact ⟨by rw [HRES.out]; rfl, hb0⟩
                                      have h8I : ¬ (800 : Int) < (d.size : Int) := by omega
                                      by_cases h4 : 4 < x.size
                                      · rw [if_pos (.inr (by omega))] at hres0
                                        have h4I : (4 : Int) < (x.size : Int) := by omega
                                        have HRES : Hid _ := Lib.hid hres0
                                        clear hres0 HFIN hend hxe
                                        go_wp2
                                        go_ret2
                                        exact ⟨by rw [HRES.out]; rfl, hb0⟩
                                      have h4I : ¬ (4 : Int) < (x.size : Int) := by omega
                                      rw [if_neg (by omega)] at hres0
                                      have hdg : Dgs EX := HFIN.out.2.1
                                      have HX : Hid _ := Lib.hid (And.intro hdg hxe)
                                      have hv4 := ten4 (dval_lt hdg) (by omega)
                                      have hpld : pl ≤ d.size := hplen
                                      have kw := fun e W => whence_ref ng d e W (by omega)
                                      unfold rndV at kw
                                      have HRES : Hid _ := Lib.hid hres0
                                      have hpl8 : pl ≤ 800 := by omega
                                      clear hres0 HFIN hend hxe hdg hdl hplen hpld
                                      go_wp2
                                      go_loopg [12, 13] x.size (fun kq v12 v13 wr => ∃ i : Nat, v13 = .int .i64 i ∧ i + kq = x.size ∧ v12 = .int .i64 ((dval ((EX).take i) : Nat) : Int) ∧ wr = wc)
                                      case atStart => exact ⟨0, rfl, by omega, rfl, rfl⟩
                                      case round =>
                                        as_aux_lemma =>
                                          obtain ⟨i, rfl, hi, rfl, rfl⟩ := hrel
                                          cases gk with
                                          | zero =>
                                            obtain rfl : i = x.size := by omega
                                            rw [List.take_of_length_le (by omega)]
                                            generalize dval (EX) = v at *
                                            obtain ⟨el, hel⟩ : ∃ el : Int, (if low = true then -(v : Int) else (v : Int)) = el := ⟨_, rfl⟩
                                            rw [hel] at HRES
                                            have hel1 : -10000 ≤ el ∧ el ≤ 10000 := by rw [← hel]; split <;> omega
                                            have heI : -(pl : Int) + el = el - (pl : Int) := by omega
                                            have hwe : IntKind.i64.wrap (el - (pl : Int)) = el - (pl : Int) := by rw [IntKind.wrap_i64]; omega
                                            have kw1 := kw (el - (pl : Int)) wr
                                            generalize whn ng (bts d) (el - (pl : Int)) = R at *
                                            generalize el - (pl : Int) = E at *
                                            clear HX kw
                                            cases low with
                                            | true =>
                                              as_aux_lemma =>
                                                have hwv : IntKind.i64.wrap (-(v : Int)) = el := by rw [IntKind.wrap_i64]; simp at hel; omega
                                                clear hel
                                                go_wp2_with (go_at_call 94; (with_reducible refine kw1.mono ?_); clear kw1; rintro e9 w9 ⟨rfl, hb9⟩)
                                                go_ret2
                                                exact ⟨by rw [HRES.out]; rfl, below_step hb0 hb9⟩
                                            | false =>
                                              as_aux_lemma =>
                                                have hev : (v : Int) = el := by simpa using hel
                                                rw [hev]
                                                clear hel
                                                go_wp2_with (go_at_call 94; (with_reducible refine kw1.mono ?_); clear kw1; rintro e9 w9 ⟨rfl, hb9⟩)
                                                go_ret2
                                                exact ⟨by rw [HRES.out]; rfl, below_step hb0 hb9⟩
                                          | succ m =>
                                            obtain ⟨c, hc⟩ : ∃ c, (EX)[i]? = some c := ⟨_, List.getElem?_eq_getElem (by omega)⟩
                                            have hat := bts_ix (s := x) (by rw [HX.out.2]; exact hc)
                                            have hi1 : (i : Int) < (x.size : Int) := by omega
                                            obtain ⟨c1, c2⟩ := HX.out.1.get hc
                                            have hdv := dval_take_succ hc
                                            have hk4 : dval ((EX).take i) < 10000 := ten4 (dval_lt (HX.out.1.take i)) (by rw [List.length_take]; omega)
                                            generalize dval ((EX).take i) = v at *
                                            obtain ⟨D, hD⟩ : ∃ D, c - 48 = D := ⟨_, rfl⟩
                                            rw [hD] at hdv
                                            have hDI : (c : Int) - 48 = (D : Int) := by omega
                                            have hwa : IntKind.u8.wrap (D : Int) = (D : Int) := by rw [IntKind.wrap_u8]; omega
                                            have hwb : IntKind.i64.wrap (D : Int) = (D : Int) := by rw [IntKind.wrap_i64]; omega
                                            have hwc : IntKind.i64.wrap (10 * (v : Int)) = 10 * (v : Int) := by rw [IntKind.wrap_i64]; omega
                                            have hwd : IntKind.i64.wrap (10 * (v : Int) + (D : Int)) = 10 * (v : Int) + (D : Int) := by rw [IntKind.wrap_i64]; omega
                                            have HDV : Hid _ := Lib.hid hdv
                                            clear hdv hc hD
                                            go_wp2
                                            go_roundg m
                                            case rel => exact ⟨i + 1, by go_num, by omega, by rw [HDV.out]; push_cast; rfl, rfl⟩
                                            case measure => omega
end Go.Proofs.YtffncomekbfihaaGreatDoor.Nat
