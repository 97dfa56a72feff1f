/- glossatorref06: run, whence. -/
import Derived.Test.YtffncomekbfihaaDoorRef8
import Derived.Test.YtffncomekbfihaaDoorScanM
namespace Go.Proofs.YtffncomekbfihaaDoor.Nat
open Go.RowKit Go.Shelf
set_option linter.unusedVariables false
set_option linter.unusedSimpArgs false
set_option maxHeartbeats 8000000 in
set_option maxRecDepth 100000 in
theorem run_ref (s : ByteArray) (P : Nat) (w : World) (hs : s.size ≤ 9223372036854775807) (hP : P ≤ s.size) :
    Calls Tryd.prog 29 #[.string s, .int .i64 (P : Int)] w fun e w' => e = .returned (.int .i64 ((((bts s).drop P).takeWhile dg).length : Nat)) ∧ w = w' := by
  have hl := bts_length s
  go_enter Tryd.func29, Tryd.ntmps29
  go_wp2
  go_loopg [5] (s.size - P) (fun kq v5 wr => ∃ n : Nat, v5 = .int .i64 n ∧ P + n + kq = s.size ∧ Hid (∀ (i c : Nat), i < n → ((bts s).drop P)[i]? = some c → dg c = true) ∧ wr = w)
  case atStart => exact ⟨0, rfl, by omega, Lib.hid (fun i c h => absurd h (Nat.not_lt_zero i)), rfl⟩
  case round =>
    obtain ⟨n, rfl, hn, HD, rfl⟩ := hrel
    obtain ⟨Q, hQ⟩ : ∃ Q, P + n = Q := ⟨_, rfl⟩
    have hQI : (P : Int) + (n : Int) = (Q : Int) := by omega
    have hwQ : IntKind.i64.wrap (Q : Int) = (Q : Int) := by rw [IntKind.wrap_i64]; omega
    have hend : (∀ c, ((bts s).drop P)[n]? = some c → dg c = false) → (((bts s).drop P).takeWhile dg).length = n := fun he => by
      have hnl : n ≤ ((bts s).drop P).length := by rw [List.length_drop]; omega
      rw [(takeWhile_take HD.out hnl he).1, List.length_take]
      omega
    have hdr : ((bts s).drop P)[n]? = (bts s)[Q]? := by rw [List.getElem?_drop, hQ]
    cases gk with
    | zero =>
      have hlt : ¬ (Q : Int) < (s.size : Int) := by omega
      have hr := hend (fun c hc => by rw [hdr, List.getElem?_eq_none (by omega)] at hc; cases hc)
      have HR : Hid _ := Lib.hid hr
      clear hr hend hdr HD hn hl
      go_wp2
      go_ret
      exact ⟨by rw [HR.out]; rfl, rfl⟩
    | succ d =>
      have hltQ : Q < s.size := by omega
      have hlt : (Q : Int) < (s.size : Int) := by omega
      obtain ⟨c, hc⟩ : ∃ c, (bts s)[Q]? = some c := ⟨_, List.getElem?_eq_getElem (by omega)⟩
      have hat := bts_ix hc
      rw [hc] at hdr
      by_cases hdc : dg c = true
      · have hb : 48 ≤ c ∧ c ≤ 57 := by simpa [dg] using hdc
        have h1 : (48 : Int) ≤ (c : Int) := by omega
        have h2 : (c : Int) ≤ 57 := by omega
        have hnew : ∀ (i c : Nat), i < n + 1 → ((bts s).drop P)[i]? = some c → dg c = true := fun i c' hi hc' => by
          rcases Nat.lt_or_ge i n with h | h
          · exact HD.out i c' h hc'
          · obtain rfl : i = n := by omega
            rw [hdr] at hc'
            cases hc'
            exact hdc
        have HNEW : Hid _ := Lib.hid hnew
        clear hnew hdc hb HD hend hdr hc
        go_wp2
        go_roundg d
        case rel => exact ⟨n + 1, by go_num, by omega, HNEW.out, rfl⟩
        case measure => omega
      · have hdf : dg c = false := by simpa using hdc
        have hb : ¬ (48 ≤ c ∧ c ≤ 57) := by simpa [dg] using hdf
        have hr := hend (fun c' hc' => by rw [hdr] at hc'; cases hc'; exact hdf)
        have HR : Hid _ := Lib.hid hr
        clear hr hend hdr HD hdc hdf hc
        by_cases h48 : 48 ≤ c
        · have h3 : (48 : Int) ≤ (c : Int) := by omega
          have h4 : ¬ (c : Int) ≤ 57 := by omega
          go_wp2
          go_ret
          exact ⟨by rw [HR.out]; rfl, rfl⟩
        · have h3 : ¬ (48 : Int) ≤ (c : Int) := by omega
          go_wp2
          go_ret
          exact ⟨by rw [HR.out]; rfl, rfl⟩
theorem all_take_succ {L : List Nat} {i c : Nat} (h : L[i]? = some c) : (L.take (i + 1)).all (fun c => c = 48) = ((L.take i).all (fun c => c = 48) && decide (c = 48)) := by
  rw [List.take_add_one, h, List.all_append]
  simp
/-- Round, whatever the exponent -/
def whn (neg : Bool) (L : List Nat) (e : Int) : Nat × Nat :=
  if e < -2000 then (sgn neg 0, 0) else if 2000 < e then (if L.all (fun c => c = 48) then (sgn neg 0, 0) else (0, 8)) else rnd neg L e
theorem scT_whn (neg : Bool) (D : List Nat) (pl : Nat) (exp : List Nat) (low : Bool) :
    scT neg D pl exp low true = if 800 < D.length ∨ 4 < exp.length then (0, 2) else whn neg D ((if low then -(dval exp : Int) else dval exp) - pl) := by
  unfold scT whn
  rw [if_neg (by decide)]
set_option maxHeartbeats 8000000 in
set_option maxRecDepth 100000 in
theorem whence_ref (neg : Bool) (s : ByteArray) (e : Int) (w : World) (hs : s.size ≤ 9223372036854775807) :
    Calls Tryd.prog 30 #[.bool neg, .string s, .int .i64 e] w fun en w' => en = .returned (rndV (whn neg (bts s) e)) ∧ Below w.heap.size w w' := by
  have hl := bts_length s
  have hb0 := Below.refl w.heap.size w
  unfold whn
  by_cases hin : -2000 ≤ e ∧ e ≤ 2000
  · rw [if_neg (by omega), if_neg (by omega)]
    have h1 : -2000 ≤ e := hin.1
    have h2 : e ≤ 2000 := hin.2
    have kr := rround_calls neg s e w
    unfold rndV at kr
    unfold rndV
    generalize rnd neg (bts s) e = R at *
    clear hin
    go_enter Tryd.func30, Tryd.ntmps30
    go_wp2_with (go_at_call 54; (with_reducible refine kr.mono ?_); clear kr; rintro e1 w1 ⟨rfl, hb1⟩)
    go_ret2
    exact ⟨rfl, hb1⟩
  · have ks := fun W => sign_ref neg W
    by_cases e1 : e < -2000
    · rw [if_pos e1]
      have hc1 : ¬ -2000 ≤ e := by omega
      clear hin
      go_enter Tryd.func30, Tryd.ntmps30
      go_wp2
      go_loopg [8, 9] s.size (fun kq v8 v9 wr => ∃ (i : Nat) (B : Bool), v9 = .int .i64 i ∧ i + kq = s.size ∧ v8 = .bool B ∧ Hid (((bts s).take i).all (fun c => c = 48) = B) ∧ wr = w)
      case atStart => exact ⟨0, true, rfl, by omega, rfl, Lib.hid rfl, rfl⟩
      case round =>
        obtain ⟨i, B, rfl, hi, rfl, HB, rfl⟩ := hrel
        cases gk with
        | zero =>
          obtain rfl : i = s.size := by omega
          have hB := HB.out
          rw [List.take_of_length_le (by omega)] at hB
          clear hB HB hl
          go_wp2_with (go_at_call 55; (with_reducible refine (ks _).mono ?_); clear ks; rintro e2 w2 ⟨rfl, rfl⟩)
          go_ret2
          exact ⟨rfl, hb0⟩
        | succ d =>
          obtain ⟨c, hc⟩ : ∃ c, (bts s)[i]? = some c := ⟨_, List.getElem?_eq_getElem (by omega)⟩
          have hat := bts_ix hc
          have hi1 : (i : Int) < (s.size : Int) := by omega
          have hnew := all_take_succ hc
          rw [HB.out] at hnew
          cases B with
          | false =>
            have HN : Hid _ := Lib.hid hnew
            clear hnew hc HB hl
            go_wp2
            go_roundg d
            case rel => exact ⟨i + 1, false, by go_num, by omega, rfl, HN, rfl⟩
            case measure => omega
          | true =>
            by_cases h48 : c = 48
            · subst h48
              have HN : Hid _ := Lib.hid hnew
              clear hnew hc HB hl
              go_wp2
              go_roundg d
              case rel => exact ⟨i + 1, true, by go_num, by omega, rfl, HN, rfl⟩
              case measure => omega
            · have hcf : ((c : Int) == 48) = false := beq_eq_false_iff_ne.2 (by omega)
              rw [decide_eq_false h48] at hnew
              have HN : Hid _ := Lib.hid hnew
              clear hnew hc HB hl h48
              go_wp2
              go_roundg d
              case rel => exact ⟨i + 1, false, by go_num, by omega, rfl, HN, rfl⟩
              case measure => omega
    · rw [if_neg e1]
      have e2 : 2000 < e := by omega
      rw [if_pos e2]
      obtain ⟨RV, hRV⟩ : ∃ RV : Nat × Nat, (if (bts s).all (fun c => c = 48) then (sgn neg 0, 0) else (0, 8)) = RV := ⟨_, rfl⟩
      rw [hRV]
      have HRV : Hid _ := Lib.hid hRV
      clear hRV
      have hc1 : -2000 ≤ e := by omega
      have hc2 : ¬ e ≤ 2000 := by omega
      clear hin
      go_enter Tryd.func30, Tryd.ntmps30
      go_wp2
      go_loopg [8, 9] s.size (fun kq v8 v9 wr => ∃ (i : Nat) (B : Bool), v9 = .int .i64 i ∧ i + kq = s.size ∧ v8 = .bool B ∧ Hid (((bts s).take i).all (fun c => c = 48) = B) ∧ wr = w)
      case atStart => exact ⟨0, true, rfl, by omega, rfl, Lib.hid rfl, rfl⟩
      case round =>
        obtain ⟨i, B, rfl, hi, rfl, HB, rfl⟩ := hrel
        cases gk with
        | zero =>
          obtain rfl : i = s.size := by omega
          have hB := HB.out
          rw [List.take_of_length_le (by omega)] at hB
          clear HB hl
          cases B with
          | true =>
            have hR := HRV.out
            rw [if_pos hB] at hR
            have HR : Hid _ := Lib.hid hR
            clear hR hB HRV
            go_wp2_with (go_at_call 55; (with_reducible refine (ks _).mono ?_); clear ks; rintro e2 w2 ⟨rfl, rfl⟩)
            go_ret2
            exact ⟨by rw [← HR.out]; rfl, hb0⟩
          | false =>
            have hR := HRV.out
            rw [if_neg (by rw [hB]; decide)] at hR
            have HR : Hid _ := Lib.hid hR
            clear hR hB HRV
            go_wp2_with fail
            go_ret2
            exact ⟨by rw [← HR.out]; rfl, hb0⟩
        | succ d =>
          obtain ⟨c, hc⟩ : ∃ c, (bts s)[i]? = some c := ⟨_, List.getElem?_eq_getElem (by omega)⟩
          have hat := bts_ix hc
          have hi1 : (i : Int) < (s.size : Int) := by omega
          have hnew := all_take_succ hc
          rw [HB.out] at hnew
          cases B with
          | false =>
            have HN : Hid _ := Lib.hid hnew
            clear hnew hc HB hl
            go_wp2
            go_roundg d
            case rel => exact ⟨i + 1, false, by go_num, by omega, rfl, HN, rfl⟩
            case measure => omega
          | true =>
            by_cases h48 : c = 48
            · subst h48
              have HN : Hid _ := Lib.hid hnew
              clear hnew hc HB hl
              go_wp2
              go_roundg d
              case rel => exact ⟨i + 1, true, by go_num, by omega, rfl, HN, rfl⟩
              case measure => omega
            · have hcf : ((c : Int) == 48) = false := beq_eq_false_iff_ne.2 (by omega)
              rw [decide_eq_false h48] at hnew
              have HN : Hid _ := Lib.hid hnew
              clear hnew hc HB hl h48
              go_wp2
              go_roundg d
              case rel => exact ⟨i + 1, false, by go_num, by omega, rfl, HN, rfl⟩
              case measure => omega
end Go.Proofs.YtffncomekbfihaaDoor.Nat
