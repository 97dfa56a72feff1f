/- fdec.Scan. -/
import Derived.Test.YtffncomekbfihaaGreatDoorScanM
import Derived.Deep.CutBlock
import Derived.Deep.DeepCutAuto
namespace Go.Proofs.YtffncomekbfihaaGreatDoor.Nat
open Go.RowKit Go.Shelf
set_option linter.unusedVariables false
theorem sgc_len (S L : List Nat) : (sgc S L).2.length ≤ L.length := by
  cases L with
  | nil => exact Nat.le_refl _
  | cons c r =>
    by_cases h : c ∈ S
    · rw [sgc_pos h]; simp
    · rw [sgc_neg h]; exact Nat.le_refl _
theorem bt_new (w : World) (s : ByteArray) : BT (w.alloc (.cells #[.string s] 139)) w.heap.size s := ⟨heap_alloc_new w _⟩
theorem emp_len {d : ByteArray} {L : List Nat} (h : bts d = L) : (!d.toList.isEmpty) = decide (L.length ≠ 0) := by
  rw [← h, bts_length]
  by_cases hs : d.size = 0
  · rw [empty_of hs, hs]; rfl
  · rw [full_of hs]; simp [hs]
theorem scB_pos {r : List Nat} (h : (sgc [46] r).1 ≠ 0) : scB r = (decide (((sgc [46] r).2.takeWhile dg).length ≠ 0), (sgc [46] r).2.takeWhile dg, (sgc [46] r).2.dropWhile dg) := if_pos h
theorem scB_neg {r : List Nat} (h : (sgc [46] r).1 = 0) : scB r = (true, [], (sgc [46] r).2) := if_neg (by omega)
theorem scC_pos {r : List Nat} (h : (sgc [101, 69] r).1 ≠ 0) : scC r = (decide (((sgc [43, 45] (sgc [101, 69] r).2).2.takeWhile dg).length ≠ 0), (sgc [43, 45] (sgc [101, 69] r).2).2.takeWhile dg, decide ((sgc [43, 45] (sgc [101, 69] r).2).1 = 45), (sgc [43, 45] (sgc [101, 69] r).2).2.dropWhile dg) := if_pos h
theorem scC_neg {r : List Nat} (h : (sgc [101, 69] r).1 = 0) : scC r = (true, [], false, (sgc [101, 69] r).2) := if_neg (by omega)
theorem take_len (L : List Nat) : (L.takeWhile dg).length ≤ L.length := (List.takeWhile_sublist _).length_le
theorem drop_len (L : List Nat) : (L.dropWhile dg).length ≤ L.length := (List.dropWhile_sublist _).length_le
theorem scB_len (r : List Nat) : (scB r).2.1.length ≤ r.length ∧ (scB r).2.2.length ≤ r.length := by
  have h1 := sgc_len [46] r
  have h2 := take_len (sgc [46] r).2
  have h3 := drop_len (sgc [46] r).2
  by_cases h : (sgc [46] r).1 = 0
  · rw [scB_neg h]; exact ⟨Nat.zero_le _, h1⟩
  · rw [scB_pos h]; exact ⟨Nat.le_trans h2 h1, Nat.le_trans h3 h1⟩
theorem scC_len (r : List Nat) : (scC r).2.1.length ≤ r.length := by
  have h1 := sgc_len [101, 69] r
  have h2 := sgc_len [43, 45] (sgc [101, 69] r).2
  have h3 := take_len (sgc [43, 45] (sgc [101, 69] r).2).2
  by_cases h : (sgc [101, 69] r).1 = 0
  · rw [scC_neg h]; exact Nat.zero_le _
  · rw [scC_pos h]; exact Nat.le_trans h3 (Nat.le_trans h2 h1)
set_option maxHeartbeats 16000000 in
set_option maxRecDepth 100000 in
theorem scan_calls (s : ByteArray) (w : World) (hs : s.size ≤ 9223372036854775807) :
    Calls Tryz.prog 37 #[.string s] w fun e w' => e = .returned (rndV (sc (bts s))) ∧ Below w.heap.size w w' := by
  have hb0 := below_alloc w (.cells #[.string s] 139)
  have hT0 := bt_new w s
  obtain ⟨g, hg⟩ : ∃ g, w.heap.size = g := ⟨_, rfl⟩
  rw [hg] at hb0 hT0
  have k45 : ∀ t W, BT W g t → Calls Tryz.prog 84 #[.pointer (some ⟨g, 0, none⟩), .string ⟨#[45]⟩] W fun e w' => e = .returned (.int .u8 ((sgc [45] (bts t)).1 : Nat)) ∧ ∃ t', bts t' = (sgc [45] (bts t)).2 ∧ BT w' g t' ∧ Below g W w' := fun t W hT => sign_calls g t ⟨#[45]⟩ W hT
  have k46 : ∀ t W, BT W g t → Calls Tryz.prog 84 #[.pointer (some ⟨g, 0, none⟩), .string ⟨#[46]⟩] W fun e w' => e = .returned (.int .u8 ((sgc [46] (bts t)).1 : Nat)) ∧ ∃ t', bts t' = (sgc [46] (bts t)).2 ∧ BT w' g t' ∧ Below g W w' := fun t W hT => sign_calls g t ⟨#[46]⟩ W hT
  have k2 := fun t W hT hs => digs_calls g t W hT hs
  have hsl := bts_length s
  go_enter Tryz.func37, Tryz.ntmps37
  go_upto_if 25 with (first
    | (go_at_call 84; (with_reducible refine (k45 _ _ hT0).mono ?_); clear k45; rintro e1 w1 ⟨rfl, t1, ht1, hT1, hb1⟩; have hc1 : (sgc [45] (bts s)).2.length ≤ s.size := Nat.le_trans (sgc_len _ _) (by omega); have hz1 := bts_length t1; rw [ht1] at hz1)
    | (go_at_call 85; (with_reducible refine (k2 _ _ hT1 (by omega)).mono ?_); rintro e2 w2 ⟨d0, rfl, hd0, t2, ht2, hT2, hb2⟩)
    | (go_at_call 84; (with_reducible refine (k46 _ _ hT2).mono ?_); clear k46; rintro e3 w3 ⟨rfl, t3, ht3, hT3, hb3⟩))
  have hd0e := emp_len hd0
  have hzd0 := bts_length d0
  have hzt2 := bts_length t2
  have ht2l := drop_len (sgc [45] (bts s)).2
  have ht1l := take_len (sgc [45] (bts s)).2
  have htd : ((sgc [45] (bts s)).2.takeWhile dg).length + ((sgc [45] (bts s)).2.dropWhile dg).length = (sgc [45] (bts s)).2.length := by rw [← List.length_append, List.takeWhile_append_dropWhile]
  rw [hd0] at hzd0
  rw [ht2] at hzt2
  rw [ht1] at hd0 ht2
  rw [ht1] at hzd0 hzt2 hd0e
  rw [ht2] at ht3
  generalize hN1 : (sgc [45] (bts s)).1 = N1 at *
  generalize hL1 : (sgc [45] (bts s)).2 = L1 at *
  generalize hR : L1.dropWhile dg = r at *
  generalize hD0 : L1.takeWhile dg = D0 at *
  generalize hf0 : (!d0.toList.isEmpty) = f0 at *
  have HE : Hid _ := Lib.hid (And.intro hN1 (And.intro hL1 (And.intro hR (And.intro hD0 (And.intro hd0e hd0)))))
  have hrs : r.length ≤ s.size := by omega
  have hds : d0.size ≤ s.size := by omega
  have hdr : d0.size + r.length ≤ s.size := by omega
  clear htd
  have hbA := ((hb0.trans hb1).trans hb2).trans hb3
  clear hN1 hL1 hR hD0 hd0 hd0e hf0 ht1 hc1 hz1 ht2 hzt2 ht2l hzd0 ht1l hT0 hT1 hT2 hb0 hb1 hb2 hb3
  go_cut [7, 8] (fun v7 v8 wx => ∃ part t4, v7 = .bool (f0 && (scB r).1) ∧ v8 = .string part ∧ bts part = (scB r).2.1 ∧ bts t4 = (scB r).2.2 ∧ BT wx g t4 ∧ Below g w wx)
  case first =>
    have hl3 := bts_length t3
    have hl3' := sgc_len [46] r
    by_cases hc2 : (sgc [46] r).1 = 0
    · have hB := scB_neg hc2
      rw [hc2]
      have HB : Hid _ := Lib.hid hB
      clear hB hc2
      go_wp2
      go_meet
      case rel => exact ⟨⟨#[]⟩, t3, by rw [HB.out]; simp, rfl, by rw [HB.out]; rfl, by rw [HB.out]; exact ht3, hT3, hbA⟩
    · have hB := scB_pos hc2
      have hcI : ¬ (((sgc [46] r).1 : Nat) : Int) = 0 := by omega
      have k3 := k2 t3 w3 hT3 (by rw [ht3] at hl3; omega)
      have HB : Hid _ := Lib.hid hB
      clear hB hc2
      generalize (sgc [46] r).1 = c2 at *
      cases f0 with
      | true =>
        go_wp2_with (go_at_call 85; (with_reducible refine k3.mono ?_); clear k3; rintro e4 w4 ⟨part, rfl, hpt, t4, ht4, hT4, hb4⟩)
        go_meet
        case rel => exact ⟨part, t4, by rw [HB.out, emp_len hpt, ht3]; simp, rfl, by rw [HB.out, hpt, ht3], by rw [HB.out, ht4, ht3], hT4, hbA.trans hb4⟩
      | false =>
        go_wp2_with (go_at_call 85; (with_reducible refine k3.mono ?_); clear k3; rintro e4 w4 ⟨part, rfl, hpt, t4, ht4, hT4, hb4⟩)
        go_meet
        case rel => exact ⟨part, t4, rfl, rfl, by rw [HB.out, hpt, ht3], by rw [HB.out, ht4, ht3], hT4, hbA.trans hb4⟩
  case rest =>
    obtain ⟨part, t4, rfl, rfl, hpt, ht4, hT4, hbB⟩ := hcut
    have hBl := scB_len r
    generalize hf1 : (f0 && (scB r).1) = f1 at *
    generalize hPL : (scB r).2.1 = PL at *
    generalize hR2 : (scB r).2.2 = r2 at *
    have HE2 : Hid _ := Lib.hid (And.intro hf1 (And.intro hPL hR2))
    have hzp := bts_length part
    rw [hpt] at hzp
    have hps : part.size ≤ s.size := by omega
    have hdp : d0.size + part.size ≤ s.size := by omega
    clear hdr
    have hr2s : r2.length ≤ s.size := by omega
    have HPT : Hid _ := Lib.hid hpt
    have kE : ∀ t W, BT W g t → Calls Tryz.prog 84 #[.pointer (some ⟨g, 0, none⟩), .string ⟨#[101, 69]⟩] W fun e w' => e = .returned (.int .u8 ((sgc [101, 69] (bts t)).1 : Nat)) ∧ ∃ t', bts t' = (sgc [101, 69] (bts t)).2 ∧ BT w' g t' ∧ Below g W w' := fun t W hT => sign_calls g t ⟨#[101, 69]⟩ W hT
    have kS : ∀ t W, BT W g t → Calls Tryz.prog 84 #[.pointer (some ⟨g, 0, none⟩), .string ⟨#[43, 45]⟩] W fun e w' => e = .returned (.int .u8 ((sgc [43, 45] (bts t)).1 : Nat)) ∧ ∃ t', bts t' = (sgc [43, 45] (bts t)).2 ∧ BT w' g t' ∧ Below g W w' := fun t W hT => sign_calls g t ⟨#[43, 45]⟩ W hT
    clear hf1 hPL hR2 hpt hzp hBl hrs ht3 hT3 hbA
    go_upto_if 35 with (go_at_call 84; (with_reducible refine (kE _ _ hT4).mono ?_); clear kE; rintro e5 w5 ⟨rfl, t5, ht5, hT5, hb5⟩; rw [ht4] at ht5; rw [ht4])
    have hbC := hbB.trans hb5
    go_cut [7, 9, 10] (fun v7 v9 v10 wx => ∃ exp t6, v7 = .bool (f1 && (scC r2).1) ∧ v9 = .string exp ∧ bts exp = (scC r2).2.1 ∧ v10 = .bool (scC r2).2.2.1 ∧ bts t6 = (scC r2).2.2.2 ∧ BT wx g t6 ∧ Below g w wx)
    case first =>
      have hl5 := bts_length t5
      have hl5' := sgc_len [101, 69] r2
      by_cases hc3 : (sgc [101, 69] r2).1 = 0
      · have hC := scC_neg hc3
        rw [hc3]
        have HC : Hid _ := Lib.hid hC
        clear hC hc3
        go_wp2
        go_meet
        case rel => exact ⟨⟨#[]⟩, t5, by rw [HC.out]; simp, rfl, by rw [HC.out]; rfl, by rw [HC.out], by rw [HC.out]; exact ht5, hT5, hbC⟩
      · have hC := scC_pos hc3
        have hcI : ¬ (((sgc [101, 69] r2).1 : Nat) : Int) = 0 := by omega
        have k6 := kS t5 w5 hT5
        rw [ht5] at k6 hl5
        have hl6' := sgc_len [43, 45] (sgc [101, 69] r2).2
        generalize (sgc [101, 69] r2).1 = c3 at *
        generalize (sgc [101, 69] r2).2 = L5 at *
        have h45 : ((((sgc [43, 45] L5).1 : Nat) : Int) == 45) = decide ((sgc [43, 45] L5).1 = 45) := by
          rw [Bool.eq_iff_iff, beq_iff_eq, decide_eq_true_iff]; omega
        have HC : Hid _ := Lib.hid hC
        clear hC hc3
        generalize (sgc [43, 45] L5).1 = c4 at *
        generalize hLW : decide (c4 = 45) = lw at *
        cases f1 with
        | true =>
          go_wp2_with (first
            | (go_at_call 84; (with_reducible refine k6.mono ?_); clear k6; rintro e6 w6 ⟨rfl, t7, ht7, hT7, hb6⟩; have hz7 := bts_length t7; rw [ht7] at hz7; have k7 := k2 t7 w6 hT7 (by omega))
            | (go_at_call 85; (with_reducible refine k7.mono ?_); clear k7; rintro e8 w8 ⟨exp, rfl, hex, t8, ht8, hT8, hb8⟩))
          go_meet
          case rel => exact ⟨exp, t8, by rw [HC.out, emp_len hex, ht7]; simp, rfl, by rw [HC.out, hex, ht7], by rw [HC.out], by rw [HC.out, ht8, ht7], hT8, (hbC.trans hb6).trans hb8⟩
        | false =>
          go_wp2_with (first
            | (go_at_call 84; (with_reducible refine k6.mono ?_); clear k6; rintro e6 w6 ⟨rfl, t7, ht7, hT7, hb6⟩; have hz7 := bts_length t7; rw [ht7] at hz7; have k7 := k2 t7 w6 hT7 (by omega))
            | (go_at_call 85; (with_reducible refine k7.mono ?_); clear k7; rintro e8 w8 ⟨exp, rfl, hex, t8, ht8, hT8, hb8⟩))
          go_meet
          case rel => exact ⟨exp, t8, rfl, rfl, by rw [HC.out, hex, ht7], by rw [HC.out], by rw [HC.out, ht8, ht7], hT8, (hbC.trans hb6).trans hb8⟩
    case rest =>
      obtain ⟨exp, t6, rfl, rfl, hex, rfl, ht6, hT6, hbD⟩ := hcut
      have hCl := scC_len r2
      have hbDw : Below w.heap.size w wc := by rw [hg]; exact hbD
      have hD : bts (d0 ++ part) = (sgc [45] (bts s)).2.takeWhile dg ++ (scB ((sgc [45] (bts s)).2.dropWhile dg)).2.1 := by
        rw [bts_append, HPT.out, HE.out.2.2.2.2.2]
        obtain ⟨h1, h2, h3, h4, _, _⟩ := HE.out
        rw [h2, h4, h3, HE2.out.2.1]
      have hDexp : Dgs (scC r2).2.1 := by
        by_cases hc3 : (sgc [101, 69] r2).1 = 0
        · rw [scC_neg hc3]; intro c hc; cases hc
        · rw [scC_pos hc3]; exact takeWhile_dgs _
      have hSC : sc (bts s) = scT (((N1 : Nat) : Int) != 0) (bts (d0 ++ part)) part.size (scC r2).2.1 (scC r2).2.2.1 (f1 && (scC r2).1 && decide ((scC r2).2.2.2.length = 0)) := by
        obtain ⟨h1, h2, h3, h4, h5, _⟩ := HE.out
        obtain ⟨g1, g2, g3⟩ := HE2.out
        have hp := bts_length part
        rw [HPT.out] at hp
        unfold sc
        rw [hD, h1, h2, h3, h4, g2, g3, hp, ← g1, h5]
        congr 1
        rw [Bool.eq_iff_iff]
        simp
      clear hD
      generalize hf2 : (f1 && (scC r2).1) = f2 at *
      have hfd : f2 = true → d0.size ≠ 0 := fun q => by
        rw [← hf2] at q
        have q1 : f1 = true := (Bool.and_eq_true_iff.1 q).1
        rw [← HE2.out.1] at q1
        have q2 : f0 = true := (Bool.and_eq_true_iff.1 q1).1
        obtain ⟨_, _, _, _, h5, h6⟩ := HE.out
        rw [q2] at h5
        have h7 := of_decide_eq_true h5.symm
        have h8 := bts_length d0
        rw [h6] at h8
        omega
      have HFD : Hid _ := Lib.hid hfd
      clear hfd
      generalize (scC r2).2.1 = EX at *
      generalize (scC r2).2.2.1 = low at *
      generalize (scC r2).2.2.2 = R3 at *
      have HSC : Hid _ := Lib.hid hSC
      have HDE : Hid _ := Lib.hid hDexp
      have hzd := bts_length (d0 ++ part)
      have hze := bts_length exp
      have hz6 := bts_length t6
      rw [hex] at hze
      rw [ht6] at hz6
      have q0 := hT6.c0
      clear hSC hDexp hf2 ht5 hT5 hbC hbB hT4 ht4
      generalize hng : (((N1 : Nat) : Int) != 0) = ng at *
      have hds2 : (d0 ++ part).size = d0.size + part.size := ByteArray.size_append
      cases f2 with
      | false =>
        have hres : sc (bts s) = (0, 4) := by rw [HSC.out]; rfl
        have HRES : Hid _ := Lib.hid hres
        clear hres
        go_wp2
        go_ret2
        first | exact ⟨by rw [HRES.out]; rfl, hbDw⟩ | exact ⟨by rw [HRES.out]; rfl, hbD⟩
      | true =>
        by_cases hR3 : R3.length = 0
        case neg =>
          have hful := full_of (t := t6) (by omega)
          have hres : sc (bts s) = (0, 4) := by rw [HSC.out, decide_eq_false hR3]; rfl
          have HRES : Hid _ := Lib.hid hres
          clear hres
          go_wp2
          go_ret2
          first | exact ⟨by rw [HRES.out]; rfl, hbDw⟩ | exact ⟨by rw [HRES.out]; rfl, hbD⟩
        case pos =>
          have hemp := empty_of (t := t6) (by omega)
          have hres : sc (bts s) = scT ng (bts (d0 ++ part)) part.size EX low true := by rw [HSC.out, decide_eq_true hR3]; rfl
          unfold scT at hres
          rw [if_neg (by decide)] at hres
          by_cases hlong : 800 < (bts (d0 ++ part)).length ∨ 4 < EX.length
          · rw [if_pos hlong] at hres
            have HRES : Hid _ := Lib.hid hres
            clear hres
            by_cases h800 : 800 < (d0 ++ part).size
            · have h8 : (800 : Int) < ((d0 ++ part).size : Int) := by omega
              go_wp2
              go_ret2
              first | exact ⟨by rw [HRES.out]; rfl, hbDw⟩ | exact ⟨by rw [HRES.out]; rfl, hbD⟩
            · have h8 : ¬ (800 : Int) < ((d0 ++ part).size : Int) := by omega
              have h4 : (4 : Int) < (exp.size : Int) := by omega
              go_wp2
              go_ret2
              first | exact ⟨by rw [HRES.out]; rfl, hbDw⟩ | exact ⟨by rw [HRES.out]; rfl, hbD⟩
          · rw [if_neg hlong] at hres
            have h8 : ¬ (800 : Int) < ((d0 ++ part).size : Int) := by omega
            have h4 : ¬ (4 : Int) < (exp.size : Int) := by omega
            have hat := atoi_zero (t := exp) (by rw [hex]; exact HDE.out)
            rw [hex] at hat
            have hv4 : dval EX < 10 ^ EX.length := dval_lt HDE.out
            have hv5 : 10 ^ EX.length ≤ 10 ^ 4 := Nat.pow_le_pow_right (by decide) (by omega)
            have ka := fun W => Tryz.strconv_Atoi ((⟨#[48]⟩ : ByteArray) ++ exp) (dval EX : Int) (by rw [ByteArray.size_append]; show 1 + exp.size ≤ 18; omega) hat W
            have hv9 : dval EX < 10000 := Nat.lt_of_lt_of_le hv4 (Nat.le_trans hv5 (by decide))
            clear hv4 hv5
            generalize dval EX = v at *
            generalize hDD : d0 ++ part = D at *
            have HRES : Hid _ := Lib.hid hres
            clear hres hat hlong hR3 HSC
            go_upto_if 74 with (go_at_call 86; (with_reducible refine (ka _).mono ?_); clear ka; rintro e9 w9 ⟨rfl, tb, rfl⟩; have hbE := bytes_below' hbDw hbDw.size 5 tb)
            generalize Lib.bytesWorld wc 5 tb = w9 at hbE ⊢
            obtain ⟨el, hel⟩ : ∃ el : Int, (if low = true then -(v : Int) else (v : Int)) = el := ⟨_, rfl⟩
            rw [hel] at HRES
            have hel1 : -10000 ≤ el ∧ el ≤ 10000 := by rw [← hel]; split <;> omega
            go_cut [11] (fun v11 wx => v11 = .int .i64 el ∧ wx = w9)
            case first =>
              cases low with
              | true =>
                have hwv : IntKind.i64.wrap (-(v : Int)) = el := by rw [IntKind.wrap_i64]; simp at hel; omega
                clear hel
                go_wp2
                go_meet
                case rel => exact ⟨rfl, rfl⟩
              | false =>
                have hev : (v : Int) = el := by simpa using hel
                rw [hev]
                clear hel
                go_wp2
                go_meet
                case rel => exact ⟨rfl, rfl⟩
            case rest =>
              obtain ⟨rfl, rfl⟩ := hcut
              have hbEw := hbE
              have hw1 : IntKind.i64.wrap (el - (part.size : Int)) = el - (part.size : Int) := by rw [IntKind.wrap_i64]; omega
              have ksg : ∀ W, Calls Tryz.prog 63 #[.bool ng, .int .u64 0] W fun e w' => e = .returned (.int .u64 (sgn ng 0 : Nat)) ∧ Below W.heap.size W w' := fun W => signed_calls ng 0 W (by decide)
              have hDl : D.size ≤ 800 := by omega
              by_cases e1 : el - (part.size : Int) < -2000
              · rw [if_pos e1] at HRES
                go_wp2_with (go_at_call 63; (with_reducible refine (ksg _).mono ?_); clear ksg; rintro ea wa ⟨rfl, hba⟩)
                go_ret2
                first | exact ⟨by rw [HRES.out]; rfl, below_step hbEw hba⟩ | (rw [← hg]; exact ⟨by rw [HRES.out]; rfl, below_step hbEw hba⟩)
              · rw [if_neg e1] at HRES
                by_cases e2 : 2000 < el - (part.size : Int)
                · rw [if_pos e2] at HRES
                  have hD0 : D.size ≠ 0 := by have := HFD.out (by first | rfl | trivial); omega
                  have kno := fun W => nought_calls D W (by omega) hD0
                  cases hall : (bts D).all (fun c => c = 48) with
                  | true =>
                    rw [hall] at kno HRES
                    rw [if_pos rfl] at HRES
                    clear hall
                    go_wp2_with (first
                      | (go_at_call 87; (with_reducible refine (kno _).mono ?_); clear kno; rintro ea wa ⟨rfl, hba⟩)
                      | (go_at_call 63; (with_reducible refine (ksg _).mono ?_); clear ksg; rintro ec wd ⟨rfl, hbd⟩))
                    go_ret2
                    first | exact ⟨by rw [HRES.out]; rfl, below_step (below_step hbEw hba) hbd⟩ | (rw [← hg]; exact ⟨by rw [HRES.out]; rfl, below_step (below_step hbEw hba) hbd⟩)
                  | false =>
                    rw [hall] at kno HRES
                    rw [if_neg (by decide)] at HRES
                    clear hall
                    go_wp2_with (first
                      | (go_at_call 87; (with_reducible refine (kno _).mono ?_); clear kno; rintro ea wa ⟨rfl, hba⟩))
                    go_ret2
                    first | exact ⟨by rw [HRES.out]; rfl, below_step hbEw hba⟩ | (rw [← hg]; exact ⟨by rw [HRES.out]; rfl, below_step hbEw hba⟩)
                · rw [if_neg e2] at HRES
                  have kro := fun W => round_calls ng D (el - (part.size : Int)) W
                  obtain ⟨X1, g1, hr1⟩ : ∃ X1 g1, rnd ng (bts D) (el - (part.size : Int)) = (X1, g1) := ⟨_, _, rfl⟩
                  rw [hr1] at kro HRES
                  rw [show rndV (X1, g1) = .tuple #[.int .u64 (X1 : Int), .int .i64 (g1 : Int)] from rfl] at kro
                  clear hr1
                  go_wp2_with (first
                    | (go_at_call 25; (with_reducible refine (kro _).mono ?_); clear kro; rintro ea wa ⟨rfl, hba⟩))
                  go_ret2
                  first | exact ⟨by rw [HRES.out]; rfl, below_step hbEw hba⟩ | (rw [← hg]; exact ⟨by rw [HRES.out]; rfl, below_step hbEw hba⟩)
end Go.Proofs.YtffncomekbfihaaGreatDoor.Nat
