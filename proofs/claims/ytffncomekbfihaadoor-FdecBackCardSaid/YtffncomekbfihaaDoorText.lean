/- fdec.Text. -/
import Derived.Test.YtffncomekbfihaaDoorBackPure
import Derived.Lib.AppendIntMem
import Derived.Deep.CutBlock
import Derived.Deep.DeepCutAuto
namespace Go.Proofs.YtffncomekbfihaaDoor.Nat
open Go.RowKit Go.Shelf
set_option linter.unusedVariables false
/-- digits and an exponent that some finite bits have -/
def Digs (x : Nat) (d : List Nat) (e : Int) : Prop := (exM x = 0 ∧ d = [48] ∧ e = 0) ∨ (exM x ≠ 0 ∧ ∃ p, d = dec p ∧ Short x p e)
theorem digs_len {x : Nat} {d : List Nat} {e : Int} (h : Digs x d e) : 1 ≤ d.length ∧ d.length ≤ 17 ∧ -1000 ≤ e ∧ e ≤ 1000 := by
  rcases h with ⟨_, rfl, rfl⟩ | ⟨_, p, rfl, hS⟩
  · exact ⟨by decide, by decide, by decide, by decide⟩
  · obtain ⟨_, _, hp, h1, h2, _⟩ := hS
    have := dec_ne p
    exact ⟨by omega, dec_le hp (by decide), h1, h2⟩
theorem short_any (x : Nat) (w : World) (hx : x < 18446744073709551616) (h : fe x ≠ 2047) :
    Calls Tryd.prog 14 #[.int .u64 (x : Int)] w fun en w' => ∃ (s : ByteArray) (e : Int), en = .returned (.tuple #[.string s, .int .i64 e, .int .i64 0]) ∧ Digs x (bts s) e ∧ Below w.heap.size w w' := by
  by_cases h0 : exM x = 0
  · refine (shortest_zero x w hx h h0).mono ?_
    rintro e w' ⟨rfl, hb⟩
    exact ⟨_, _, rfl, .inl ⟨h0, rfl, rfl⟩, hb⟩
  · refine (shortest_calls x w hx h h0).mono ?_
    rintro en w' ⟨s, p, z, n, t, hi, rfl, hs, ht, hp, hz, hf, h1, h2, hb⟩
    exact ⟨_, _, rfl, .inr ⟨h0, p, hs, found_short h h0 hf h1 h2 ht hp hz⟩, hb⟩
theorem digs_back {x : Nat} {d : List Nat} {e : Int} (hx : x < 18446744073709551616) (h : fe x ≠ 2047) (hd : Digs x d e) : sc (sgl x ++ lay d e) = (x, 0) := by
  have hs : sgl x = sgn45 (decide (x / 9223372036854775808 = 1)) := by
    unfold sgl sgn45
    simp
  rw [hs]
  rcases hd with ⟨h0, rfl, rfl⟩ | ⟨h0, p, rfl, hS⟩
  · refine lay_zero hx rfl ?_
    unfold exM fe ff at h0
    unfold fe at h
    split at h0 <;> omega
  · obtain ⟨b1, b2⟩ := bits_fin h h0
    exact lay_back hx rfl b1 b2 hS
theorem digs_round {x : Nat} {d : List Nat} {e : Int} (hx : x < 18446744073709551616) (h : fe x ≠ 2047) (hd : Digs x d e) : rnd (decide (x / 9223372036854775808 = 1)) d e = (x, 0) := by
  rcases hd with ⟨h0, rfl, rfl⟩ | ⟨h0, p, rfl, hS⟩
  · apply rnd_unsign hx
    have : x % 9223372036854775808 = 0 := by
      unfold exM fe ff at h0
      unfold fe at h
      split at h0 <;> omega
    rw [this]
    decide +kernel
  · obtain ⟨_, _, _, _, _, hh, _⟩ := hS
    exact rnd_unsign hx hh
theorem itoN_len {k : Int} (h1 : -9999 ≤ k) (h2 : k ≤ 9999) : (itoN k).length ≤ 5 := by
  have h3 : (dec k.natAbs).length ≤ 4 := dec_le (n := 4) (by omega) (by decide)
  have h4 : (dec k.toNat).length ≤ 4 := dec_le (n := 4) (by omega) (by decide)
  unfold itoN
  split
  · rw [List.length_cons]; omega
  · omega
set_option maxHeartbeats 16000000 in
set_option maxRecDepth 100000 in
theorem text_calls (x : Nat) (w : World) (hx : x < 18446744073709551616) (h : fe x ≠ 2047) (T : Lib.TabIs Tryd.prog w "internal/strconv.uint64pow10" .u64 Lib.pow10Tab) :
    Calls Tryd.prog 16 #[.int .u64 (x : Int)] w fun en w' => ∃ (S : ByteArray) (d : List Nat) (e : Int), en = .returned (.tuple #[.string S, .int .i64 0]) ∧ bts S = sgl x ++ lay d e ∧ Digs x d e ∧ Below w.heap.size w w' := by
  have k1 := short_any x w hx h
  have hand := and_sign hx
  obtain ⟨AS, hAS⟩ : ∃ AS, x / 9223372036854775808 * 9223372036854775808 = AS := ⟨_, rfl⟩
  rw [hAS] at hand
  have HAS : Hid _ := Lib.hid hAS
  clear hAS
  have kI := fun n h0 h1 W (hb : Below w.heap.size w W) => Tryd.strconv_Itoa n h0 h1 W (Lib.tabBelow_of_tabIs T W hb)
  have kR := fun c W hc hl => Tryd.strings_Repeat ⟨#[48]⟩ c W hc hl
  clear T
  go_enter Tryd.func16, Tryd.ntmps16
  go_upto_if 20 with (go_at_call 14; (with_reducible refine k1.mono ?_); clear k1; rintro e1 w1 ⟨sD, e, rfl, hD, hb1⟩)
  obtain ⟨l1, l2, l3, l4⟩ := digs_len hD
  have hzd := bts_length sD
  have HD : Hid _ := Lib.hid hD
  clear hD
  go_cut [7] (fun v7 wx => ∃ s0, v7 = .string s0 ∧ bts s0 = sgl x ∧ wx = w1)
  case first =>
    go_wp2
    · rename_i hq
      have hn : x / 9223372036854775808 = 1 := by
        have h1 := HAS.out
        simp at hq
        omega
      have hs : sgl x = [45] := if_pos hn
      go_meet
      case rel => exact ⟨_, rfl, by rw [hs]; rfl, rfl⟩
    · rename_i hq
      have hn : ¬ x / 9223372036854775808 = 1 := by
        have h1 := HAS.out
        simp at hq
        omega
      have hs : sgl x = [] := if_neg hn
      go_meet
      case rel => exact ⟨⟨#[]⟩, rfl, by rw [hs]; rfl, rfl⟩
  case rest =>
    obtain ⟨s0, rfl, hs0, rfl⟩ := hcut
    have hz0 : s0.size ≤ 1 := by
      have h1 := bts_length s0
      rw [hs0] at h1
      unfold sgl at h1
      split at h1 <;> simp at h1 <;> omega
    have Hs0 : Hid _ := Lib.hid hs0
    clear hs0 hand
    obtain ⟨d, hd⟩ : ∃ d, bts sD = d := ⟨_, rfl⟩
    rw [hd] at l1 l2 hzd HD
    have Hd : Hid _ := Lib.hid hd
    clear hd
    by_cases c1 : (d.length : Int) + e < -5 ∨ 21 < (d.length : Int) + e
    · obtain ⟨P, hP⟩ : ∃ P : Int, (d.length : Int) + e = P := ⟨_, rfl⟩
      have hwP : IntKind.i64.wrap ((sD.size : Int) + e) = P := by rw [IntKind.wrap_i64]; omega
      have hwP1 : IntKind.i64.wrap (P - 1) = P - 1 := by rw [IntKind.wrap_i64]; omega
      have hlay : lay d e = d.take 1 ++ (if 1 < d.length then [46] ++ d.drop 1 else []) ++ [101] ++ itoN (P - 1) := by unfold lay; rw [if_pos c1, hP]
      have hi2 : (Lib.itoa (P - 1)).length ≤ 40 := by
        have h1 := congrArg List.length (bts_itoa (P - 1))
        rw [bts_mk, List.length_map] at h1
        rw [h1]
        have h2 := itoN_len (k := P - 1) (by omega) (by omega)
        omega
      have hbi := bts_itoa (P - 1)
      have ki := kI (P - 1) (by omega) (by omega)
      clear kI kR
      obtain ⟨Z, hZ⟩ : ∃ Z : ByteArray, ⟨(Lib.itoa (P - 1)).toArray⟩ = Z := ⟨_, rfl⟩
      have hzZ : Z.size ≤ 40 := by rw [← hZ]; show (Lib.itoa (P - 1)).toArray.size ≤ 40; simpa using hi2
      rw [hZ] at ki hbi
      have hx1 : (sD.extract 0 1).size = 1 := by rw [ByteArray.size_extract]; omega
      have H1 : Hid _ := Lib.hid (And.intro hlay hbi)
      rw [hP] at c1
      have C1 : Hid _ := Lib.hid c1
      clear hlay hbi hZ hi2 hP
      by_cases c5 : P < -5
      · clear c1
        by_cases c2 : 1 < d.length
        · have c2I : (1 : Int) < (sD.size : Int) := by omega
          have hx2 : (sD.extract 1 sD.size).size = sD.size - 1 := by rw [ByteArray.size_extract]; omega
          go_wp2_with (go_at_call 44; (with_reducible refine (ki _ hb1).mono ?_); clear ki; rintro e3 w3 ⟨rfl, kk, os, rfl⟩)
          go_ret2
          refine ⟨_, d, e, rfl, ?_, HD.out, hb1.trans (Lib.below_grow _ _ hb1.size _ _)⟩
          rw [H1.out.1, bts_append, bts_append, bts_append, bts_append, bts_append, H1.out.2, bts_head, bts_tail, Hs0.out, Hd.out, if_pos c2]
          simp [List.append_assoc]
          rfl
        · have c2I : ¬ (1 : Int) < (sD.size : Int) := by omega
          go_wp2_with (go_at_call 44; (with_reducible refine (ki _ hb1).mono ?_); clear ki; rintro e3 w3 ⟨rfl, kk, os, rfl⟩)
          go_ret2
          refine ⟨_, d, e, rfl, ?_, HD.out, hb1.trans (Lib.below_grow _ _ hb1.size _ _)⟩
          rw [H1.out.1, bts_append, bts_append, bts_append, H1.out.2, bts_head, Hs0.out, Hd.out, if_neg c2]
          simp [List.append_assoc]
          rfl
      · have c6 : 21 < P := by omega
        clear c1
        by_cases c2 : 1 < d.length
        · have c2I : (1 : Int) < (sD.size : Int) := by omega
          have hx2 : (sD.extract 1 sD.size).size = sD.size - 1 := by rw [ByteArray.size_extract]; omega
          go_wp2_with (go_at_call 44; (with_reducible refine (ki _ hb1).mono ?_); clear ki; rintro e3 w3 ⟨rfl, kk, os, rfl⟩)
          go_ret2
          refine ⟨_, d, e, rfl, ?_, HD.out, hb1.trans (Lib.below_grow _ _ hb1.size _ _)⟩
          rw [H1.out.1, bts_append, bts_append, bts_append, bts_append, bts_append, H1.out.2, bts_head, bts_tail, Hs0.out, Hd.out, if_pos c2]
          simp [List.append_assoc]
          rfl
        · have c2I : ¬ (1 : Int) < (sD.size : Int) := by omega
          go_wp2_with (go_at_call 44; (with_reducible refine (ki _ hb1).mono ?_); clear ki; rintro e3 w3 ⟨rfl, kk, os, rfl⟩)
          go_ret2
          refine ⟨_, d, e, rfl, ?_, HD.out, hb1.trans (Lib.below_grow _ _ hb1.size _ _)⟩
          rw [H1.out.1, bts_append, bts_append, bts_append, H1.out.2, bts_head, Hs0.out, Hd.out, if_neg c2]
          simp [List.append_assoc]
          rfl
    · by_cases c3 : (d.length : Int) + e ≤ 0
      · obtain ⟨c, hc⟩ : ∃ c : Nat, (-((d.length : Int) + e)).toNat = c := ⟨_, rfl⟩
        have hwP : IntKind.i64.wrap ((sD.size : Int) + e) = -(c : Int) := by rw [IntKind.wrap_i64]; omega
        have hwN : IntKind.i64.wrap (- -(c : Int)) = (c : Int) := by rw [IntKind.wrap_i64]; omega
        have hwN2 : IntKind.i64.wrap ((c : Int)) = (c : Int) := by rw [IntKind.wrap_i64]; omega
        have hlay : lay d e = [48, 46] ++ List.replicate c 48 ++ d := by unfold lay; rw [if_neg c1, if_pos c3, hc]
        have kr := fun W => kR c W (by omega) (by show 1 * c ≤ _; omega)
        obtain ⟨Z, hZ⟩ : ∃ Z : ByteArray, ⟨(Lib.repeatL ((⟨#[48]⟩ : ByteArray)).data.toList c).toArray⟩ = Z := ⟨_, rfl⟩
        have hbZ : bts Z = List.replicate c 48 := by rw [← hZ, bts_mk]; exact repeat_map c
        rw [hZ] at kr
        have hzZ : Z.size = c := by rw [← bts_length, hbZ, List.length_replicate]
        have H1 : Hid _ := Lib.hid (And.intro hlay hbZ)
        have q1 : ¬ -(c : Int) < -5 := by omega
        have q2 : ¬ 21 < -(c : Int) := by omega
        have q3 : -(c : Int) ≤ 0 := by omega
        have hc5 : c ≤ 5 := by omega
        clear hlay hbZ hZ hc c1 c3 kI kR
        go_wp2_with (go_at_call 45; (with_reducible refine (kr _).mono ?_); clear kr; rintro e3 w3 ⟨rfl, hb3⟩)
        go_ret2
        refine ⟨_, d, e, rfl, ?_, HD.out, below_step hb1 hb3⟩
        rw [H1.out.1, bts_append, bts_append, bts_append, H1.out.2, Hs0.out, Hd.out]
        simp [List.append_assoc]
        rfl
      · by_cases c4 : (d.length : Int) + e < d.length
        · obtain ⟨c, hc⟩ : ∃ c : Nat, ((d.length : Int) + e).toNat = c := ⟨_, rfl⟩
          have hwP : IntKind.i64.wrap ((sD.size : Int) + e) = (c : Int) := by rw [IntKind.wrap_i64]; omega
          have hlay : lay d e = d.take c ++ [46] ++ d.drop c := by unfold lay; rw [if_neg c1, if_neg c3, if_pos c4, hc]
          have H1 : Hid _ := Lib.hid hlay
          have q1 : ¬ (c : Int) < -5 := by omega
          have q2 : ¬ 21 < (c : Int) := by omega
          have q3 : ¬ (c : Int) ≤ 0 := by omega
          have q4 : (c : Int) < (sD.size : Int) := by omega
          have q5 : c ≤ sD.size := by omega
          have hx1 : (sD.extract 0 c).size = c := by rw [ByteArray.size_extract]; omega
          have hx2 : (sD.extract c sD.size).size = sD.size - c := by rw [ByteArray.size_extract]; omega
          clear hlay hc c1 c3 c4 kI kR
          go_wp2_with fail
          go_quiet (fail)
          go_wp2_with fail
          go_ret2
          refine ⟨_, d, e, rfl, ?_, HD.out, below_dr hb1 _⟩
          rw [H1.out, bts_append, bts_append, bts_append, bts_head, bts_tail, Hs0.out, Hd.out]
          simp [List.append_assoc]
          rfl
        · obtain ⟨c, hc⟩ : ∃ c : Nat, ((d.length : Int) + e - d.length).toNat = c := ⟨_, rfl⟩
          have hwP : IntKind.i64.wrap ((sD.size : Int) + e) = ((d.length + c : Nat) : Int) := by rw [IntKind.wrap_i64]; omega
          obtain ⟨P, hP⟩ : ∃ P, d.length + c = P := ⟨_, rfl⟩
          rw [hP] at hwP
          have hwN : IntKind.i64.wrap ((P : Int) - (sD.size : Int)) = (c : Int) := by rw [IntKind.wrap_i64]; omega
          have hlay : lay d e = d ++ List.replicate c 48 ++ [46, 48] := by unfold lay; rw [if_neg c1, if_neg c3, if_neg c4, hc]
          have kr := fun W => kR c W (by omega) (by show 1 * c ≤ _; omega)
          obtain ⟨Z, hZ⟩ : ∃ Z : ByteArray, ⟨(Lib.repeatL ((⟨#[48]⟩ : ByteArray)).data.toList c).toArray⟩ = Z := ⟨_, rfl⟩
          have hbZ : bts Z = List.replicate c 48 := by rw [← hZ, bts_mk]; exact repeat_map c
          rw [hZ] at kr
          have hzZ : Z.size = c := by rw [← bts_length, hbZ, List.length_replicate]
          have H1 : Hid _ := Lib.hid (And.intro hlay hbZ)
          have q1 : ¬ (P : Int) < -5 := by omega
          have q2 : ¬ 21 < (P : Int) := by omega
          have q3 : ¬ (P : Int) ≤ 0 := by omega
          have q4 : ¬ (P : Int) < (sD.size : Int) := by omega
          have q5 : c ≤ 21 := by omega
          clear hlay hbZ hZ hc hP c1 c3 c4 kI kR
          go_wp2_with (go_at_call 45; (with_reducible refine (kr _).mono ?_); clear kr; rintro e3 w3 ⟨rfl, hb3⟩)
          go_ret2
          refine ⟨_, d, e, rfl, ?_, HD.out, below_step hb1 hb3⟩
          rw [H1.out.1, bts_append, bts_append, bts_append, H1.out.2, Hs0.out, Hd.out]
          simp [List.append_assoc]
          rfl
end Go.Proofs.YtffncomekbfihaaDoor.Nat
