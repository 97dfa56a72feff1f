/- fdec.text's methods: sign, digits; fdec.nought. -/
import Derived.Test.YtffncomekbfihaaGreatDoorScanPure
namespace Go.Proofs.YtffncomekbfihaaGreatDoor.Nat
open Go.RowKit Go.Shelf
set_option linter.unusedVariables false
/-- a text that is read, in a block -/
structure BT (w : World) (g : Nat) (s : ByteArray) : Prop where
  b : w.heap[g]? = some (.cells #[.string s] 139 (0, 0))
theorem BT.c0 {w : World} {g : Nat} {s : ByteArray} (h : BT w g s) : w.cell? ⟨g, 0, none⟩ = some (.string s) := (cell_of_row w g 0 _ _ (0, 0) h.b).trans rfl
theorem BT.f {w : World} {g : Nat} {s : ByteArray} (h : BT w g s) : w.frozen? ⟨g, 0, none⟩ = false := frozen_of_row w g 0 _ _ h.b
theorem BT.set {w : World} {g : Nat} {s : ByteArray} (h : BT w g s) (t : ByteArray) : BT (w.setCell ⟨g, 0, none⟩ (.string t)) g t := ⟨bk_set h.b 0 _⟩
theorem sgc_pos {S r : List Nat} {c : Nat} (h : c ∈ S) : sgc S (c :: r) = (c, r) := if_pos h
theorem sgc_neg {S r : List Nat} {c : Nat} (h : c ∉ S) : sgc S (c :: r) = (0, c :: r) := if_neg h
set_option maxHeartbeats 4000000 in
set_option maxRecDepth 100000 in
theorem sign_calls (g : Nat) (s S : ByteArray) (w : World) (hT : BT w g s) :
    Calls Tryz.prog 84 #[.pointer (some ⟨g, 0, none⟩), .string S] w fun e w' => e = .returned (.int .u8 ((sgc (bts S) (bts s)).1 : Nat)) ∧ ∃ t, bts t = (sgc (bts S) (bts s)).2 ∧ BT w' g t ∧ Below g w w' := by
  have hb0 := Below.refl g w
  have q0 := hT.c0
  have f0 := hT.f
  have hl := bts_length s
  by_cases h0 : s.size = 0
  · have hemp := empty_of h0
    have he : bts s = [] := List.length_eq_zero_iff.1 (by omega)
    have hr : sgc (bts S) (bts s) = (0, []) := by rw [he]; rfl
    rw [hr]
    have He : Hid _ := Lib.hid he
    clear hr he hl
    go_enter Tryz.func84, Tryz.ntmps84
    go_wp2
    go_ret
    exact ⟨rfl, s, He.out, hT, hb0⟩
  · have hful := full_of h0
    have hs0 : 0 < s.size := by omega
    have hat := bts_at s 0 hs0
    obtain ⟨c, r, hcr⟩ : ∃ c r, bts s = c :: r := by
      cases h : bts s with
      | nil => rw [h] at hl; simp at hl; omega
      | cons c r => exact ⟨c, r, rfl⟩
    have hc : s[0].toNat = c := by rw [hcr] at hat; exact (Option.some.inj hat).symm
    have hc8 : s[0] = UInt8.ofNat c := by rw [← hc]; simp
    have hc256 : c < 256 := by rw [← hc]; exact s[0].toNat_lt
    have ki := fun W => Tryz.strings_IndexByte S (c : Int) W
    rw [Int.toNat_natCast] at ki
    have hmem : Lib.indexByte S.data.toList c.toUInt8 < 0 ↔ c ∉ bts S := by
      rw [index_neg, mem_bts]
      have : c.toUInt8.toNat = c := by show (UInt8.ofNat c).toNat = c; rw [UInt8.toNat_ofNat']; omega
      rw [this]
    generalize Lib.indexByte S.data.toList c.toUInt8 = I at *
    by_cases hm : c ∈ bts S
    · have hI : ¬ I < 0 := fun q => hmem.1 q hm
      have hr : sgc (bts S) (bts s) = (c, r) := by rw [hcr]; exact sgc_pos hm
      rw [hr]
      have htl : bts (s.extract 1 s.size) = r := by rw [bts_tail, hcr]; rfl
      have Htl : Hid _ := Lib.hid htl
      clear hr htl hmem hm hl hcr hat hc8
      go_enter Tryz.func84, Tryz.ntmps84
      go_wp2_with (go_at_call 121; (with_reducible refine (ki _).mono ?_); clear ki; rintro e1 w1 ⟨rfl, rfl⟩)
      go_ret
      exact ⟨rfl, s.extract 1 s.size, Htl.out, hT.set _, hb0.setCell (p := ⟨g, 0, none⟩) (Nat.le_refl _) _⟩
    · have hI : I < 0 := hmem.2 hm
      have hr : sgc (bts S) (bts s) = (0, c :: r) := by rw [hcr]; exact sgc_neg hm
      rw [hr]
      have Hcr : Hid _ := Lib.hid hcr
      clear hr hmem hm hl hcr hat hc8
      go_enter Tryz.func84, Tryz.ntmps84
      go_wp2_with (go_at_call 121; (with_reducible refine (ki _).mono ?_); clear ki; rintro e1 w1 ⟨rfl, rfl⟩)
      go_ret
      exact ⟨rfl, s, Hcr.out, hT, hb0⟩
set_option maxHeartbeats 4000000 in
set_option maxRecDepth 100000 in
theorem digs_calls (g : Nat) (s : ByteArray) (w : World) (hT : BT w g s) (hs : s.size ≤ 9223372036854775807) :
    Calls Tryz.prog 85 #[.pointer (some ⟨g, 0, none⟩)] w fun e w' => ∃ d, e = .returned (.string d) ∧ bts d = (bts s).takeWhile dg ∧ ∃ t, bts t = (bts s).dropWhile dg ∧ BT w' g t ∧ Below g w w' := by
  have hb0 := Below.refl g w
  have q0 := hT.c0
  have f0 := hT.f
  have hl := bts_length s
  go_enter Tryz.func85, Tryz.ntmps85
  go_wp2
  go_loopg [3] s.size (fun kq v3 wr => ∃ n : Nat, v3 = .int .i64 n ∧ n + kq = s.size ∧ Hid (∀ (i c : Nat), i < n → (bts s)[i]? = some c → dg c = true) ∧ wr = w)
  case atStart => exact ⟨0, rfl, by omega, Lib.hid (fun i c h => absurd h (Nat.not_lt_zero i)), rfl⟩
  case round =>
    obtain ⟨n, rfl, hn, HD, rfl⟩ := hrel
    cases gk with
    | zero =>
      obtain rfl : n = s.size := by omega
      obtain ⟨e1, e2⟩ := takeWhile_take (n := s.size) HD.out (by omega) (fun c hc => by rw [List.getElem?_eq_none (by omega)] at hc; cases hc)
      have h1 : bts s = (bts s).takeWhile dg := by rw [e1, List.take_of_length_le (by omega)]
      have h2 : bts ByteArray.empty = (bts s).dropWhile dg := by rw [e2, List.drop_of_length_le (by omega)]; rfl
      have H : Hid _ := Lib.hid (And.intro h1 h2)
      clear e1 e2 h1 h2 hl
      go_wp2
      go_ret
      exact ⟨s, rfl, H.out.1, ByteArray.empty, H.out.2, hT.set _, hb0.setCell (p := ⟨g, 0, none⟩) (Nat.le_refl _) _⟩
    | succ d =>
      have hlt : n < s.size := by omega
      have hltI : (n : Int) < (s.size : Int) := by omega
      have hat := bts_at s n hlt
      obtain ⟨c, hc⟩ : ∃ c, s[n].toNat = c := ⟨_, rfl⟩
      rw [hc] at hat
      by_cases hdc : dg c = true
      · have hb : 48 ≤ c ∧ c ≤ 57 := by simpa [dg] using hdc
        have h1 : (48 : Int) ≤ (c : Int) := by omega
        have h2 : (c : Int) ≤ 57 := by omega
        have hnew : ∀ (i c : Nat), i < n + 1 → (bts s)[i]? = some c → dg c = true := fun i c' hi hc' => by
          rcases Nat.lt_or_ge i n with h | h
          · exact HD.out i c' h hc'
          · obtain rfl : i = n := by omega
            rw [hat] at hc'
            cases hc'
            exact hdc
        have HNEW : Hid _ := Lib.hid hnew
        clear hnew hat hdc hb HD hl
        go_wp2
        go_roundg d
        case rel => exact ⟨n + 1, by go_num, by omega, HNEW.out, rfl⟩
        case measure => omega
      · have hdf : dg c = false := by simpa using hdc
        have hb : ¬ (48 ≤ c ∧ c ≤ 57) := by simpa [dg] using hdf
        obtain ⟨e1, e2⟩ := takeWhile_take (n := n) HD.out (by omega) (fun c' hc' => by rw [hat] at hc'; cases hc'; exact hdf)
        have h1 : bts (s.extract 0 n) = (bts s).takeWhile dg := by rw [bts_head, e1]
        have h2 : bts (s.extract n s.size) = (bts s).dropWhile dg := by rw [bts_tail, e2]
        have H : Hid _ := Lib.hid (And.intro h1 h2)
        clear e1 e2 h1 h2 hl hat hdc hdf HD
        by_cases h48 : 48 ≤ c
        · have h3 : (48 : Int) ≤ (c : Int) := by omega
          have h4 : ¬ (c : Int) ≤ 57 := by omega
          go_wp2
          go_ret
          exact ⟨s.extract 0 n, rfl, H.out.1, s.extract n s.size, H.out.2, hT.set _, hb0.setCell (p := ⟨g, 0, none⟩) (Nat.le_refl _) _⟩
        · have h3 : ¬ (48 : Int) ≤ (c : Int) := by omega
          go_wp2
          go_ret
          exact ⟨s.extract 0 n, rfl, H.out.1, s.extract n s.size, H.out.2, hT.set _, hb0.setCell (p := ⟨g, 0, none⟩) (Nat.le_refl _) _⟩
set_option maxHeartbeats 4000000 in
set_option maxRecDepth 100000 in
theorem nought_calls (s : ByteArray) (w : World) (hs : s.size ≤ 4096) (hne : s.size ≠ 0) :
    Calls Tryz.prog 87 #[.string s] w fun e w' => e = .returned (.bool ((bts s).all (fun c => c = 48))) ∧ Below w.heap.size w w' := by
  have kb := Lib.run_convert_string_bytes (P := Tryz.prog) w 9 73 5 s Tryz.underlying9 Tryz.underlying73 Tryz.underlying5
  have hb0 := bytes_below' (Below.refl w.heap.size w) (Nat.le_refl _) 5 s
  have hcells := fun (j c : Nat) (h : (bts s)[j]? = some c) => bts_cell w 5 s h
  have hl := bts_length s
  obtain ⟨W1, hW1⟩ : ∃ W1, Lib.bytesWorld w 5 s = W1 := ⟨_, rfl⟩
  rw [hW1] at hb0 hcells kb
  clear hW1
  have HC : Hid _ := Lib.hid hcells
  clear hcells
  go_enter Tryz.func87, Tryz.ntmps87
  go_wp2
  clear kb
  go_loopg [8] s.size (fun kq v8 wr => ∃ n : Nat, v8 = .int .i64 n ∧ n + kq = s.size ∧ Hid (∀ (i c : Nat), i < n → (bts s)[i]? = some c → c = 48) ∧ wr = W1)
  case atStart => exact ⟨0, rfl, by omega, Lib.hid (fun i c h => absurd h (Nat.not_lt_zero i)), rfl⟩
  case round =>
    obtain ⟨n, rfl, hn, HD, rfl⟩ := hrel
    cases gk with
    | zero =>
      obtain rfl : n = s.size := by omega
      have hall : (bts s).all (fun c => c = 48) = true := by
        rw [List.all_eq_true]
        intro c hc
        obtain ⟨j, hj, rfl⟩ := List.mem_iff_getElem.1 hc
        simpa using HD.out j _ (by omega) (List.getElem?_eq_getElem hj)
      have HA : Hid _ := Lib.hid hall
      clear hall HC hl
      go_wp2
      go_ret
      exact ⟨by rw [HA.out]; rfl, hb0⟩
    | succ d =>
      obtain ⟨c, hc⟩ : ∃ c, (bts s)[n]? = some c := ⟨_, List.getElem?_eq_getElem (by omega)⟩
      have hcell := HC.out n c hc
      have hi1 : (n : Int) < (s.size : Int) := by omega
      by_cases h48 : c = 48
      · have hnew : ∀ (i c : Nat), i < n + 1 → (bts s)[i]? = some c → c = 48 := fun i c' hi hc' => by
          rcases Nat.lt_or_ge i n with h | h
          · exact HD.out i c' h hc'
          · obtain rfl : i = n := by omega
            rw [hc] at hc'
            cases hc'
            exact h48
        have HNEW : Hid _ := Lib.hid hnew
        have hcI : (c : Int) = 48 := by omega
        rw [hcI] at hcell
        clear hnew hc h48 HD hl HC hcI
        go_wp2
        go_roundg d
        case rel => exact ⟨n + 1, by go_num, by omega, HNEW.out, rfl⟩
        case measure => omega
      · have hall : (bts s).all (fun c => c = 48) = false := by
          rw [List.all_eq_false]
          exact ⟨c, List.mem_of_getElem? hc, by simpa using h48⟩
        have HA : Hid _ := Lib.hid hall
        have hcI : ¬ (c : Int) = 48 := by omega
        clear hall hc h48 HD hl HC
        go_wp2
        go_ret
        exact ⟨by rw [HA.out]; rfl, hb0⟩
end Go.Proofs.YtffncomekbfihaaGreatDoor.Nat
