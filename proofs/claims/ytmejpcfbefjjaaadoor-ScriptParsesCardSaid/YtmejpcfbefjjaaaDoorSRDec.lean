/- glossatorref04.Decode at Hex. -/
import Derived.Test.YtmejpcfbefjjaaaDoorSDec2
namespace Go.Proofs.YtmejpcfbefjjaaaDoor.Scr
open Go.RowKit
set_option linter.unusedVariables false
set_option linter.unusedSimpArgs false
set_option maxHeartbeats 8000000 in
theorem ralphabet_calls (w : World) : Calls Tryd.prog 37 #[.int .i64 0] w fun e w' => e = .returned (.tuple #[.string ⟨#[48, 49, 50, 51, 52, 53, 54, 55, 56, 57, 97, 98, 99, 100, 101, 102]⟩, .int .i64 4, .int .i64 1]) ∧ w' = w := by
  go_enter Tryd.func37, Tryd.ntmps37
  go_wp2
  go_ret3
  exact ⟨rfl, rfl⟩
theorem val_calls (c : Nat) (hc : c < 256) (w : World) : Calls Tryd.prog 38 #[.string ⟨#[48, 49, 50, 51, 52, 53, 54, 55, 56, 57, 97, 98, 99, 100, 101, 102]⟩, .int .u8 c] w fun e w' => e = .returned (.int .i64 (hvI c)) ∧ w' = w := by
  have h := value_calls aHex c w (by decide)
  rw [hex_bts, idx_hex c hc] at h
  exact h
set_option maxRecDepth 100000 in
set_option maxHeartbeats 16000000 in
theorem rdecode_calls (s : ByteArray) (w : World) (hs : s.size ≤ 1000000) : Calls Tryd.prog 24 #[.int .i64 0, .string s] w (DecPost s w) := by
  have hat := bts_at s
  have hbl := bts_length s
  have hlt256 := bts_lt s
  have hB0 := Below.refl w.heap.size w
  have hO0 := World.ownsRow_nil w w.heap.size 5 1
  obtain ⟨i0, hi0, hz0, hz1, hz2⟩ := info_parts info8
  go_enter Tryd.func24, Tryd.ntmps24
  go_wp2_with (go_at_call 37; (with_reducible refine (ralphabet_calls _).mono ?_); rintro e1 w ⟨rfl, rfl⟩)
  go_loopg [10, 11] 0 (fun kq v10 v11 wr => v10 = .int .i64 s.size ∧ (∃ A, v11 = .int .i64 A) ∧ wr = w)
  case atStart => exact ⟨rfl, ⟨_, rfl⟩, rfl⟩
  case round =>
    obtain ⟨rfl, ⟨A, rfl⟩, hww⟩ := hrel
    obtain rfl := hww.symm
    clear hww
    have hA : 0 ≤ A ∨ A < 0 := by omega
    rcases hA with hA | hA
    all_goals
      go_wp2_with fail
      go_loopg [12, 13, 14, 15, 16] s.size (fun kq v12 v13 v14 v15 v16 wr2 => ∃ (j : Nat) (p : Option Nat) (out : List Nat), v13 = .int .i64 (pnN p) ∧ v14 = .int .i64 (pxN p) ∧ v15 = .int .i64 j ∧ j + kq = s.size ∧ wr2.ownsRow w.heap.size 5 1 v12 out.length (bv out) ∧ out.length ≤ j ∧ (∀ x, p = some x → x < 16) ∧ Hid (hexF (p, out) ((bts s).drop j) = hexF (none, []) (bts s)) ∧ Below w.heap.size w wr2)
      case atStart => exact ⟨0, none, [], rfl, rfl, rfl, by omega, hO0, Nat.zero_le _, (fun x e => by cases e), Lib.hid rfl, hB0⟩
      case round =>
        clear hO0 hB0
        obtain ⟨j, p, out, rfl, rfl, rfl, hj, hown, hol, hp16, HR, B⟩ := hrel
        have hsz := B.size
        obtain ⟨Ao, co, rfl, _⟩ := own_form hown
        cases gk with
        | zero =>
          obtain rfl : j = s.size := by omega
          have hR := HR.out
          rw [← hbl, List.drop_length] at hR
          clear HR hat
          cases p with
          | some x =>
            have HN := Lib.hid (hexV_odd hR.symm)
            clear hR
            simp only [pnN, pxN]
            go_wp2
            go_ret3
            exact .inl ⟨HN.out, _, rfl, B⟩
          | none =>
            have HN := Lib.hid (hexV_even hR.symm)
            clear hR
            simp only [pnN, pxN]
            go_wp2_with fail
            go_loopg [18] 0 (fun kq v18 wr3 => v18 = .int .i64 s.size ∧ wr3 = wr)
            case atStart => exact ⟨rfl, rfl⟩
            case round =>
              obtain ⟨rfl, rfl⟩ := hrel
              have hnl : ¬ (s.size : Int) < (s.size : Int) := by omega
              go_wp2
              go_ret3
              exact .inr ⟨out, _, HN.out, rfl, hown, B⟩
        | succ k =>
          have hlt : (j : Int) < (s.size : Int) := by omega
          have hj2 : j < s.size := by omega
          have hcj := hat j hj2
          obtain ⟨c, hc⟩ : ∃ c, (s[j]'hj2).toNat = c := ⟨_, rfl⟩
          rw [hc] at hcj
          have hc256 : c < 256 := hlt256 c (List.mem_of_getElem? hcj)
          have kx := fun W => val_calls c hc256 W
          cases hcv : hv c with
          | none =>
            have hvi : hvI c = -1 := by unfold hvI; rw [hcv]
            simp only [hvi] at kx
            have HN := Lib.hid (hexV_none (HR.out.symm.trans (hexF_bad hcj hcv)))
            clear HR hvi hcv hcj hat
            go_wp2_with (go_at_call 38; (with_reducible refine (kx _).mono ?_); rintro e2 w2 ⟨rfl, rfl⟩)
            go_ret3
            exact .inl ⟨HN.out, _, rfl, B⟩
          | some d =>
            have hvi : hvI c = (d : Int) := by unfold hvI; rw [hcv]
            have hd := hv_lt hcv
            simp only [hvi] at kx
            have hR := HR.out
            rw [hexF_step hcj hcv] at hR
            have HR2 := Lib.hid hR
            have hd0 : ¬ (d : Int) < 0 := by omega
            clear HR hvi hcv hcj hat hR
            cases p with
            | none =>
              simp only [pnN, pxN]
              have e2 := or_hex 0 d (by omega) hd
              simp only [Int.natCast_zero, Int.zero_mul, Nat.mul_zero, Nat.zero_add] at e2
              go_wp2_with (go_at_call 38; (with_reducible refine (kx _).mono ?_); rintro e2 w2 ⟨rfl, rfl⟩)
              go_roundg k
              case measure => omega
              case rel => exact ⟨j + 1, some d, out, by go_num, by go_num, by go_num, by omega, hown, by omega, (fun x e => by cases e; exact hd), HR2, B⟩
            | some x =>
              simp only [pnN, pxN]
              have hx := hp16 x rfl
              have e1 : wrap64 ((x : Int) * 16) = (x : Int) * 16 := by unfold wrap64; omega
              have e2 := or_hex x d hx hd
              have hX : 16 * x + d < 256 := by omega
              have hRX : ∃ X, 16 * x + d = X := ⟨_, rfl⟩
              obtain ⟨X, hXX⟩ := hRX
              have HR3 : Hid (hexF (none, out ++ [X]) ((bts s).drop (j + 1)) = hexF (none, []) (bts s)) := by rw [← hXX]; exact HR2
              rw [hXX] at e2 hX
              have e3 := and0 X hX
              clear HR2 hXX
              go_wp2_with (first | (go_at_call 38; (with_reducible refine (kx _).mono ?_); rintro e2 w2 ⟨rfl, hw2⟩; obtain rfl := hw2.symm; clear hw2) | (at_builtin; refine wpList_append_own _ rfl _ _ 51 rfl w.heap.size 5 i0 (.int .u8 0) 1 1 Tryd.underlying51 hi0 hz0 hz1 hz2 rfl (by decide) _ _ _ rfl (hown.alloc _) ⟨wr.heap.size, 0, none⟩ 1 1 [.int .u8 X] rfl rfl (cell_one_new _ _ _) (one_cell rfl) (by unfold maxLen; omega) (by omega) (by rw [World.size_alloc]; omega) ?_; intro v' w5 hown5 hgrow5 _))
              go_roundg k
              case measure => omega
              case rel => exact ⟨j + 1, none, out ++ [X], by go_num, by go_num, by go_num, by omega, by rw [List.length_append, List.length_singleton, bv_append]; exact hown5, by simp only [List.length_append, List.length_singleton]; omega, (fun x e => by cases e), HR3, (B.alloc hsz _).grown hgrow5 (by rw [World.size_alloc]; omega) (own_base hown)⟩
end Go.Proofs.YtmejpcfbefjjaaaDoor.Scr
