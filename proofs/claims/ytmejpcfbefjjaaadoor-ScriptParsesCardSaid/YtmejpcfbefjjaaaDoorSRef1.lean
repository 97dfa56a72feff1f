/- The reference's small functions: format, mode, value, number. -/
import Derived.Test.YtmejpcfbefjjaaaDoorSPure
import Derived.WalkKit
import Derived.WalkSpells
import Derived.StillTactics
import Derived.OwnWalk
import Derived.Laws.Pointers
import Derived.KernelRfl
import Derived.Outline
import Derived.Deep.LoopGhost
import Derived.LoopN
import Derived.Lib.Hide
namespace Go.Proofs.YtmejpcfbefjjaaaDoor.Scr
open Go.RowKit
set_option linter.unusedVariables false
set_option linter.unusedSimpArgs false
def fmtI (x : ByteArray) : Int := if x = wJson then 0 else if x = wCbor then 1 else if x = wPack then 2 else if x = wDiag then 3 else -1
def modeI (x : ByteArray) : Int := if x = wStrict then 0 else if x = wLossy then 1 else -1
theorem tl_t (x : ByteArray) (l : List UInt8) : ((x.toList == l) = true) ↔ x = ⟨l.toArray⟩ := by
  rw [beq_iff_eq, ByteArray.toList_eq]
  constructor
  · intro h; exact bts_inj (by simpa using h)
  · intro h; rw [h]
theorem tl_f (x : ByteArray) (l : List UInt8) : ((x.toList == l) = false) ↔ ¬ x = ⟨l.toArray⟩ := by
  rw [← tl_t, Bool.not_eq_true]
theorem ret_int {k : IntKind} {a b : Int} (h : a = b) : Ending.returned (.int k a) = .returned (.int k b) := by rw [h]
theorem ret_bool {a b : Bool} (h : a = b) : Ending.returned (.bool a) = .returned (.bool b) := by rw [h]
set_option maxHeartbeats 4000000 in
theorem format_calls (x : ByteArray) (w : World) : Calls Tryd.prog 22 #[.string x] w fun e w' => e = .returned (.int .i64 (fmtI x)) ∧ w' = w := by
  go_enter Tryd.func22, Tryd.ntmps22
  go_wp2
  all_goals
    go_ret
    refine ⟨ret_int ?_, rfl⟩
    simp only [tl_t, tl_f] at *
    unfold fmtI
    simp [*]
set_option maxHeartbeats 4000000 in
theorem mode_calls (x : ByteArray) (w : World) : Calls Tryd.prog 23 #[.string x] w fun e w' => e = .returned (.int .i64 (modeI x)) ∧ w' = w := by
  go_enter Tryd.func23, Tryd.ntmps23
  go_wp2
  all_goals
    go_ret
    refine ⟨ret_int ?_, rfl⟩
    simp only [tl_t, tl_f] at *
    unfold modeI
    simp [*]
theorem idx_end (c : Nat) (L : List Nat) (k : Nat) : idx c (L.drop L.length) k = -1 := by rw [List.drop_length]; rfl
theorem idx_hit {c : Nat} {L : List Nat} {j b : Nat} (h : L[j]? = some b) (e : b = c) (k : Nat) : idx c (L.drop j) k = k := by
  obtain ⟨h1, h2⟩ := List.getElem?_eq_some_iff.1 h
  rw [List.drop_eq_getElem_cons h1, idx, if_pos (h2.trans e)]
theorem idx_miss {c : Nat} {L : List Nat} {j b : Nat} (h : L[j]? = some b) (e : b ≠ c) (k : Nat) : idx c (L.drop j) k = idx c (L.drop (j + 1)) (k + 1) := by
  obtain ⟨h1, h2⟩ := List.getElem?_eq_some_iff.1 h
  rw [List.drop_eq_getElem_cons h1, idx, if_neg (fun q => e (h2.symm.trans q))]
set_option maxHeartbeats 4000000 in
theorem value_calls (l : ByteArray) (c : Nat) (w : World) (hl : l.size ≤ 1000) : Calls Tryd.prog 38 #[.string l, .int .u8 c] w fun e w' => e = .returned (.int .i64 (idx c (bts l) 0)) ∧ w' = w := by
  have hbl := bts_length l
  have hat := bts_at l
  obtain ⟨R, hR⟩ : ∃ R, idx c (bts l) 0 = R := ⟨_, rfl⟩
  rw [hR]
  go_enter Tryd.func38, Tryd.ntmps38
  go_wp2
  go_loopg [5] l.size (fun kq v5 wr => ∃ j : Nat, v5 = .int .i64 j ∧ j + kq = l.size ∧ Hid (idx c ((bts l).drop j) j = R) ∧ wr = w)
  case atStart => exact ⟨0, rfl, by omega, Lib.hid (by simpa using hR), rfl⟩
  case round =>
    obtain ⟨j, rfl, hj, HR, rfl⟩ := hrel
    cases gk with
    | zero =>
      obtain rfl : j = l.size := by omega
      go_wp2
      go_ret
      refine ⟨ret_int ?_, rfl⟩
      rw [← HR.out, ← hbl]
      exact (idx_end c _ _).symm
    | succ d =>
      have hlt : (j : Int) < (l.size : Int) := by omega
      have hj2 : j < l.size := by omega
      have hcj := hat j hj2
      by_cases hc : (l[j]'hj2).toNat = c
      · have hci : ((l[j]'hj2).toNat : Int) = (c : Int) := by omega
        have hr := HR.out
        rw [idx_hit hcj hc] at hr
        have HR2 := Lib.hid hr
        clear hr
        go_wp2
        go_ret
        exact ⟨ret_int HR2.out, rfl⟩
      · have hci : ¬ ((l[j]'hj2).toNat : Int) = (c : Int) := by omega
        have hr := HR.out
        rw [idx_miss hcj hc] at hr
        have HR2 := Lib.hid hr
        clear hr
        go_wp2
        go_roundg d
        case rel => exact ⟨j + 1, by go_num, by omega, HR2, rfl⟩
        case measure => omega
set_option maxHeartbeats 4000000 in
theorem index_calls (l : ByteArray) (c : Nat) (w : World) (hl : l.size ≤ 1000000) : Calls Tryd.prog 48 #[.string l, .int .u8 c] w fun e w' => e = .returned (.int .i64 (idx c (bts l) 0)) ∧ w' = w := by
  have hbl := bts_length l
  have hat := bts_at l
  obtain ⟨R, hR⟩ : ∃ R, idx c (bts l) 0 = R := ⟨_, rfl⟩
  rw [hR]
  go_enter Tryd.func48, Tryd.ntmps48
  go_wp2
  go_loopg [5, 8] l.size (fun kq v5 v8 wr => ∃ j : Nat, v8 = .int .i64 j ∧ j + kq = l.size ∧ Hid (idx c ((bts l).drop j) j = R) ∧ wr = w)
  case atStart => exact ⟨0, rfl, by omega, Lib.hid (by simpa using hR), rfl⟩
  case round =>
    obtain ⟨j, rfl, hj, HR, rfl⟩ := hrel
    cases gk with
    | zero =>
      obtain rfl : j = l.size := by omega
      go_wp2
      go_ret
      refine ⟨ret_int ?_, rfl⟩
      rw [← HR.out, ← hbl]
      exact (idx_end c _ _).symm
    | succ d =>
      have hlt : (j : Int) < (l.size : Int) := by omega
      have hj2 : j < l.size := by omega
      have hcj := hat j hj2
      by_cases hc : (l[j]'hj2).toNat = c
      · have hci : ((l[j]'hj2).toNat : Int) = (c : Int) := by omega
        have hr := HR.out
        rw [idx_hit hcj hc] at hr
        have HR2 := Lib.hid hr
        clear hr
        go_wp2
        go_ret
        exact ⟨ret_int HR2.out, rfl⟩
      · have hci : ¬ ((l[j]'hj2).toNat : Int) = (c : Int) := by omega
        have hr := HR.out
        rw [idx_miss hcj hc] at hr
        have HR2 := Lib.hid hr
        clear hr
        go_wp2
        go_roundg d
        case rel => exact ⟨j + 1, by go_num, by omega, HR2, rfl⟩
        case measure => omega
end Go.Proofs.YtmejpcfbefjjaaaDoor.Scr
