import Derived.Test.YtfcfnnkepjoncaaPCx6
import Derived.Deep.LoopGhost
import Derived.Laws.Rows
import Derived.Lib.Hide
namespace Go.Proofs.Ytfcfnnkepjoncaa.Hand
open Go.RowKit Go.Proofs.YtfcfnnkepjoncaaW.PrintWords Go.Proofs.YtfcfnnkepjoncaaW.PrintLast Go.Proofs.YtfcfnnkepjoncaaW.PrintMore Go.Proofs.Ytfcfnnkepjoncaa.PC
set_option linter.unusedVariables false
set_option linter.unusedSimpArgs false

/-- one step of the scan, as a plain function -/
def stepK (s0 s1 s2 c : Int) : Bool × Int × Int × Int := (utf_state_step.f 1 s0 s1 s2 c (-1)).getD (false, 0, 0, 0)
theorem stepK_eq (s0 s1 s2 c : Int) : utf_state_step.f 1 s0 s1 s2 c (-1) = some ((stepK s0 s1 s2 c).1, (stepK s0 s1 s2 c).2.1, (stepK s0 s1 s2 c).2.2.1, (stepK s0 s1 s2 c).2.2.2) := by
  have h : ∃ r, utf_state_step.f 1 s0 s1 s2 c (-1) = some r := by
    unfold utf_state_step.f utf_row.f utf_state_step.j0
    simp only [Option.bind_some]
    split
    · split <;> split <;> exact ⟨_, rfl⟩
    · split
      · exact ⟨_, rfl⟩
      · split
        · split <;> exact ⟨_, rfl⟩
        · exact ⟨_, rfl⟩
  obtain ⟨r, hr⟩ := h
  unfold stepK
  rw [hr]
  rfl
/-- the scan from byte i on, d bytes being left -/
def checkK (a : ByteArray) : Nat → Nat → Int → Int → Int → Int × Int
  | 0, _, s0, _, _ => if s0 > 0 then ((a.size : Int), 3) else ((a.size : Int), 0)
  | d + 1, i, s0, s1, s2 => if (stepK s0 s1 s2 (bt a i)).1 = true then checkK a d (i + 1) (stepK s0 s1 s2 (bt a i)).2.1 (stepK s0 s1 s2 (bt a i)).2.2.1 (stepK s0 s1 s2 (bt a i)).2.2.2 else ((i : Int), 4)
def utf_Check.f (a0 : ByteArray) : Option (Int × Int) := if a0.size < 9223372036854775807 then some (checkK a0 a0.size 0 0 0 0) else none

def CheckPost (a : ByteArray) (w : World) (e : Ending) (w' : World) : Prop := e = .returned (.tuple #[.int .i64 (checkK a a.size 0 0 0 0).1, .int .i64 (checkK a a.size 0 0 0 0).2]) ∧ Below w.heap.size w w'
theorem checkEnd0 {a : ByteArray} {w W : World} {i : Nat} {s0 s1 s2 : Int} (h : checkK a a.size 0 0 0 0 = checkK a 0 i s0 s1 s2) (hs : 0 < s0) (B : Below w.heap.size w W) : CheckPost a w (.returned (.tuple #[.int .i64 a.size, .int .i64 3])) W := by
  unfold CheckPost; rw [h]; simp only [checkK, if_pos hs]; exact ⟨trivial, B⟩
theorem checkEnd1 {a : ByteArray} {w W : World} {i : Nat} {s0 s1 s2 : Int} (h : checkK a a.size 0 0 0 0 = checkK a 0 i s0 s1 s2) (hs : ¬ 0 < s0) (B : Below w.heap.size w W) : CheckPost a w (.returned (.tuple #[.int .i64 a.size, .int .i64 0])) W := by
  unfold CheckPost; rw [h]; simp only [checkK, if_neg hs]; exact ⟨trivial, B⟩
theorem checkEnd2 {a : ByteArray} {w W : World} {d i : Nat} {s0 s1 s2 : Int} (h : checkK a a.size 0 0 0 0 = checkK a (d + 1) i s0 s1 s2) (hs : (stepK s0 s1 s2 (bt a i)).1 = false) (B : Below w.heap.size w W) : CheckPost a w (.returned (.tuple #[.int .i64 i, .int .i64 4])) W := by
  unfold CheckPost; rw [h]; simp only [checkK, hs]; exact ⟨rfl, B⟩
theorem wrap_i (i n : Nat) (h : i < n) (hn : n < 9223372036854775807) : wrap64 ((i : Int) + 1) = ((i + 1 : Nat) : Int) := by unfold wrap64; omega
set_option maxRecDepth 100000 in
set_option maxHeartbeats 8000000 in
theorem check_any (a : ByteArray) (w : World) (hlen : a.size < 9223372036854775807) : Calls Try.prog 52 #[.string a] w (CheckPost a w) := by
  have hu89 := Try.underlying89
  go_enter Try.func52, Try.ntmps52
  go_wp2_with fail
  have I0 := IsS89.new w w 0 0 0 (Below.refl _ _)
  have B0 : Below w.heap.size w (w.alloc (.cells #[.int .i64 0, .int .u8 0, .int .u8 0] 89)) := (Below.refl _ _).alloc (Nat.le_refl _) _
  go_loopg [8] a.size (fun kq v8 wr => ∃ (i : Nat) (s0 s1 s2 : Int), v8 = .int .i64 i ∧ i + kq = a.size ∧ checkK a a.size 0 0 0 0 = checkK a kq i s0 s1 s2 ∧ IsS89 w wr w.heap.size s0 s1 s2 ∧ Below w.heap.size w wr)
  case atStart => exact ⟨0, 0, 0, 0, rfl, by omega, rfl, I0, B0⟩
  case round =>
    clear I0 B0
    obtain ⟨i, s0, s1, s2, rfl, hd, hck, hI, hB⟩ := hrel
    cases gk with
    | zero =>
      obtain rfl : i = a.size := by omega
      have c0 := cellS89_0 hI.1
      go_wp2_with fail
      · exact bodyPost_ret (v := .tuple #[.int .i64 a.size, .int .i64 3]) (results_tmp2 Try.results52 _ _ _) rfl (checkEnd0 hck (by assumption) hB)
      · exact bodyPost_ret (v := .tuple #[.int .i64 a.size, .int .i64 0]) (results_tmp2 Try.results52 _ _ _) rfl (checkEnd1 hck (by omega) hB)
    | succ d =>
      have hlt : (i : Int) < (a.size : Int) := by omega
      have hlt2 : i < a.size := by omega
      go_wp2_with fail
      rw [show ((a[i]'hlt2).toNat : Int) = bt a i from by simp [bt, hlt2]]
      refine (utf_state_step.calls 1 _ s0 s1 s2 (bt a i) (-1) _ _ _ _ w wr hI hB (stepK_eq s0 s1 s2 (bt a i))).mono ?_
      rintro e w' ⟨rfl, hI', hB', _⟩
      have hw := wrap_i i a.size hlt2 hlen
      cases hs : (stepK s0 s1 s2 (bt a i)).1
      · go_wp2_with fail
        exact bodyPost_ret (v := .tuple #[.int .i64 i, .int .i64 4]) (results_tmp2 Try.results52 _ _ _) rfl (checkEnd2 hck hs hB')
      · go_wp2_with fail
        go_roundg d
        case rel => exact ⟨i + 1, _, _, _, congrArg _ (by omega), by omega, by rw [hck]; simp only [checkK, hs, if_true], hI', hB'⟩
        case measure => omega
theorem utf_Check.calls (a0 : ByteArray) (r1 r2 : Int) (w : World) (h : utf_Check.f a0 = some (r1, r2)) :
    Calls Try.prog 52 #[.string a0] w fun e w' => e = .returned (.tuple #[.int .i64 r1, .int .i64 r2]) ∧ Below w.heap.size w w' := by
  unfold utf_Check.f at h
  split at h
  · rename_i hl
    have h' := Option.some.inj h
    refine (check_any a0 w hl).mono fun e w' hp => ?_
    unfold CheckPost at hp
    rw [h'] at hp
    exact hp
  · cases h
end Go.Proofs.Ytfcfnnkepjoncaa.Hand
