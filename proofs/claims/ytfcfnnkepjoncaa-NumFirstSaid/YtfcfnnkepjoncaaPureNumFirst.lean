/- Proved: whatever stands behind the byte that errs in a number, num.Scan errs there; all ahead of it, and a digit, is a number (the statement's own bound: texts of at most 2^47 - 4096 bytes). -/
import Derived.Test.YtfcfnnkepjoncaaPureNumA
import Derived.Test.YtfcfnnkepjoncaaPAx8
import Derived.Lib.Strings
namespace Go.Proofs.Ytfcfnnkepjoncaa.Pure
open Go.RowKit Go.Proofs.Ytfcfnnkepjoncaa.PA Go.Proofs.Ytfcfnnkepjoncaa.Hand Go.Proofs.YtfcfnnkepjoncaaW.PrintWords Go.Proofs.YtfcfnnkepjoncaaW.PrintLast
set_option linter.unusedVariables false
set_option linter.unusedSimpArgs false

/-- from a state at a place one comes to a state at a later place, and no byte errs between -/
inductive Runs (s : ByteArray) : Int → Nat → Nat → Int → Prop where
  | refl (st : Int) (i : Nat) : Runs s st i i st
  | step {st st' : Int} {i n : Nat} (hi : i < s.size) (h9 : stepN st (bt s i) ≠ 9) (h : Runs s (stepN st (bt s i)) (i + 1) n st') : Runs s st i n st'

theorem Runs.le {s : ByteArray} {st st' : Int} {i n : Nat} (h : Runs s st i n st') : i ≤ n := by
  induction h with
  | refl => exact Nat.le_refl _
  | step hi h9 h ih => omega

theorem Runs.ps {s : ByteArray} (hs : s.size ≤ 1000000000000000) {st st' : Int} {i n : Nat} (h : Runs s st i n st') {r : Int × Int} (hp : PS s st' n r) : PS s st i r := by
  induction h with
  | refl => exact hp
  | step hi h9 h ih => exact PS_step s hs hi _ rfl h9 (ih hp)

theorem Runs.moved {s t : ByteArray} {st st' : Int} {i n : Nat} (h : Runs s st i n st') (ht : n ≤ t.size) (he : ∀ j : Nat, j < n → bt t j = bt s j) : Runs t st i n st' := by
  induction h with
  | refl => exact .refl _ _
  | @step st st' i n hi h9 h ih =>
    have hl := h.le
    have e := he i (by omega)
    refine .step (by omega) (by rw [e]; exact h9) ?_
    rw [e]; exact ih ht he

theorem Runs.snoc {s : ByteArray} {st st' : Int} {i n : Nat} (h : Runs s st i n st') (hi : n < s.size) (h9 : stepN st' (bt s n) ≠ 9) : Runs s st i (n + 1) (stepN st' (bt s n)) := by
  induction h with
  | refl => exact .step hi h9 (.refl _ _)
  | step hj h9' h ih => exact .step hj h9' (ih hi h9)

def St (st : Int) : Prop := 0 ≤ st ∧ st ≤ 8
theorem stepN_St (st c : Int) (h : St st) : St (stepN st c) ∨ stepN st c = 9 := by
  unfold St stepN at *
  repeat' split
  all_goals omega

/-- every text: some state, at some place, where it ends or the byte errs -/
theorem scan_ends (s : ByteArray) (d : Nat) : ∀ st i, St st → i ≤ s.size → s.size - i ≤ d → ∃ n st', Runs s st i n st' ∧ St st' ∧ n ≤ s.size ∧ (n = s.size ∨ (n < s.size ∧ stepN st' (bt s n) = 9)) := by
  induction d with
  | zero => intro st i h hi hd; exact ⟨i, st, .refl _ _, h, hi, .inl (by omega)⟩
  | succ d ih =>
    intro st i h hi hd
    by_cases e : i = s.size
    · exact ⟨i, st, .refl _ _, h, hi, .inl e⟩
    · by_cases h9 : stepN st (bt s i) = 9
      · exact ⟨i, st, .refl _ _, h, hi, .inr ⟨by omega, h9⟩⟩
      · obtain ⟨n, st', r, a, b, c⟩ := ih (stepN st (bt s i)) (i + 1) ((stepN_St st _ h).resolve_right h9) (by omega) (by omega)
        exact ⟨n, st', .step (by omega) h9 r, a, b, c⟩

def endsB (st : Int) : Bool := st == 2 || st == 3 || st == 5 || st == 8
theorem ends_f (st : Int) : num_ends.f st = some (endsB st) := by
  unfold num_ends.f endsB
  by_cases a : st = 2
  · simp [a]
  · by_cases b : st = 3
    · simp [b]
    · by_cases c : st = 5
      · simp [c]
      · simp [a, b, c]

/-- what the scan tells, out of the state in which it stops -/
def tells (s : ByteArray) (n : Nat) (st : Int) : Int × Int := ((n : Int), if endsB st then 0 else if n = s.size then 3 else 4)

theorem scan_tells {s : ByteArray} (hs : s.size ≤ 1000000000000000) {n : Nat} {st : Int} (h : Runs s 0 0 n st) (he : n = s.size ∨ (n < s.size ∧ stepN st (bt s n) = 9)) : Ev (fun k => num_Scan.f k s) (tells s n st) := by
  unfold num_Scan.f tells
  refine h.ps hs ?_
  rcases he with e | ⟨hlt, h9⟩
  · subst e
    rw [if_pos rfl]
    exact PS_end s hs _ (ends_f st)
  · rw [if_neg (show ¬ n = s.size from by omega)]
    exact PS_stop s hs hlt h9 _ (ends_f st)

theorem bt_data (s : ByteArray) (j : Nat) : bt s j = ((s.data.toList.getD j 0).toNat : Int) := by
  unfold bt
  have hl := data_length s
  by_cases h : (j : Int).toNat < s.size
  · rw [dif_pos h]
    have hj : j < s.data.toList.length := by omega
    rw [List.getD_eq_getElem?_getD, List.getElem?_eq_getElem hj]; rfl
  · rw [dif_neg h]
    rw [List.getD_eq_getElem?_getD, List.getElem?_eq_none (by omega)]; rfl

theorem bt_head (s t : ByteArray) (n : Nat) (hn : n ≤ s.size) (j : Nat) (hj : j < n) : bt (s.extract 0 n ++ t) j = bt s j := by
  rw [bt_data, bt_data, ByteArray.data_append, Array.toList_append, Go.Lib.extract_data]
  have hl := data_length s
  have e : ((s.data.toList.drop 0).take (n - 0)) = s.data.toList.take n := by simp
  rw [e]
  have h1 : j < (s.data.toList.take n).length := by rw [List.length_take]; omega
  simp only [List.getD_eq_getElem?_getD]
  rw [List.getElem?_append_left h1, List.getElem?_take_of_lt hj]

theorem size_head (s t : ByteArray) (n : Nat) (hn : n ≤ s.size) : (s.extract 0 n ++ t).size = n + t.size := by
  rw [← data_length, ByteArray.data_append, Array.toList_append, Go.Lib.extract_data]
  have hl := data_length s
  have hl2 := data_length t
  simp only [List.drop_zero, Nat.sub_zero, List.length_append, List.length_take]
  omega

theorem bt_mid (s t : ByteArray) (n : Nat) (hn : n ≤ s.size) : bt (s.extract 0 n ++ t) n = bt t 0 := by
  rw [bt_data, show bt t 0 = bt t ((0 : Nat) : Int) from rfl, bt_data, ByteArray.data_append, Array.toList_append, Go.Lib.extract_data]
  have hl := data_length s
  have e : ((s.data.toList.drop 0).take (n - 0)) = s.data.toList.take n := by simp
  rw [e]
  have h1 : (s.data.toList.take n).length = n := by rw [List.length_take]; omega
  simp only [List.getD_eq_getElem?_getD]
  rw [List.getElem?_append_right (by omega), h1, Nat.sub_self]

theorem extract_append_nil (s : ByteArray) (n : Nat) : s.extract 0 n ++ ByteArray.empty = s.extract 0 n := by simp

theorem NumFirst : glossatorlaw07_NumFirst.Pure := by
  intro s t hs ht
  obtain ⟨n, st, hr, hst, hn, he⟩ := scan_ends s s.size 0 0 (by unfold St; omega) (Nat.zero_le _) (by omega)
  have hsc : Ev (fun k => num_Scan.f k s) ((n : Int), if endsB st then 0 else if n = s.size then 3 else 4) := scan_tells (by omega) hr he
  refine Ev.rounds (Ev.bind hsc ?_)
  dsimp only
  simp only [if_neg (show ¬ ((n : Int) < 0) from by omega), decide_eq_false (show ¬ ((n : Int) > (s.size : Int)) from by omega)]
  have hx : (n : Int).toNat = n := by omega
  by_cases e : endsB st = true
  · -- it ends well
    simp only [e, if_true]
    refine Ev.step (fun k => ?_) (f := fun k => (num_Scan.f k (s.extract 0 n)).bind fun bt122 => (if bt122.1 = (n : Int) then (if bt122.2 = 0 then ((glossatorlaw07_awake.f k).bind fun t124 => (some t124)) else (some false)) else (some false))) ?_
    · simp only [glossatorlaw07_NumFirst.j0]
      rw [if_neg (by decide), if_pos trivial, if_pos (by omega), if_pos (by omega), hx]
    · have h1 : Runs (s.extract 0 n) 0 0 n st := by
        have := hr.moved (t := s.extract 0 n ++ ByteArray.empty) (by rw [size_head s _ n hn]; omega) (fun j hj => bt_head s _ n hn j hj)
        rwa [extract_append_nil] at this
      have h2 : (s.extract 0 n).size = n := by
        have := size_head s ByteArray.empty n hn
        rwa [extract_append_nil] at this
      have h3 := scan_tells (by omega) h1 (.inl h2.symm)
      refine Ev.bind h3 ?_
      simp only [tells, e, if_true]
      exact Ev.bind awake_ev (Ev.now _)
  · simp only [if_neg e]
    have hw : wrap64 ((n : Int) + 1) = (n : Int) + 1 := wrap_small (by omega) (by omega)
    have h6 : (if n = s.size then (3 : Int) else 4) ≠ 0 := by split <;> decide
    have hstep : stepN st 49 ≠ 9 ∧ endsB (stepN st 49) = true := by
      have q : st = 0 ∨ st = 1 ∨ st = 4 ∨ st = 6 ∨ st = 7 := by
        unfold St at hst
        have : ¬ (st = 2 ∨ st = 3 ∨ st = 5 ∨ st = 8) := by
          rintro (rfl | rfl | rfl | rfl) <;> exact e rfl
        omega
      rcases q with rfl | rfl | rfl | rfl | rfl <;> decide
    have hs1 : (s.extract 0 n ++ (⟨#[49]⟩ : ByteArray)).size = n + 1 := size_head s _ n hn
    have hr1 : Runs (s.extract 0 n ++ (⟨#[49]⟩ : ByteArray)) 0 0 (n + 1) (stepN st 49) := by
      have a := hr.moved (t := s.extract 0 n ++ (⟨#[49]⟩ : ByteArray)) (by omega) (fun j hj => bt_head s _ n hn j hj)
      have b : bt (s.extract 0 n ++ (⟨#[49]⟩ : ByteArray)) n = 49 := by rw [bt_mid s _ n hn]; decide
      have c := a.snoc (by omega) (by rw [b]; exact hstep.1)
      rwa [b] at c
    have hsc1 := scan_tells (by omega) hr1 (.inl hs1.symm)
    simp only [tells, hstep.2, if_true] at hsc1
    have hsx : (s.extract 0 n).size = n := by
      have := size_head s ByteArray.empty n hn
      rwa [extract_append_nil] at this
    refine Ev.step (fun k => ?_) (f := fun k => (num_Scan.f k (s.extract 0 n ++ (⟨#[49]⟩ : ByteArray))).bind fun bt125 => (if bt125.2 = 0 then (glossatorlaw07_NumFirst.j1 k s t (n : Int) (if n = s.size then 3 else 4) (bt125.1 != (wrap64 ((n : Int) + 1)))) else (glossatorlaw07_NumFirst.j1 k s t (n : Int) (if n = s.size then 3 else 4) true))) (Ev.bind hsc1 ?_)
    · simp only [glossatorlaw07_NumFirst.j0]
      rw [if_neg (by decide), if_neg h6, if_pos (by omega), if_pos (by omega), hx, if_pos (by rw [hsx]; omega)]
    · simp only [if_true]
      rw [hw, show (((n + 1 : Nat) : Int) != (n : Int) + 1) = false from by simp]
      by_cases c : n = s.size
      · simp only [if_pos c]
        refine Ev.step (fun k => ?_) (f := fun k => some true) (Ev.now _)
        simp only [glossatorlaw07_NumFirst.j1]
        rw [if_neg (by decide), if_pos trivial, beq_iff_eq.2 (by omega)]
      · simp only [if_neg c]
        obtain ⟨hlt, h9⟩ := he.resolve_left c
        have hz : (s.extract 0 (n + 1) ++ t).size = n + 1 + t.size := size_head s t (n + 1) (by omega)
        have hr2 : Runs (s.extract 0 (n + 1) ++ t) 0 0 n st := hr.moved (by omega) (fun j hj => bt_head s _ (n + 1) (by omega) j (by omega))
        have hb2 : bt (s.extract 0 (n + 1) ++ t) n = bt s n := bt_head s _ (n + 1) (by omega) n (by omega)
        have hsc2 := scan_tells (by omega) hr2 (.inr ⟨by omega, by rw [hb2]; exact h9⟩)
        simp only [tells, if_neg e] at hsc2
        have hsy : (s.extract 0 (n + 1)).size = n + 1 := by
          have := size_head s ByteArray.empty (n + 1) (by omega)
          rwa [extract_append_nil] at this
        refine Ev.step (fun k => ?_) (f := fun k => (num_Scan.f k (s.extract 0 (n + 1) ++ t)).bind fun bt127 => (if bt127.1 = (n : Int) then (some (bt127.2 == 4)) else (some false))) (Ev.bind hsc2 ?_)
        · simp only [glossatorlaw07_NumFirst.j1]
          rw [if_neg (by decide), if_neg (by decide), if_neg (by omega), if_pos trivial, hw, if_pos (by omega), if_pos (by omega), show ((n : Int) + 1).toNat = n + 1 from by omega, if_pos (by rw [hsy]; omega)]
        · simp only [if_true]
          rw [if_neg (show ¬ n = (s.extract 0 (n + 1) ++ t).size from by omega)]
          exact Ev.now _

end Go.Proofs.Ytfcfnnkepjoncaa.Pure
