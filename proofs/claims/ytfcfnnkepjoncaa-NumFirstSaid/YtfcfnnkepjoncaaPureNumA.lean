import Derived.Test.YtfcfnnkepjoncaaPAx7
namespace Go.Proofs.Ytfcfnnkepjoncaa.Pure
open Go.RowKit Go.Proofs.Ytfcfnnkepjoncaa.PA Go.Proofs.Ytfcfnnkepjoncaa.Hand Go.Proofs.YtfcfnnkepjoncaaW.PrintWords Go.Proofs.YtfcfnnkepjoncaaW.PrintLast
set_option linter.unusedVariables false
set_option linter.unusedSimpArgs false
set_option linter.unusedSectionVars false

/-- is a digit there? -/
def dg (s : ByteArray) (i : Nat) : Prop := i < s.size ∧ 48 ≤ bt s i ∧ bt s i ≤ 57
instance (s : ByteArray) (i : Nat) : Decidable (dg s i) := by unfold dg; infer_instance
/-- the place behind the digits at i -/
def dEnd (s : ByteArray) (i : Nat) : Nat := if dg s i then dEnd s (i + 1) else i
termination_by s.size - i
decreasing_by rename_i h; have := h.1; omega

theorem dEnd_yes {s : ByteArray} {i : Nat} (h : dg s i) : dEnd s i = dEnd s (i + 1) := by rw [dEnd, if_pos h]
theorem dEnd_no {s : ByteArray} {i : Nat} (h : ¬ dg s i) : dEnd s i = i := by rw [dEnd, if_neg h]
theorem dEnd_ind (s : ByteArray) (d : Nat) : ∀ i, s.size - i ≤ d → i ≤ dEnd s i ∧ (i ≤ s.size → dEnd s i ≤ s.size) ∧ ¬ dg s (dEnd s i) := by
  induction d with
  | zero =>
    intro i h
    have hn : ¬ dg s i := fun hd => by have := hd.1; omega
    rw [dEnd_no hn]; exact ⟨Nat.le_refl _, id, hn⟩
  | succ d ih =>
    intro i h
    by_cases hd : dg s i
    · have h1 := hd.1
      obtain ⟨a, b, c⟩ := ih (i + 1) (by omega)
      rw [dEnd_yes hd]; exact ⟨by omega, fun _ => b (by omega), c⟩
    · rw [dEnd_no hd]; exact ⟨Nat.le_refl _, id, hd⟩
theorem le_dEnd (s : ByteArray) (i : Nat) : i ≤ dEnd s i := (dEnd_ind s _ i (Nat.le_refl _)).1
theorem dEnd_le {s : ByteArray} {i : Nat} (h : i ≤ s.size) : dEnd s i ≤ s.size := (dEnd_ind s _ i (Nat.le_refl _)).2.1 h
theorem not_dg_dEnd (s : ByteArray) (i : Nat) : ¬ dg s (dEnd s i) := (dEnd_ind s _ i (Nat.le_refl _)).2.2
theorem dEnd_lt {s : ByteArray} {i : Nat} (h : dg s i) : i < dEnd s i := by have := le_dEnd s (i + 1); rw [dEnd_yes h]; omega

theorem dg_ne {s : ByteArray} {i : Nat} (h : dg s i) : dEnd s i ≠ i := by have := dEnd_lt h; omega
theorem dg_of_ne {s : ByteArray} {i : Nat} (h : dEnd s i ≠ i) : dg s i := Decidable.byContradiction fun hn => h (dEnd_no hn)

theorem len_toList (s : ByteArray) : s.toList.length = s.size := by rw [ByteArray.toList_eq]; exact data_length s

theorem wrap_small {x : Int} (h0 : 0 ≤ x) (h : x ≤ 1000000000000000000) : wrap64 x = x := by unfold wrap64; omega

section
variable (s : ByteArray) (hs : s.size ≤ 1000000000000000)
include hs

/-- The program's scan from a state on. -/
def PS (s : ByteArray) (st : Int) (i : Nat) (r : Int × Int) : Prop := Ev (fun k => num_Scan.l0 k s st (s.size : Int) (i : Int)) r

theorem PS_step {st : Int} {i : Nat} {r : Int × Int} (hi : i < s.size) (st' : Int) (h9 : stepN st (bt s i) = st') (hn : st' ≠ 9) (h : PS s st' (i + 1) r) : PS s st i r := by
  subst h9
  refine Ev.step (f := fun k => num_Scan.l0 k s (stepN st (bt s i)) (s.size : Int) ((i + 1 : Nat) : Int)) (fun k => ?_) h
  simp only [num_Scan.l0, num_step.f, Option.bind_some]
  rw [if_pos (by omega), if_pos (by omega), if_pos (by omega), if_neg hn, wrap_small (by omega) (by omega)]
  simp

theorem PS_stop {st : Int} {i : Nat} (hi : i < s.size) (h9 : stepN st (bt s i) = 9) (b : Bool) (he : num_ends.f st = some b) : PS s st i ((i : Int), if b then 0 else 4) := by
  refine Ev.step (f := fun _ => some ((i : Int), if b then 0 else 4)) (fun k => ?_) (Ev.now _)
  simp only [num_Scan.l0, num_step.f, Option.bind_some]
  rw [if_pos (by omega), if_pos (by omega), if_pos (by omega), if_pos h9, he]
  cases b <;> simp

theorem PS_end {st : Int} (b : Bool) (he : num_ends.f st = some b) : PS s st s.size ((s.size : Int), if b then 0 else 3) := by
  refine Ev.step (f := fun _ => some ((s.size : Int), if b then 0 else 3)) (fun k => ?_) (Ev.now _)
  simp only [num_Scan.l0]
  rw [if_neg (by omega), he]
  cases b <;> simp

theorem PS_digits {st : Int} (h : st = 3 ∨ st = 5 ∨ st = 8) {r : Int × Int} (d : Nat) : ∀ i, s.size - i ≤ d → PS s st (dEnd s i) r → PS s st i r := by
  induction d with
  | zero =>
    intro i hi h
    have hn : ¬ dg s i := fun hd => by have := hd.1; omega
    rw [dEnd_no hn] at h; exact h
  | succ d ih =>
    intro i hi h
    by_cases hd : dg s i
    · have h1 := hd
      unfold dg at h1
      rw [dEnd_yes hd] at h
      refine PS_step s hs h1.1 st ?_ ?_ (ih _ (by omega) h)
      · have a : ¬ bt s i = 45 := by omega
        have b : ¬ bt s i = 46 := by omega
        have c : ¬ bt s i = 101 := by omega
        have e : ¬ bt s i = 69 := by omega
        have f : ¬ bt s i = 43 := by omega
        rcases ‹st = 3 ∨ st = 5 ∨ st = 8› with rfl | rfl | rfl <;> simp [stepN, a, b, c, e, f, h1.2.1, h1.2.2]
      · rcases ‹st = 3 ∨ st = 5 ∨ st = 8› with rfl | rfl | rfl <;> decide
    · rw [dEnd_no hd] at h; exact h

/-- the document's answer, by places -/
def badS (s : ByteArray) (i : Nat) : Int × Int := if s.size ≤ i then ((s.size : Int), 3) else ((i : Int), 4)
def expS (s : ByteArray) (i : Nat) : Int × Int := if dEnd s i = i then badS s i else ((dEnd s i : Int), 0)
def signS (s : ByteArray) (i : Nat) : Int × Int := if i < s.size ∧ (bt s i = 43 ∨ bt s i = 45) then expS s (i + 1) else expS s i
def eS (s : ByteArray) (i : Nat) : Int × Int := if i < s.size ∧ (bt s i = 101 ∨ bt s i = 69) then signS s (i + 1) else ((i : Int), 0)
def fracS (s : ByteArray) (i : Nat) : Int × Int := if i < s.size ∧ bt s i = 46 then (if dEnd s (i + 1) = i + 1 then badS s (i + 1) else eS s (dEnd s (i + 1))) else eS s i
def wholeS (s : ByteArray) (i : Nat) : Int × Int := if dEnd s i = i then badS s i else fracS s (if bt s i = 48 then i + 1 else dEnd s i)
def scanS (s : ByteArray) : Int × Int := if 0 < s.size ∧ bt s 0 = 45 then wholeS s 1 else wholeS s 0

/-- a state that wants a digit, and none is there -/
theorem PS_bad {st : Int} {i : Nat} (hi : i ≤ s.size) (he : num_ends.f st = some false) (h : i < s.size → stepN st (bt s i) = 9) : PS s st i (badS s i) := by
  unfold badS
  by_cases e : s.size ≤ i
  · obtain rfl : i = s.size := by omega
    rw [if_pos (Nat.le_refl _)]; simpa using PS_end s hs false he
  · rw [if_neg e]; simpa using PS_stop s hs (by omega) (h (by omega)) false he


theorem PS_8 {i : Nat} (hi : i ≤ s.size) : PS s 8 i ((dEnd s i : Int), 0) := by
  refine PS_digits s hs (by decide) _ i (Nat.le_refl _) ?_
  have h1 := not_dg_dEnd s i
  have h2 := dEnd_le hi
  by_cases e : dEnd s i = s.size
  · rw [e]; exact PS_end s hs true rfl
  · have hlt : dEnd s i < s.size := by omega
    refine PS_stop s hs hlt ?_ true rfl
    unfold dg at h1
    have : ¬ (48 ≤ bt s (dEnd s i) ∧ bt s (dEnd s i) ≤ 57) := fun h => h1 ⟨hlt, h⟩
    simp [stepN, this]

theorem PS_exp {st : Int} (hst : st = 6 ∨ st = 7) {i : Nat} (hi : i ≤ s.size) (h6 : st = 6 → i < s.size → bt s i ≠ 43 ∧ bt s i ≠ 45) : PS s st i (expS s i) := by
  unfold expS
  by_cases hd : dg s i
  · rw [if_neg (dg_ne hd), dEnd_yes hd]
    have h1 := hd
    unfold dg at h1
    refine PS_step s hs h1.1 8 ?_ (by decide) (PS_8 s hs (by omega))
    have a : ¬ bt s i = 43 := by omega
    have b : ¬ bt s i = 45 := by omega
    rcases hst with rfl | rfl <;> simp [stepN, a, b, h1.2.1, h1.2.2]
  · rw [if_pos (dEnd_no hd)]
    refine PS_bad s hs hi (by rcases hst with rfl | rfl <;> rfl) fun hlt => ?_
    unfold dg at hd
    have h2 : ¬ (48 ≤ bt s i ∧ bt s i ≤ 57) := fun h => hd ⟨hlt, h⟩
    rcases hst with rfl | rfl
    · have := h6 rfl hlt
      simp [stepN, this, h2]
    · simp [stepN, h2]

theorem PS_6 {i : Nat} (hi : i ≤ s.size) : PS s 6 i (signS s i) := by
  unfold signS
  by_cases c : i < s.size ∧ (bt s i = 43 ∨ bt s i = 45)
  · rw [if_pos c]
    refine PS_step s hs c.1 7 ?_ (by decide) (PS_exp s hs (.inr rfl) (by omega) (by intro h; cases h))
    simp [stepN, c.2]
  · rw [if_neg c]
    refine PS_exp s hs (.inl rfl) hi fun _ hlt => ?_
    constructor <;> (intro h; exact c ⟨hlt, by simp [h]⟩)

/-- behind the whole part, or the part behind the point: an e, or the end -/
theorem PS_e {st : Int} (hst : st = 2 ∨ st = 3 ∨ st = 5) {i : Nat} (hi : i ≤ s.size) (hd : st ≠ 2 → ¬ dg s i) (hp : st ≠ 5 → i < s.size → bt s i ≠ 46) : PS s st i (eS s i) := by
  unfold eS
  have hends : num_ends.f st = some true := by rcases hst with rfl | rfl | rfl <;> rfl
  by_cases c : i < s.size ∧ (bt s i = 101 ∨ bt s i = 69)
  · rw [if_pos c]
    refine PS_step s hs c.1 6 ?_ (by decide) (PS_6 s hs (by omega))
    have : bt s i ≠ 46 := by omega
    rcases hst with rfl | rfl | rfl <;> simp [stepN, c.2, this]
  · rw [if_neg c]
    by_cases e : i = s.size
    · subst e; exact PS_end s hs true hends
    · have hlt : i < s.size := by omega
      refine PS_stop s hs hlt ?_ true hends
      have h1 : bt s i ≠ 101 := fun h => c ⟨hlt, .inl h⟩
      have h2 : bt s i ≠ 69 := fun h => c ⟨hlt, .inr h⟩
      rcases hst with rfl | rfl | rfl
      · have := hp (by decide) hlt
        simp [stepN, h1, h2, this]
      · have := hp (by decide) hlt
        have h3 : ¬ (48 ≤ bt s i ∧ bt s i ≤ 57) := fun h => hd (by decide) ⟨hlt, h⟩
        simp [stepN, h1, h2, this, h3]
      · have h3 : ¬ (48 ≤ bt s i ∧ bt s i ≤ 57) := fun h => hd (by decide) ⟨hlt, h⟩
        simp [stepN, h1, h2, h3]

theorem PS_frac {st : Int} (hst : st = 2 ∨ st = 3) {i : Nat} (hi : i ≤ s.size) (hd : st ≠ 2 → ¬ dg s i) : PS s st i (fracS s i) := by
  unfold fracS
  by_cases c : i < s.size ∧ bt s i = 46
  · rw [if_pos c]
    refine PS_step s hs c.1 4 (by rcases hst with rfl | rfl <;> simp [stepN, c.2]) (by decide) ?_
    by_cases h : dg s (i + 1)
    · rw [if_neg (dg_ne h), dEnd_yes h]
      have h1 := h
      unfold dg at h1
      refine PS_step s hs h1.1 5 (by unfold stepN; rw [if_neg (by decide), if_neg (by decide), if_pos rfl, if_pos h1.2]) (by decide) ?_
      refine PS_digits s hs (by decide) _ _ (Nat.le_refl _) ?_
      exact PS_e s hs (by decide) (dEnd_le (by omega)) (fun _ => not_dg_dEnd _ _) (fun h => absurd rfl h)
    · rw [if_pos (dEnd_no h)]
      refine PS_bad s hs (by omega) rfl fun hlt => ?_
      have h2 : ¬ (48 ≤ bt s (i + 1 : Nat) ∧ bt s (i + 1 : Nat) ≤ 57) := fun h' => h ⟨hlt, h'⟩
      show stepN 4 (bt s ((i + 1 : Nat) : Int)) = 9
      unfold stepN; rw [if_neg (by decide), if_neg (by decide), if_pos rfl, if_neg h2]
  · rw [if_neg c]
    exact PS_e s hs (by rcases hst with rfl | rfl <;> decide) hi hd (fun _ hlt h => c ⟨hlt, h⟩)

theorem PS_whole {st : Int} (hst : st = 0 ∨ st = 1) {i : Nat} (hi : i ≤ s.size) (hm : st = 0 → i < s.size → bt s i ≠ 45) : PS s st i (wholeS s i) := by
  unfold wholeS
  by_cases hd : dg s i
  · rw [if_neg (dg_ne hd)]
    have h1 := hd
    unfold dg at h1
    have a : ¬ bt s i = 45 := by omega
    by_cases z : bt s i = 48
    · rw [if_pos z]
      refine PS_step s hs h1.1 2 (by rcases hst with rfl | rfl <;> simp [stepN, a, z]) (by decide) ?_
      exact PS_frac s hs (.inl rfl) (by omega) (fun h => absurd rfl h)
    · rw [if_neg z, dEnd_yes hd]
      refine PS_step s hs h1.1 3 (by rcases hst with rfl | rfl <;> simp [stepN, a, z, h1.2.1, h1.2.2]) (by decide) ?_
      refine PS_digits s hs (by decide) _ _ (Nat.le_refl _) ?_
      exact PS_frac s hs (.inr rfl) (dEnd_le (by omega)) (fun _ => not_dg_dEnd _ _)
  · rw [if_pos (dEnd_no hd)]
    refine PS_bad s hs hi (by rcases hst with rfl | rfl <;> rfl) fun hlt => ?_
    unfold dg at hd
    have h2 : ¬ (48 ≤ bt s i ∧ bt s i ≤ 57) := fun h => hd ⟨hlt, h⟩
    have h3 : ¬ bt s i = 48 := by omega
    rcases hst with rfl | rfl
    · have := hm rfl hlt
      simp [stepN, this, h2, h3]
    · simp [stepN, h2, h3]

theorem prog_scan : Ev (fun k => num_Scan.f k s) (scanS s) := by
  unfold num_Scan.f scanS
  by_cases c : 0 < s.size ∧ bt s 0 = 45
  · rw [if_pos c]
    exact PS_step s hs (i := 0) c.1 1 (by simp [stepN, c.2]) (by decide) (PS_whole s hs (.inr rfl) (by omega) (by intro h; cases h))
  · rw [if_neg c]
    exact PS_whole s hs (.inl rfl) (Nat.zero_le _) (fun _ hlt h => c ⟨hlt, by simpa using h⟩)

/-! the document's -/
theorem ref_run (d : Nat) : ∀ i j, s.size - (i + j) ≤ d → i + j ≤ s.size → dEnd s (i + j) = dEnd s i → Ev (fun k => glossatorref07_run.l0 k s (i : Int) (j : Int)) ((dEnd s i : Int) - i) := by
  induction d with
  | zero =>
    intro i j h h1 h2
    refine Ev.step (f := fun _ => some (j : Int)) (fun k => ?_) (by
      have : i + j = s.size := by omega
      have hn : ¬ dg s (i + j) := fun hd => by have := hd.1; omega
      rw [dEnd_no hn] at h2
      rw [← h2]; have e : (((i + j : Nat) : Int) - (i : Int)) = (j : Int) := by omega
      rw [e]; exact Ev.now _)
    simp only [glossatorref07_run.l0]
    rw [wrap_small (by omega) (by omega), if_neg (by omega)]
  | succ d ih =>
    intro i j h h1 h2
    by_cases hd : dg s (i + j)
    · have q := hd
      unfold dg at q
      have hb : ((i + j : Nat) : Int) = (i : Int) + (j : Int) := by omega
      rw [hb] at q
      refine Ev.step (f := fun k => glossatorref07_run.l0 k s (i : Int) ((j + 1 : Nat) : Int)) (fun k => ?_) (ih i (j + 1) (by omega) (by omega) (by rw [← h2, dEnd_yes hd]; rfl))
      simp only [glossatorref07_run.l0]
      rw [wrap_small (x := (i : Int) + j) (by omega) (by omega), if_pos (by omega), if_pos (by omega), if_pos q.2.1, if_pos q.2.2, wrap_small (by omega) (by omega)]
      simp
    · rw [dEnd_no hd] at h2
      refine Ev.step (f := fun _ => some (j : Int)) (fun k => ?_) (by
        rw [← h2]; have e : (((i + j : Nat) : Int) - (i : Int)) = (j : Int) := by omega
        rw [e]; exact Ev.now _)
      simp only [glossatorref07_run.l0]
      rw [wrap_small (by omega) (by omega)]
      by_cases c : i + j < s.size
      · have hn : ¬ (48 ≤ bt s ((i : Int) + j) ∧ bt s ((i : Int) + j) ≤ 57) := fun h => hd ⟨c, by rw [show ((i + j : Nat) : Int) = (i : Int) + j from by omega]; exact h⟩
        rw [if_pos (by omega), if_pos (by omega)]
        by_cases c1 : bt s ((i : Int) + j) ≥ 48
        · rw [if_pos c1, if_neg (fun h => hn ⟨c1, h⟩)]
        · rw [if_neg c1]
      · rw [if_neg (by omega)]

theorem ref_run_f {i : Nat} (h : i ≤ s.size) : Ev (fun k => glossatorref07_run.f k s (i : Int)) ((dEnd s i : Int) - i) := by
  unfold glossatorref07_run.f
  exact ref_run s hs _ i 0 (Nat.le_refl _) (by omega) rfl

theorem ref_bad {i : Nat} (h : i ≤ s.size) : glossatorref07_bad.f s (i : Int) = some (badS s i) := by
  unfold glossatorref07_bad.f badS
  by_cases c : s.size ≤ i
  · rw [if_pos (by omega), if_pos c]
  · rw [if_neg (by omega), if_neg c]

theorem ref_j7 {i : Nat} (h : i ≤ s.size) : Ev (fun k => glossatorref07_Scan.j7 k s (i : Int)) (expS s i) := by
  have hl := le_dEnd s i
  have hu := dEnd_le h
  refine Ev.step (fun k => rfl) (Ev.bind (ref_run_f s hs h) ?_)
  unfold expS
  by_cases c : dEnd s i = i
  · simp only [if_pos c, if_pos (show ((dEnd s i : Int) - i) = 0 from by omega)]
    rw [ref_bad s hs h]; exact Ev.now _
  · simp only [if_neg c, if_neg (show ¬ ((dEnd s i : Int) - i) = 0 from by omega)]
    rw [wrap_small (by omega) (by omega), show (i : Int) + ((dEnd s i : Int) - i) = dEnd s i from by omega]; exact Ev.now _

theorem ref_j6 {i : Nat} (h : i ≤ s.size) (b : Bool) (hb : b = true → i < s.size) : Ev (fun k => glossatorref07_Scan.j6 k s (i : Int) b) (if b then expS s (i + 1) else expS s i) := by
  cases b with
  | true =>
    refine Ev.step (f := fun k => glossatorref07_Scan.j7 k s ((i + 1 : Nat) : Int)) (fun k => ?_) (by simpa using ref_j7 s hs (i := i + 1) (by have := hb rfl; omega))
    simp only [glossatorref07_Scan.j6]
    rw [if_pos trivial, wrap_small (by omega) (by omega)]; rfl
  | false =>
    refine Ev.step (f := fun k => glossatorref07_Scan.j7 k s (i : Int)) (fun k => ?_) (by simpa using ref_j7 s hs h)
    simp only [glossatorref07_Scan.j6]
    rw [if_neg (by decide)]

theorem ref_j5 {i : Nat} (h : i ≤ s.size) (b : Bool) (hb : b = true → i < s.size) : Ev (fun k => glossatorref07_Scan.j5 k s (i : Int) b) (if b then signS s (i + 1) else ((i : Int), 0)) := by
  cases b with
  | false =>
    refine Ev.step (f := fun k => some ((i : Int), 0)) (fun k => ?_) (by simpa using Ev.now _)
    simp only [glossatorref07_Scan.j5]
    rw [if_neg (by decide)]
  | true =>
    have hi := hb rfl
    refine Ev.step (f := fun k => glossatorref07_Scan.j6 k s ((i + 1 : Nat) : Int) (decide (i + 1 < s.size ∧ (bt s (i + 1 : Nat) = 43 ∨ bt s (i + 1 : Nat) = 45)))) (fun k => ?_) ?_
    · simp only [glossatorref07_Scan.j5]
      rw [if_pos trivial, wrap_small (by omega) (by omega)]
      rw [show ((i : Int) + 1) = ((i + 1 : Nat) : Int) from by omega]
      by_cases c : i + 1 < s.size
      · rw [if_pos (by omega), if_pos (by omega)]
        by_cases c1 : bt s (i + 1 : Nat) = 43
        · rw [if_pos c1, decide_eq_true ⟨c, .inl c1⟩]
        · rw [if_neg c1]
          by_cases c2 : bt s (i + 1 : Nat) = 45
          · rw [decide_eq_true (show i + 1 < s.size ∧ _ from ⟨c, .inr c2⟩), beq_iff_eq.2 c2]
          · rw [decide_eq_false (fun h => by rcases h.2 with h | h; exact c1 h; exact c2 h), beq_eq_false_iff_ne.2 c2]
      · rw [if_neg (by omega), decide_eq_false (fun h => c h.1)]
    · have := ref_j6 s hs (i := i + 1) (by omega) (decide (i + 1 < s.size ∧ (bt s (i + 1 : Nat) = 43 ∨ bt s (i + 1 : Nat) = 45))) (fun h => (of_decide_eq_true h).1)
      simpa only [signS, decide_eq_true_eq, if_true] using this

theorem ref_j4 {i : Nat} (h : i ≤ s.size) : Ev (fun k => glossatorref07_Scan.j4 k s (i : Int)) (eS s i) := by
  have := ref_j5 s hs h (decide (i < s.size ∧ (bt s (i : Nat) = 101 ∨ bt s (i : Nat) = 69))) (fun h => (of_decide_eq_true h).1)
  simp only [decide_eq_true_eq] at this
  unfold eS
  refine Ev.step (fun k => ?_) this
  simp only [glossatorref07_Scan.j4]
  by_cases c : i < s.size
  · rw [if_pos (by omega), if_pos (by omega)]
    by_cases c1 : bt s (i : Nat) = 101
    · rw [if_pos c1, decide_eq_true ⟨c, .inl c1⟩]
    · rw [if_neg c1]
      by_cases c2 : bt s (i : Nat) = 69
      · rw [decide_eq_true (show i < s.size ∧ _ from ⟨c, .inr c2⟩), beq_iff_eq.2 c2]
      · rw [decide_eq_false (fun h => by rcases h.2 with h | h; exact c1 h; exact c2 h), beq_eq_false_iff_ne.2 c2]
  · rw [if_neg (by omega), decide_eq_false (fun h => c h.1)]

theorem ref_j3 {i : Nat} (h : i ≤ s.size) (b : Bool) (hb : b = true → i < s.size) : Ev (fun k => glossatorref07_Scan.j3 k s (i : Int) b) (if b then (if dEnd s (i + 1) = i + 1 then badS s (i + 1) else eS s (dEnd s (i + 1))) else eS s i) := by
  cases b with
  | false =>
    refine Ev.step (f := fun k => glossatorref07_Scan.j4 k s (i : Int)) (fun k => ?_) (by simpa using ref_j4 s hs h)
    simp only [glossatorref07_Scan.j3]
    rw [if_neg (by decide)]
  | true =>
    have hi := hb rfl
    have hl := le_dEnd s (i + 1)
    have hu := dEnd_le (s := s) (i := i + 1) (by omega)
    refine Ev.step (f := fun k => (glossatorref07_run.f k s ((i + 1 : Nat) : Int)).bind fun t107 => (if t107 = 0 then ((glossatorref07_bad.f s ((i + 1 : Nat) : Int)).bind fun bt108 => (some (bt108.1, bt108.2))) else (glossatorref07_Scan.j4 k s (wrap64 (((i + 1 : Nat) : Int) + t107))))) (fun k => ?_) (Ev.bind (ref_run_f s hs (by omega)) ?_)
    · simp only [glossatorref07_Scan.j3]
      rw [if_pos trivial, wrap_small (x := (i : Int) + 1) (by omega) (by omega)]; rfl
    · by_cases c : dEnd s (i + 1) = i + 1
      · simp only [if_pos c, if_true, if_pos (show ((dEnd s (i + 1) : Int) - ((i + 1 : Nat) : Int)) = 0 from by omega)]
        rw [ref_bad s hs (by omega)]; exact Ev.now _
      · simp only [if_neg c, if_true, if_neg (show ¬ ((dEnd s (i + 1) : Int) - ((i + 1 : Nat) : Int)) = 0 from by omega)]
        rw [wrap_small (by omega) (by omega), show ((i + 1 : Nat) : Int) + ((dEnd s (i + 1) : Int) - ((i + 1 : Nat) : Int)) = dEnd s (i + 1) from by omega]; exact ref_j4 s hs hu

theorem ref_j2 {i j : Nat} (h : i + j ≤ s.size) : Ev (fun k => glossatorref07_Scan.j2 k s (i : Int) (j : Int)) (fracS s (i + j)) := by
  have := ref_j3 s hs h (decide (i + j < s.size ∧ bt s (i + j : Nat) = 46)) (fun h => (of_decide_eq_true h).1)
  simp only [decide_eq_true_eq] at this
  unfold fracS
  refine Ev.step (fun k => ?_) this
  simp only [glossatorref07_Scan.j2]
  rw [wrap_small (by omega) (by omega), show (i : Int) + j = ((i + j : Nat) : Int) from by omega]
  by_cases c : i + j < s.size
  · rw [if_pos (by omega), if_pos (by omega)]
    by_cases c1 : bt s (i + j : Nat) = 46
    · rw [decide_eq_true (show i + j < s.size ∧ _ from ⟨c, c1⟩), beq_iff_eq.2 c1]
    · rw [decide_eq_false (fun h => c1 h.2), beq_eq_false_iff_ne.2 c1]
  · rw [if_neg (by omega), decide_eq_false (fun h => c h.1)]

theorem ref_j1 {i : Nat} (h : i ≤ s.size) : Ev (fun k => glossatorref07_Scan.j1 k s (i : Int)) (wholeS s i) := by
  have hl := le_dEnd s i
  have hu := dEnd_le h
  refine Ev.step (fun k => rfl) (Ev.bind (ref_run_f s hs h) ?_)
  unfold wholeS
  by_cases c : dEnd s i = i
  · simp only [if_pos c, if_pos (show ((dEnd s i : Int) - i) = 0 from by omega)]
    rw [ref_bad s hs h]; exact Ev.now _
  · have hd := (dg_of_ne c).1
    simp only [if_neg c, if_neg (show ¬ ((dEnd s i : Int) - i) = 0 from by omega), if_pos (show 0 ≤ (i : Int) from by omega), if_pos (show (i : Int) < (s.size : Int) from by omega)]
    by_cases c1 : bt s i = 48
    · simp only [if_pos c1]
      exact ref_j2 s hs (i := i) (j := 1) (by omega)
    · simp only [if_neg c1]
      have := ref_j2 s hs (i := i) (j := dEnd s i - i) (by omega)
      rw [show i + (dEnd s i - i) = dEnd s i from by omega, show ((dEnd s i - i : Nat) : Int) = (dEnd s i : Int) - i from by omega] at this
      exact this

theorem ref_scan : Ev (fun k => glossatorref07_Scan.f k s) (scanS s) := by
  unfold scanS
  by_cases c : s.toList = []
  · have hz : s.size = 0 := by
      have h2 : s.toList.length = 0 := by rw [c]; rfl
      rwa [len_toList] at h2
    rw [if_neg (by omega)]
    simp only [glossatorref07_Scan.f, if_pos c]
    refine Ev.step (f := fun k => glossatorref07_Scan.j1 k s ((0 : Nat) : Int)) (fun k => ?_) (ref_j1 s hs (Nat.zero_le _))
    simp only [glossatorref07_Scan.j0]
    rw [if_neg (by decide)]; rfl
  · have hz : 0 < s.size := by
      rcases Nat.eq_zero_or_pos s.size with h | h
      · exact absurd (List.eq_nil_of_length_eq_zero (by rw [len_toList]; exact h)) c
      · exact h
    simp only [glossatorref07_Scan.f, if_neg c, if_pos (show (0 : Int) < (s.size : Int) from by omega)]
    by_cases c1 : bt s 0 = 45
    · rw [if_pos ⟨hz, c1⟩, beq_iff_eq.2 c1]
      refine Ev.step (f := fun k => glossatorref07_Scan.j1 k s ((1 : Nat) : Int)) (fun k => ?_) (ref_j1 s hs (by omega))
      simp only [glossatorref07_Scan.j0]
      rw [if_pos trivial]; rfl
    · rw [if_neg (fun h => c1 h.2), beq_eq_false_iff_ne.2 c1]
      refine Ev.step (f := fun k => glossatorref07_Scan.j1 k s ((0 : Nat) : Int)) (fun k => ?_) (ref_j1 s hs (Nat.zero_le _))
      simp only [glossatorref07_Scan.j0]
      rw [if_neg (by decide)]; rfl
end

theorem awake_ev : Ev (fun k => glossatorlaw07_awake.f k) true := Ev.of glossatorlaw07_awake.mono (k := 5) (by decide +kernel)
end Go.Proofs.Ytfcfnnkepjoncaa.Pure
