/- (*glossatorref22.Job).two: a line of two words. -/
import Derived.Test.YtmejpcfbefjjaaaDoorSSet
namespace Go.Proofs.YtmejpcfbefjjaaaDoor.Scr
open Go.RowKit
set_option linter.unusedVariables false
set_option linter.unusedSimpArgs false
theorem from_cases (x : ByteArray) : (∃ i : Nat, pickF x [wJson, wCbor, wPack] 0 = some i ∧ fmtI x = i ∧ i < 3) ∨ (pickF x [wJson, wCbor, wPack] 0 = none ∧ (fmtI x = 3 ∨ fmtI x = -1)) := by
  by_cases h1 : x = wJson
  · subst h1; exact .inl ⟨0, by decide, by decide, by decide⟩
  by_cases h2 : x = wCbor
  · subst h2; exact .inl ⟨1, by decide, by decide, by decide⟩
  by_cases h3 : x = wPack
  · subst h3; exact .inl ⟨2, by decide, by decide, by decide⟩
  have hp : pickF x [wJson, wCbor, wPack] 0 = none := by
    unfold pickF; rw [if_neg (Ne.symm h1)]; unfold pickF; rw [if_neg (Ne.symm h2)]; unfold pickF; rw [if_neg (Ne.symm h3)]; rfl
  have hf : fmtI x = if x = wDiag then 3 else -1 := by unfold fmtI; rw [if_neg h1, if_neg h2, if_neg h3]
  refine .inr ⟨hp, ?_⟩
  by_cases h4 : x = wDiag
  · left; rw [hf, if_pos h4]
  · right; rw [hf, if_neg h4]
theorem to_cases (x : ByteArray) : (∃ i : Nat, pickF x [wJson, wCbor, wPack, wDiag] 0 = some i ∧ fmtI x = i ∧ i < 4) ∨ (pickF x [wJson, wCbor, wPack, wDiag] 0 = none ∧ fmtI x = -1) := by
  by_cases h1 : x = wJson
  · subst h1; exact .inl ⟨0, by decide, by decide, by decide⟩
  by_cases h2 : x = wCbor
  · subst h2; exact .inl ⟨1, by decide, by decide, by decide⟩
  by_cases h3 : x = wPack
  · subst h3; exact .inl ⟨2, by decide, by decide, by decide⟩
  by_cases h4 : x = wDiag
  · subst h4; exact .inl ⟨3, by decide, by decide, by decide⟩
  refine .inr ⟨?_, by unfold fmtI; rw [if_neg h1, if_neg h2, if_neg h3, if_neg h4]⟩
  unfold pickF; rw [if_neg (Ne.symm h1)]; unfold pickF; rw [if_neg (Ne.symm h2)]; unfold pickF; rw [if_neg (Ne.symm h3)]; unfold pickF; rw [if_neg (Ne.symm h4)]; rfl
theorem mode_cases (x : ByteArray) : (∃ i : Nat, pickF x [wStrict, wLossy] 0 = some i ∧ modeI x = i ∧ i < 2) ∨ (pickF x [wStrict, wLossy] 0 = none ∧ modeI x = -1) := by
  by_cases h1 : x = wStrict
  · subst h1; exact .inl ⟨0, by decide, by decide, by decide⟩
  by_cases h2 : x = wLossy
  · subst h2; exact .inl ⟨1, by decide, by decide, by decide⟩
  refine .inr ⟨?_, by unfold modeI; rw [if_neg h1, if_neg h2]⟩
  unfold pickF; rw [if_neg (Ne.symm h1)]; unfold pickF; rw [if_neg (Ne.symm h2)]; rfl
set_option maxRecDepth 100000 in
set_option maxHeartbeats 8000000 in
theorem two_from (J base : Nat) (j : Job) (ch : Value) (vs : List Value) (x : ByteArray) (w : World) (h : JB w 32 J j ch) (hc : Chunks w base j.chunks ch vs) (hJ : base ≤ J) (hb : base ≤ w.heap.size) (hx : x.size ≤ 65536) :
    Calls Tryd.prog 12 #[.pointer (some ⟨J, 0, none⟩), .string wFrom, .string x] w (SetPost 32 J base j wFrom x w) := by
  have hv := setV_from j x
  obtain ⟨Ac, cc, rfl, _⟩ := own_form hc.own
  have kn := fun W => rnumber_calls x W
  have kf := fun W => format_calls x W
  have c0 : w.cell? ⟨J, 0, none⟩ = some (.int .i64 j.frm) := h.cell 0
  have f0 := h.free 0
  obtain ⟨N, hN⟩ : ∃ N, numI (bts x) = N := ⟨_, rfl⟩
  rw [hN] at kn
  clear hN
  rcases from_cases x with ⟨i, hp, hf, hi⟩ | ⟨hp, hf | hf⟩
  · rw [hp] at hv
    rw [hf] at kf
    have HV := Lib.hid hv
    have hi0 : (0 : Int) ≤ (i : Int) := by omega
    have hi3 : ((i : Int) == 3) = false := by rw [beq_eq_false_iff_ne]; omega
    clear hv hp
    go_enter Tryd.func12, Tryd.ntmps12
    go_wp2_with (first | (go_at_call 21; (with_reducible refine (kn _).mono ?_); clear kn; rintro e1 w1 ⟨rfl, hw⟩; obtain rfl := hw.symm; clear hw) | (go_at_call 22; (with_reducible refine (kf _).mono ?_); clear kf; rintro e2 w2 ⟨rfl, hw⟩; obtain rfl := hw.symm; clear hw))
    go_ret
    exact .inr ⟨{ j with frm := (i : Int) }, _, vs, HV.out, ret_bool (by simp; omega), h.set 0 _ rfl, hc.setJ h (by decide) 0 _, Nat.le_succ _, (Below.refl base w).setCell (p := ⟨J, 0, none⟩) hJ _, KJ.setCell h 0 _⟩
  · rw [hp] at hv
    rw [hf] at kf
    have HV := Lib.hid hv
    clear hv hp
    go_enter Tryd.func12, Tryd.ntmps12
    go_wp2_with (first | (go_at_call 21; (with_reducible refine (kn _).mono ?_); clear kn; rintro e1 w1 ⟨rfl, hw⟩; obtain rfl := hw.symm; clear hw) | (go_at_call 22; (with_reducible refine (kf _).mono ?_); clear kf; rintro e2 w2 ⟨rfl, hw⟩; obtain rfl := hw.symm; clear hw))
    go_ret
    exact .inl ⟨HV.out, rfl, (Below.refl base w).setCell (p := ⟨J, 0, none⟩) hJ _, { j with frm := 3 }, _, _, _, h.set 0 _ rfl⟩
  · rw [hp] at hv
    rw [hf] at kf
    have HV := Lib.hid hv
    clear hv hp
    go_enter Tryd.func12, Tryd.ntmps12
    go_wp2_with (first | (go_at_call 21; (with_reducible refine (kn _).mono ?_); clear kn; rintro e1 w1 ⟨rfl, hw⟩; obtain rfl := hw.symm; clear hw) | (go_at_call 22; (with_reducible refine (kf _).mono ?_); clear kf; rintro e2 w2 ⟨rfl, hw⟩; obtain rfl := hw.symm; clear hw))
    go_ret
    exact .inl ⟨HV.out, rfl, (Below.refl base w).setCell (p := ⟨J, 0, none⟩) hJ _, { j with frm := -1 }, _, _, _, h.set 0 _ rfl⟩
set_option maxRecDepth 100000 in
set_option maxHeartbeats 8000000 in
theorem two_to (J base : Nat) (j : Job) (ch : Value) (vs : List Value) (x : ByteArray) (w : World) (h : JB w 32 J j ch) (hc : Chunks w base j.chunks ch vs) (hJ : base ≤ J) (hb : base ≤ w.heap.size) (hx : x.size ≤ 65536) :
    Calls Tryd.prog 12 #[.pointer (some ⟨J, 0, none⟩), .string wTo, .string x] w (SetPost 32 J base j wTo x w) := by
  have hv := setV_to j x
  obtain ⟨Ac, cc, rfl, _⟩ := own_form hc.own
  have kn := fun W => rnumber_calls x W
  have kf := fun W => format_calls x W
  have c0 : w.cell? ⟨J, 1, none⟩ = some (.int .i64 j.too) := h.cell 1
  have f0 := h.free 1
  obtain ⟨N, hN⟩ : ∃ N, numI (bts x) = N := ⟨_, rfl⟩
  rw [hN] at kn
  clear hN
  rcases to_cases x with ⟨i, hp, hf, hi⟩ | ⟨hp, hf⟩
  · rw [hp] at hv
    rw [hf] at kf
    have HV := Lib.hid hv
    have hi0 : (0 : Int) ≤ (i : Int) := by omega
    clear hv hp
    go_enter Tryd.func12, Tryd.ntmps12
    go_wp2_with (first | (go_at_call 21; (with_reducible refine (kn _).mono ?_); clear kn; rintro e1 w1 ⟨rfl, hw⟩; obtain rfl := hw.symm; clear hw) | (go_at_call 22; (with_reducible refine (kf _).mono ?_); clear kf; rintro e2 w2 ⟨rfl, hw⟩; obtain rfl := hw.symm; clear hw))
    go_ret
    exact .inr ⟨{ j with too := (i : Int) }, _, vs, HV.out, ret_bool (by simp), h.set 1 _ rfl, hc.setJ h (by decide) 1 _, Nat.le_succ _, (Below.refl base w).setCell (p := ⟨J, 1, none⟩) hJ _, KJ.setCell h 1 _⟩
  · rw [hp] at hv
    rw [hf] at kf
    have HV := Lib.hid hv
    clear hv hp
    go_enter Tryd.func12, Tryd.ntmps12
    go_wp2_with (first | (go_at_call 21; (with_reducible refine (kn _).mono ?_); clear kn; rintro e1 w1 ⟨rfl, hw⟩; obtain rfl := hw.symm; clear hw) | (go_at_call 22; (with_reducible refine (kf _).mono ?_); clear kf; rintro e2 w2 ⟨rfl, hw⟩; obtain rfl := hw.symm; clear hw))
    go_ret
    exact .inl ⟨HV.out, rfl, (Below.refl base w).setCell (p := ⟨J, 1, none⟩) hJ _, { j with too := -1 }, _, _, _, h.set 1 _ rfl⟩
set_option maxRecDepth 100000 in
set_option maxHeartbeats 8000000 in
theorem two_mode (J base : Nat) (j : Job) (ch : Value) (vs : List Value) (x : ByteArray) (w : World) (h : JB w 32 J j ch) (hc : Chunks w base j.chunks ch vs) (hJ : base ≤ J) (hb : base ≤ w.heap.size) (hx : x.size ≤ 65536) :
    Calls Tryd.prog 12 #[.pointer (some ⟨J, 0, none⟩), .string wMode, .string x] w (SetPost 32 J base j wMode x w) := by
  have hv := setV_mode j x
  obtain ⟨Ac, cc, rfl, _⟩ := own_form hc.own
  have kn := fun W => rnumber_calls x W
  have kf := fun W => mode_calls x W
  have c0 : w.cell? ⟨J, 2, none⟩ = some (.int .i64 j.mode) := h.cell 2
  have f0 := h.free 2
  obtain ⟨N, hN⟩ : ∃ N, numI (bts x) = N := ⟨_, rfl⟩
  rw [hN] at kn
  clear hN
  rcases mode_cases x with ⟨i, hp, hf, hi⟩ | ⟨hp, hf⟩
  · rw [hp] at hv
    rw [hf] at kf
    have HV := Lib.hid hv
    have hi0 : (0 : Int) ≤ (i : Int) := by omega
    clear hv hp
    go_enter Tryd.func12, Tryd.ntmps12
    go_wp2_with (first | (go_at_call 21; (with_reducible refine (kn _).mono ?_); clear kn; rintro e1 w1 ⟨rfl, hw⟩; obtain rfl := hw.symm; clear hw) | (go_at_call 23; (with_reducible refine (kf _).mono ?_); clear kf; rintro e2 w2 ⟨rfl, hw⟩; obtain rfl := hw.symm; clear hw))
    go_ret
    exact .inr ⟨{ j with mode := (i : Int) }, _, vs, HV.out, ret_bool (by simp), h.set 2 _ rfl, hc.setJ h (by decide) 2 _, Nat.le_succ _, (Below.refl base w).setCell (p := ⟨J, 2, none⟩) hJ _, KJ.setCell h 2 _⟩
  · rw [hp] at hv
    rw [hf] at kf
    have HV := Lib.hid hv
    clear hv hp
    go_enter Tryd.func12, Tryd.ntmps12
    go_wp2_with (first | (go_at_call 21; (with_reducible refine (kn _).mono ?_); clear kn; rintro e1 w1 ⟨rfl, hw⟩; obtain rfl := hw.symm; clear hw) | (go_at_call 23; (with_reducible refine (kf _).mono ?_); clear kf; rintro e2 w2 ⟨rfl, hw⟩; obtain rfl := hw.symm; clear hw))
    go_ret
    exact .inl ⟨HV.out, rfl, (Below.refl base w).setCell (p := ⟨J, 2, none⟩) hJ _, { j with mode := -1 }, _, _, _, h.set 2 _ rfl⟩
set_option maxRecDepth 100000 in
set_option maxHeartbeats 8000000 in
theorem two_depth (J base : Nat) (j : Job) (ch : Value) (vs : List Value) (x : ByteArray) (w : World) (h : JB w 32 J j ch) (hc : Chunks w base j.chunks ch vs) (hJ : base ≤ J) (hb : base ≤ w.heap.size) (hx : x.size ≤ 65536) :
    Calls Tryd.prog 12 #[.pointer (some ⟨J, 0, none⟩), .string wDepth, .string x] w (SetPost 32 J base j wDepth x w) := by
  have hv := setV_depth j x
  obtain ⟨Ac, cc, rfl, _⟩ := own_form hc.own
  have kn := fun W => rnumber_calls x W
  have c0 : w.cell? ⟨J, 3, none⟩ = some (.int .i64 j.depth) := h.cell 3
  have f0 := h.free 3
  cases hp : numV (bts x) with
  | none =>
    rw [hp] at hv
    have hf := numI_none hp
    rw [hf] at kn
    have HV := Lib.hid hv
    clear hv hp hf
    go_enter Tryd.func12, Tryd.ntmps12
    go_wp2_with (go_at_call 21; (with_reducible refine (kn _).mono ?_); clear kn; rintro e1 w1 ⟨rfl, hw⟩; obtain rfl := hw.symm; clear hw)
    go_ret
    exact .inl ⟨HV.out, rfl, (Below.refl base w).setCell (p := ⟨J, 3, none⟩) hJ _, { j with depth := -1 }, _, _, _, h.set 3 _ rfl⟩
  | some i =>
    rw [hp] at hv
    have hf := numI_some hp
    rw [hf] at kn
    have HV := Lib.hid hv
    have hi0 : (0 : Int) ≤ (i : Int) := by omega
    clear hv hp hf
    go_enter Tryd.func12, Tryd.ntmps12
    go_wp2_with (go_at_call 21; (with_reducible refine (kn _).mono ?_); clear kn; rintro e1 w1 ⟨rfl, hw⟩; obtain rfl := hw.symm; clear hw)
    go_ret
    exact .inr ⟨{ j with depth := (i : Int) }, _, vs, HV.out, ret_bool (by simp), h.set 3 _ rfl, hc.setJ h (by decide) 3 _, Nat.le_succ _, (Below.refl base w).setCell (p := ⟨J, 3, none⟩) hJ _, KJ.setCell h 3 _⟩
set_option maxRecDepth 100000 in
set_option maxHeartbeats 8000000 in
theorem two_size (J base : Nat) (j : Job) (ch : Value) (vs : List Value) (x : ByteArray) (w : World) (h : JB w 32 J j ch) (hc : Chunks w base j.chunks ch vs) (hJ : base ≤ J) (hb : base ≤ w.heap.size) (hx : x.size ≤ 65536) :
    Calls Tryd.prog 12 #[.pointer (some ⟨J, 0, none⟩), .string wSize, .string x] w (SetPost 32 J base j wSize x w) := by
  have hv := setV_size j x
  obtain ⟨Ac, cc, rfl, _⟩ := own_form hc.own
  have kn := fun W => rnumber_calls x W
  have c0 : w.cell? ⟨J, 4, none⟩ = some (.int .i64 j.size) := h.cell 4
  have f0 := h.free 4
  cases hp : numV (bts x) with
  | none =>
    rw [hp] at hv
    have hf := numI_none hp
    rw [hf] at kn
    have HV := Lib.hid hv
    clear hv hp hf
    go_enter Tryd.func12, Tryd.ntmps12
    go_wp2_with (go_at_call 21; (with_reducible refine (kn _).mono ?_); clear kn; rintro e1 w1 ⟨rfl, hw⟩; obtain rfl := hw.symm; clear hw)
    go_ret
    exact .inl ⟨HV.out, rfl, (Below.refl base w).setCell (p := ⟨J, 4, none⟩) hJ _, { j with size := -1 }, _, _, _, h.set 4 _ rfl⟩
  | some i =>
    rw [hp] at hv
    have hf := numI_some hp
    rw [hf] at kn
    have HV := Lib.hid hv
    have hi0 : (0 : Int) ≤ (i : Int) := by omega
    clear hv hp hf
    go_enter Tryd.func12, Tryd.ntmps12
    go_wp2_with (go_at_call 21; (with_reducible refine (kn _).mono ?_); clear kn; rintro e1 w1 ⟨rfl, hw⟩; obtain rfl := hw.symm; clear hw)
    go_ret
    exact .inr ⟨{ j with size := (i : Int) }, _, vs, HV.out, ret_bool (by simp), h.set 4 _ rfl, hc.setJ h (by decide) 4 _, Nat.le_succ _, (Below.refl base w).setCell (p := ⟨J, 4, none⟩) hJ _, KJ.setCell h 4 _⟩
set_option maxRecDepth 100000 in
set_option maxHeartbeats 8000000 in
theorem two_indent (J base : Nat) (j : Job) (ch : Value) (vs : List Value) (x : ByteArray) (w : World) (h : JB w 32 J j ch) (hc : Chunks w base j.chunks ch vs) (hJ : base ≤ J) (hb : base ≤ w.heap.size) (hx : x.size ≤ 65536) :
    Calls Tryd.prog 12 #[.pointer (some ⟨J, 0, none⟩), .string wIndent, .string x] w (SetPost 32 J base j wIndent x w) := by
  have hv := setV_indent j x
  obtain ⟨Ac, cc, rfl, _⟩ := own_form hc.own
  have kn := fun W => rnumber_calls x W
  have c0 : w.cell? ⟨J, 7, none⟩ = some (.int .i64 j.indent) := h.cell 7
  have f0 := h.free 7
  cases hp : numV (bts x) with
  | none =>
    rw [hp] at hv
    have hf := numI_none hp
    rw [hf] at kn
    have HV := Lib.hid hv
    clear hv hp hf
    go_enter Tryd.func12, Tryd.ntmps12
    go_wp2_with (go_at_call 21; (with_reducible refine (kn _).mono ?_); clear kn; rintro e1 w1 ⟨rfl, hw⟩; obtain rfl := hw.symm; clear hw)
    go_ret
    exact .inl ⟨HV.out, rfl, (Below.refl base w).setCell (p := ⟨J, 7, none⟩) hJ _, { j with indent := -1 }, _, _, _, h.set 7 _ rfl⟩
  | some i =>
    rw [hp] at hv
    have hf := numI_some hp
    rw [hf] at kn
    have HV := Lib.hid hv
    have hi0 : (0 : Int) ≤ (i : Int) := by omega
    clear hv hp hf
    go_enter Tryd.func12, Tryd.ntmps12
    go_wp2_with (go_at_call 21; (with_reducible refine (kn _).mono ?_); clear kn; rintro e1 w1 ⟨rfl, hw⟩; obtain rfl := hw.symm; clear hw)
    go_ret
    exact .inr ⟨{ j with indent := (i : Int) }, _, vs, HV.out, ret_bool (by simp), h.set 7 _ rfl, hc.setJ h (by decide) 7 _, Nat.le_succ _, (Below.refl base w).setCell (p := ⟨J, 7, none⟩) hJ _, KJ.setCell h 7 _⟩
set_option maxRecDepth 100000 in
set_option maxHeartbeats 8000000 in
theorem two_chunk (J base : Nat) (j : Job) (ch : Value) (vs : List Value) (x : ByteArray) (w : World) (h : JB w 32 J j ch) (hc : Chunks w base j.chunks ch vs) (hJ : base ≤ J) (hb : base ≤ w.heap.size) (hx : x.size ≤ 65536) (hl : j.chunks.length ≤ 65536) :
    Calls Tryd.prog 12 #[.pointer (some ⟨J, 0, none⟩), .string wChunk, .string x] w (SetPost 32 J base j wChunk x w) := by
  have hv := setV_chunk j x
  have kn := fun W => rnumber_calls x W
  obtain ⟨i0, hi0, hz0, hz1, hz2⟩ := info_parts infoBts
  obtain ⟨N, hN⟩ : ∃ N, numI (bts x) = N := ⟨_, rfl⟩
  rw [hN] at kn
  clear hN
  have hk := rdecode_calls x w (by omega)
  go_enter Tryd.func12, Tryd.ntmps12
  go_wp2_with (go_at_call 21; (with_reducible refine (kn _).mono ?_); clear kn; rintro e1 w1 ⟨rfl, hw⟩; obtain rfl := hw.symm; clear hw)
  refine hk.mono ?_
  rintro e1 w1 (⟨hn, i, rfl, hb1⟩ | ⟨out, v, hn, rfl, hov, hb1⟩)
  · have h1 := h.below hb1
    have hc1 := hc.below hb1
    have hs1 := Nat.le_trans hb hb1.size
    have c9 : w1.cell? ⟨J, 9, none⟩ = some ch := h1.cell 9
    rw [hn] at hv
    have HV := Lib.hid hv
    have hown := hc1.own
    have hlJ := h1.lt
    obtain ⟨Ao, co, rfl, _⟩ := own_form hown
    have hap := own_apart hown h1 (by decide)
    clear hv hk
    go_wp2_with (at_builtin; refine wpList_append_own _ rfl _ _ 26 rfl base 51 i0 (.slice none 0 0) 1 24 Tryd.underlying26 hi0 hz0 hz1 hz2 rfl (by decide) _ _ _ rfl (hown.alloc _) ⟨w1.heap.size, 0, none⟩ 1 1 [.slice none 0 0] rfl rfl (cell_one_new _ _ _) (one_cell rfl) (by unfold maxLen; omega) (by omega) (by rw [World.size_alloc]; omega) ?_; intro v' w5 hown5 hgrow5 _; obtain ⟨g1, cap1, rfl⟩ := own_succ hown5; have h5 : JB w5 32 J j _ := JB.grown (JB.below h1 ((Below.refl _ w1).alloc (Nat.le_refl _) _)) hgrow5 hap; have c5 : w5.cell? ⟨J, 9, none⟩ = some (.slice Ao j.chunks.length co) := h5.cell 9; have f5 := h5.free 9)
    go_ret
    refine .inl ⟨HV.out, rfl, ?_, j, _, _, _, h5.set 9 _ rfl⟩
    exact ((((hb1.mono hb).alloc hs1 _).grown hgrow5 (by rw [World.size_alloc]; omega) (own_base hown))).setCell (p := ⟨J, 9, none⟩) hJ _
  · have h1 := h.below hb1
    have hc1 := hc.below hb1
    have hs1 := Nat.le_trans hb hb1.size
    have c9 : w1.cell? ⟨J, 9, none⟩ = some ch := h1.cell 9
    have hxl := hexV_len hn
    rw [bts_length] at hxl
    rw [hn] at hv
    have hown := hc1.own
    have hlJ := h1.lt
    obtain ⟨Ao, co, rfl, _⟩ := own_form hown
    obtain ⟨Av, cv, rfl, _⟩ := own_form hov
    have hap := own_apart hown h1 (by decide)
    have hovb : w1.ownsRow base 5 1 (.slice Av out.length cv) out.length (bv out) := own_mono hov hb
    have hlen : out.length = 0 ∨ 0 < out.length := by omega
    clear hk
    rcases hlen with hlen | hlen
    · have HV : Hid (setV j wChunk x = none) := by
        have : out = [] := List.length_eq_zero_iff.1 hlen
        subst this
        exact Lib.hid hv
      have hx0 : (x.toList == []) = true := (tl_t x _).2 (empty_of (by omega))
      clear hv hlen hxl
      go_wp2_with (at_builtin; refine wpList_append_own _ rfl _ _ 26 rfl base 51 i0 (.slice none 0 0) 1 24 Tryd.underlying26 hi0 hz0 hz1 hz2 rfl (by decide) _ _ _ rfl (hown.alloc _) ⟨w1.heap.size, 0, none⟩ 1 1 [.slice Av out.length cv] rfl rfl (cell_one_new _ _ _) (one_cell rfl) (by unfold maxLen; omega) (by omega) (by rw [World.size_alloc]; omega) ?_; intro v' w5 hown5 hgrow5 _; obtain ⟨g1, cap1, rfl⟩ := own_succ hown5; have h5 : JB w5 32 J j _ := JB.grown (JB.below h1 ((Below.refl _ w1).alloc (Nat.le_refl _) _)) hgrow5 hap; have c5 : w5.cell? ⟨J, 9, none⟩ = some (.slice Ao j.chunks.length co) := h5.cell 9; have f5 := h5.free 9)
      go_ret
      refine .inl ⟨HV.out, rfl, ?_, j, _, _, _, h5.set 9 _ rfl⟩
      exact ((((hb1.mono hb).alloc hs1 _).grown hgrow5 (by rw [World.size_alloc]; omega) (own_base hown))).setCell (p := ⟨J, 9, none⟩) hJ _
    · have HV : Hid (setV j wChunk x = some { j with chunks := j.chunks ++ [out] }) := by
        cases out with
        | nil => simp at hlen
        | cons b r => exact Lib.hid hv
      have hx0 : (x.toList == []) = false := full_of (by omega)
      clear hv hlen hxl
      go_wp2_with (at_builtin; refine wpList_append_own _ rfl _ _ 26 rfl base 51 i0 (.slice none 0 0) 1 24 Tryd.underlying26 hi0 hz0 hz1 hz2 rfl (by decide) _ _ _ rfl (hown.alloc _) ⟨w1.heap.size, 0, none⟩ 1 1 [.slice Av out.length cv] rfl rfl (cell_one_new _ _ _) (one_cell rfl) (by unfold maxLen; omega) (by omega) (by rw [World.size_alloc]; omega) ?_; intro v' w5 hown5 hgrow5 _; obtain ⟨g1, cap1, rfl⟩ := own_succ hown5; have h5 : JB w5 32 J j _ := JB.grown (JB.below h1 ((Below.refl _ w1).alloc (Nat.le_refl _) _)) hgrow5 hap; have c5 : w5.cell? ⟨J, 9, none⟩ = some (.slice Ao j.chunks.length co) := h5.cell 9; have f5 := h5.free 9)
      go_ret
      have hca := Chunks.add (hc1.below ((Below.refl _ w1).alloc (Nat.le_refl _) (.cells #[.slice Av out.length cv] 51))) (hovb.alloc _) hgrow5 hown5
      refine .inr ⟨{ j with chunks := j.chunks ++ [out] }, _, _, HV.out, rfl, h5.set 9 _ rfl, hca.setJ h5 (by decide) 9 _, by simp, ?_, ?_⟩
      · exact ((((hb1.mono hb).alloc hs1 _).grown hgrow5 (by rw [World.size_alloc]; omega) (own_base hown))).setCell (p := ⟨J, 9, none⟩) hJ _
      · exact ((KJ.below hb1).trans (KJ.alloc _ _ _)).trans ((KJ.grown (hown.alloc _) hgrow5).trans (KJ.setCell h5 9 _))
set_option maxRecDepth 100000 in
set_option maxHeartbeats 8000000 in
theorem two_calls (J base : Nat) (j : Job) (ch : Value) (vs : List Value) (s x : ByteArray) (w : World) (h : JB w 32 J j ch) (hc : Chunks w base j.chunks ch vs) (hJ : base ≤ J) (hb : base ≤ w.heap.size) (hx : x.size ≤ 65536) (hl : j.chunks.length ≤ 65536) :
    Calls Tryd.prog 12 #[.pointer (some ⟨J, 0, none⟩), .string s, .string x] w (SetPost 32 J base j s x w) := by
  by_cases h1 : s = wFrom
  · subst h1; exact two_from J base j ch vs x w h hc hJ hb hx
  by_cases h2 : s = wTo
  · subst h2; exact two_to J base j ch vs x w h hc hJ hb hx
  by_cases h3 : s = wMode
  · subst h3; exact two_mode J base j ch vs x w h hc hJ hb hx
  by_cases h4 : s = wDepth
  · subst h4; exact two_depth J base j ch vs x w h hc hJ hb hx
  by_cases h5 : s = wSize
  · subst h5; exact two_size J base j ch vs x w h hc hJ hb hx
  by_cases h6 : s = wIndent
  · subst h6; exact two_indent J base j ch vs x w h hc hJ hb hx
  by_cases h7 : s = wChunk
  · subst h7; exact two_chunk J base j ch vs x w h hc hJ hb hx hl
  have hv := Lib.hid (setV_else (j := j) (x := x) h1 h2 h3 h4 h5 h6 h7)
  have b1 := (tl_f s _).2 h1
  have b2 := (tl_f s _).2 h2
  have b3 := (tl_f s _).2 h3
  have b4 := (tl_f s _).2 h4
  have b5 := (tl_f s _).2 h5
  have b6 := (tl_f s _).2 h6
  have b7 := (tl_f s _).2 h7
  have kn := fun W => rnumber_calls x W
  clear h1 h2 h3 h4 h5 h6 h7
  go_enter Tryd.func12, Tryd.ntmps12
  go_wp2_with (go_at_call 21; (with_reducible refine (kn _).mono ?_); clear kn; rintro e1 w1 ⟨rfl, hw⟩; obtain rfl := hw.symm; clear hw)
  go_ret
  obtain ⟨Ac, cc, rfl, _⟩ := own_form hc.own
  exact .inl ⟨hv.out, rfl, Below.refl _ _, j, _, _, _, h⟩
end Go.Proofs.YtmejpcfbefjjaaaDoor.Scr
