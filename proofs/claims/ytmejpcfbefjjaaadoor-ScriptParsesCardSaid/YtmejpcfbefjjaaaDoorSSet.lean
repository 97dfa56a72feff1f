/- (*script.Job).set: a line of two words. -/
import Derived.Test.YtmejpcfbefjjaaaDoorSRDec
namespace Go.Proofs.YtmejpcfbefjjaaaDoor.Scr
open Go.RowKit
set_option linter.unusedVariables false
set_option linter.unusedSimpArgs false
theorem own_keep {w w' : World} {base e n : Nat} {v : Value} {xs : List Value} (h : w.ownsRow base e 1 v n xs) (hk : ∀ (k : Nat) (cs : Array Value), v.ownBlock = some k → w.heap[k]? = some (.cells cs e (0, 0)) → w'.heap[k]? = w.heap[k]?) : w'.ownsRow base e 1 v n xs := by
  refine ⟨h.1, ?_⟩
  rcases h.2 with h2 | ⟨g, cap, cur, rfl, hg, hh, r⟩
  · exact .inl h2
  · exact .inr ⟨g, cap, cur, rfl, hg, (hk g cur rfl hh).trans hh, r⟩
theorem own_mono {w : World} {base base' e n : Nat} {v : Value} {xs : List Value} (h : w.ownsRow base e 1 v n xs) (hb : base' ≤ base) : w.ownsRow base' e 1 v n xs := by
  refine ⟨h.1, ?_⟩
  rcases h.2 with h2 | ⟨g, cap, cur, rfl, hg, r⟩
  · exact .inl h2
  · exact .inr ⟨g, cap, cur, rfl, Nat.le_trans hb hg, r⟩
/-- the chunks of a job -/
structure Chunks (w : World) (base : Nat) (l : List (List Nat)) (ch : Value) (vs : List Value) : Prop where
  own : w.ownsRow base 51 1 ch l.length vs
  all : ∀ (i : Nat) (v : Value) (bs : List Nat), vs[i]? = some v → l[i]? = some bs → w.ownsRow base 5 1 v bs.length (bv bs)
theorem Chunks.keep {w w' : World} {base : Nat} {l : List (List Nat)} {ch : Value} {vs : List Value} (h : Chunks w base l ch vs) (hk : ∀ (k : Nat) (cs : Array Value) (t : TypeId), t = 51 ∨ t = 5 → w.heap[k]? = some (.cells cs t (0, 0)) → w'.heap[k]? = w.heap[k]?) : Chunks w' base l ch vs :=
  ⟨own_keep h.own (fun k cs _ hb => hk k cs _ (.inl rfl) hb), fun i v bs h1 h2 => own_keep (h.all i v bs h1 h2) (fun k cs _ hb => hk k cs _ (.inr rfl) hb)⟩
theorem Chunks.below {w w' : World} {base : Nat} {l : List (List Nat)} {ch : Value} {vs : List Value} (h : Chunks w base l ch vs) (hb : Below w.heap.size w w') : Chunks w' base l ch vs :=
  h.keep (fun k cs t _ hk => hb.block k (Array.getElem?_eq_some_iff.1 hk).1)
theorem Chunks.setJ {w : World} {base : Nat} {l : List (List Nat)} {ch : Value} {vs : List Value} (h : Chunks w base l ch vs) {J : Nat} {T : TypeId} {cs : Array Value} (hJ : w.heap[J]? = some (.cells cs T (0, 0))) (hT : T ≠ 51 ∧ T ≠ 5) (i : Nat) (v : Value) : Chunks (w.setCell ⟨J, i, none⟩ v) base l ch vs :=
  h.keep (fun k cs' t ht hk => Below.heap_setCell _ _ _ _ (fun q => by
    subst q
    rw [hJ] at hk
    simp at hk
    rcases ht with rfl | rfl
    · exact hT.1 hk.2
    · exact hT.2 hk.2))
theorem Chunks.nil (w : World) (base : Nat) : Chunks w base [] (.slice none 0 0) [] := ⟨World.ownsRow_nil _ _ _ _, fun i v bs h1 _ => by simp at h1⟩
/-- a chunk more: what is appended, and the job's cell set -/
theorem Chunks.add {w w5 : World} {base : Nat} {l : List (List Nat)} {ch v v' : Value} {vs : List Value} {out : List Nat} (h : Chunks w base l ch vs) (hv : w.ownsRow base 5 1 v out.length (bv out)) (hg : w.grownBy w5 ch.ownBlock) (ho : w5.ownsRow base 51 1 v' (l.length + 1) (vs ++ [v])) : Chunks w5 base (l ++ [out]) v' (vs ++ [v]) := by
  have hvl : vs.length = l.length := by have := h.own.1; omega
  refine ⟨by rw [List.length_append, List.length_singleton]; exact ho, fun i u bs h1 h2 => ?_⟩
  have kp : ∀ {u : Value} {n : Nat} {xs : List Value}, w.ownsRow base 5 1 u n xs → w5.ownsRow base 5 1 u n xs := fun hu => own_keep hu (fun k cs _ hb => hg.block k (Array.getElem?_eq_some_iff.1 hb).1 (fun q => own_apart h.own hb (by decide) q.symm))
  rcases Nat.lt_or_ge i l.length with hi | hi
  · rw [List.getElem?_append_left (by omega)] at h1 h2
    exact kp (h.all i u bs h1 h2)
  · rw [List.getElem?_append_right (by omega)] at h1 h2
    have hi2 : i = l.length := by
      have := (List.getElem?_eq_some_iff.1 h2).1
      simp at this
      omega
    subst hi2
    rw [hvl, Nat.sub_self] at h1
    rw [Nat.sub_self] at h2
    cases h1
    cases h2
    exact kp hv
theorem JB.below {w w' : World} {T : TypeId} {J : Nat} {j : Job} {ch : Value} (h : JB w T J j ch) (hb : Below w.heap.size w w') : JB w' T J j ch := (hb.block J h.lt).trans h
theorem JB.grown {w w' : World} {T : TypeId} {J : Nat} {j : Job} {ch : Value} {row : Option Nat} (h : JB w T J j ch) (hg : w.grownBy w' row) (hr : row ≠ some J) : JB w' T J j ch := (hg.block J h.lt (fun e => hr e.symm)).trans h
/-- what a line leaves: every row but jobs and rows of chunks -/
def KJ (T : TypeId) (w w' : World) : Prop := ∀ (k : Nat) (cs : Array Value) (t : TypeId) (fr : Nat × Nat), t ≠ T → t ≠ 51 → w.heap[k]? = some (.cells cs t fr) → w'.heap[k]? = some (.cells cs t fr)
theorem KJ.refl (T : TypeId) (w : World) : KJ T w w := fun _ _ _ _ _ _ h => h
theorem KJ.trans {T : TypeId} {x y z : World} (h : KJ T x y) (k : KJ T y z) : KJ T x z := fun i cs t fr h1 h2 h3 => k i cs t fr h1 h2 (h i cs t fr h1 h2 h3)
theorem KJ.below {T : TypeId} {w w' : World} (h : Below w.heap.size w w') : KJ T w w' := fun k cs t fr _ _ hk => (h.block k (Array.getElem?_eq_some_iff.1 hk).1).trans hk
theorem KJ.alloc (T : TypeId) (w : World) (o : Obj) : KJ T w (w.alloc o) := KJ.below ((Below.refl _ w).alloc (Nat.le_refl _) o)
theorem KJ.setCell {T : TypeId} {w : World} {J : Nat} {cs : Array Value} (h : w.heap[J]? = some (.cells cs T (0, 0))) (i : Nat) (v : Value) : KJ T w (w.setCell ⟨J, i, none⟩ v) := fun k cs' t fr h1 h2 h3 =>
  (Below.heap_setCell w ⟨J, i, none⟩ v k (fun q => by subst q; rw [h] at h3; simp at h3; exact h1 h3.2.1.symm)).trans h3
theorem KJ.grown {T : TypeId} {w w' : World} {base n : Nat} {v : Value} {xs : List Value} (h : w.ownsRow base 51 1 v n xs) (hg : w.grownBy w' v.ownBlock) : KJ T w w' := fun k cs t fr _ h2 h3 =>
  (hg.block k (Array.getElem?_eq_some_iff.1 h3).1 (fun e => own_apart h h3 h2 e.symm)).trans h3
/-- what a line of two words does -/
def SetPost (T : TypeId) (J base : Nat) (j : Job) (s x : ByteArray) (w : World) (e : Ending) (w' : World) : Prop :=
  (setV j s x = none ∧ e = .returned (.bool false) ∧ Below base w w' ∧ ∃ j' A n c, JB w' T J j' (.slice A n c)) ∨
  ∃ j' ch' vs', setV j s x = some j' ∧ e = .returned (.bool true) ∧ JB w' T J j' ch' ∧ Chunks w' base j'.chunks ch' vs' ∧ j'.chunks.length ≤ j.chunks.length + 1 ∧ Below base w w' ∧ KJ T w w'
theorem SetPost.bad {T : TypeId} {J base : Nat} {j : Job} {s x : ByteArray} {w : World} {e : Ending} {w' : World} (h : SetPost T J base j s x w e w') (hv : setV j s x = none) : e = .returned (.bool false) ∧ Below base w w' ∧ ∃ j' A n c, JB w' T J j' (.slice A n c) := by
  rcases h with ⟨_, h⟩ | ⟨_, _, _, h, _⟩
  · exact h
  · rw [hv] at h; cases h
theorem SetPost.ok {T : TypeId} {J base : Nat} {j j' : Job} {s x : ByteArray} {w : World} {e : Ending} {w' : World} (h : SetPost T J base j s x w e w') (hv : setV j s x = some j') : e = .returned (.bool true) ∧ ∃ ch' vs', JB w' T J j' ch' ∧ Chunks w' base j'.chunks ch' vs' ∧ j'.chunks.length ≤ j.chunks.length + 1 ∧ Below base w w' ∧ KJ T w w' := by
  rcases h with ⟨h, _⟩ | ⟨_, ch', vs', h, r⟩
  · rw [hv] at h; cases h
  · rw [hv] at h; cases h; exact ⟨r.1, ch', vs', r.2⟩
theorem FlagPost.bad {T : TypeId} {J : Nat} {j : Job} {ch : Value} {s : ByteArray} {w : World} {e : Ending} {w' : World} (h : FlagPost T J j ch s w e w') (hv : flagV j s = none) : e = .returned (.bool false) ∧ w' = w := by
  rcases h with ⟨_, h⟩ | ⟨_, _, h, _⟩
  · exact h
  · rw [hv] at h; cases h
theorem FlagPost.ok {T : TypeId} {J : Nat} {j j' : Job} {ch : Value} {s : ByteArray} {w : World} {e : Ending} {w' : World} (h : FlagPost T J j ch s w e w') (hv : flagV j s = some j') : e = .returned (.bool true) ∧ ∃ i, JB w' T J j' ch ∧ j'.chunks = j.chunks ∧ w' = w.setCell ⟨J, i, none⟩ (.bool true) := by
  rcases h with ⟨h, _⟩ | ⟨_, i, h, r⟩
  · rw [hv] at h; cases h
  · rw [hv] at h; cases h; exact ⟨r.1, i, r.2⟩
theorem names_cell (w : World) (t : TypeId) (L : List ByteArray) : ∀ (j : Nat) (n : ByteArray), L[j]? = some n → (w.alloc (.cells (L.map Value.string).toArray t)).cell? ((⟨w.heap.size, 0, none⟩ : Addr).add j) = some (.string n) := by
  intro j n h
  rw [Addr.add_lit, Nat.zero_add, World.cell?_alloc_at _ _ _ _ rfl]
  simp [h]
theorem pick_some {x : ByteArray} {L : List ByteArray} {i : Nat} (h : pickF x L 0 = some i) : pickR x L = .tuple #[.int .i64 (i : Int), .bool true] := by unfold pickR; rw [h]
theorem pick_none {x : ByteArray} {L : List ByteArray} (h : pickF x L 0 = none) : pickR x L = .tuple #[.int .i64 0, .bool false] := by unfold pickR; rw [h]
theorem setV_from (j : Job) (x : ByteArray) : setV j wFrom x = (pickF x [wJson, wCbor, wPack] 0).map (fun i : Nat => ({ j with frm := (i : Int) } : Job)) := by
  unfold setV; rw [if_pos rfl]
theorem setV_to (j : Job) (x : ByteArray) : setV j wTo x = (pickF x [wJson, wCbor, wPack, wDiag] 0).map (fun i : Nat => ({ j with too := (i : Int) } : Job)) := by
  unfold setV; rw [if_neg (by decide), if_pos rfl]
theorem setV_mode (j : Job) (x : ByteArray) : setV j wMode x = (pickF x [wStrict, wLossy] 0).map (fun i : Nat => ({ j with mode := (i : Int) } : Job)) := by
  unfold setV; rw [if_neg (by decide), if_neg (by decide), if_pos rfl]
theorem setV_depth (j : Job) (x : ByteArray) : setV j wDepth x = (numV (bts x)).map (fun n : Nat => ({ j with depth := (n : Int) } : Job)) := by
  unfold setV; rw [if_neg (by decide), if_neg (by decide), if_neg (by decide), if_pos rfl]
theorem setV_size (j : Job) (x : ByteArray) : setV j wSize x = (numV (bts x)).map (fun n : Nat => ({ j with size := (n : Int) } : Job)) := by
  unfold setV; rw [if_neg (by decide), if_neg (by decide), if_neg (by decide), if_neg (by decide), if_pos rfl]
theorem setV_indent (j : Job) (x : ByteArray) : setV j wIndent x = (numV (bts x)).map (fun n : Nat => ({ j with indent := (n : Int) } : Job)) := by
  unfold setV; rw [if_neg (by decide), if_neg (by decide), if_neg (by decide), if_neg (by decide), if_neg (by decide), if_pos rfl]
theorem setV_chunk (j : Job) (x : ByteArray) : setV j wChunk x = match hexV (bts x) with | some (b :: r) => some { j with chunks := j.chunks ++ [b :: r] } | _ => none := by
  unfold setV; rw [if_neg (by decide), if_neg (by decide), if_neg (by decide), if_neg (by decide), if_neg (by decide), if_neg (by decide), if_pos rfl]
  rcases hexV (bts x) with _ | (_ | ⟨b, r⟩) <;> rfl
theorem setV_else {j : Job} {s x : ByteArray} (h1 : s ≠ wFrom) (h2 : s ≠ wTo) (h3 : s ≠ wMode) (h4 : s ≠ wDepth) (h5 : s ≠ wSize) (h6 : s ≠ wIndent) (h7 : s ≠ wChunk) : setV j s x = none := by
  unfold setV; rw [if_neg h1, if_neg h2, if_neg h3, if_neg h4, if_neg h5, if_neg h6, if_neg h7]
set_option maxRecDepth 100000 in
set_option maxHeartbeats 8000000 in
theorem set_from (J base : Nat) (j : Job) (ch : Value) (vs : List Value) (x : ByteArray) (w : World) (h : JB w 28 J j ch) (hc : Chunks w base j.chunks ch vs) (hJ : base ≤ J) (hb : base ≤ w.heap.size) (hx : x.size ≤ 65536) :
    Calls Tryd.prog 16 #[.pointer (some ⟨J, 0, none⟩), .string wFrom, .string x] w (SetPost 28 J base j wFrom x w) := by
  have hv := setV_from j x
  obtain ⟨Ac, cc, rfl, _⟩ := own_form hc.own
  have hk := pick_calls x [wJson, wCbor, wPack] ⟨w.heap.size, 0, none⟩ 3 _ (names_cell w 9 [wJson, wCbor, wPack]) (by decide)
  have h1 := h.below ((Below.refl w.heap.size w).alloc (Nat.le_refl _) (.cells (([wJson, wCbor, wPack] : List ByteArray).map Value.string).toArray 9))
  have hc1 := hc.below ((Below.refl w.heap.size w).alloc (Nat.le_refl _) (.cells (([wJson, wCbor, wPack] : List ByteArray).map Value.string).toArray 9))
  have hbl := (Below.refl base w).alloc hb (.cells (([wJson, wCbor, wPack] : List ByteArray).map Value.string).toArray 9)
  have hkj := KJ.alloc 28 w (.cells (([wJson, wCbor, wPack] : List ByteArray).map Value.string).toArray 9)
  have c0 := h1.cell 0
  have f0 := h1.free 0
  simp only [List.map_cons, List.map_nil, List.length_cons, List.length_nil, Nat.zero_add, Nat.reduceAdd] at hk h1 hc1 hbl hkj c0 f0
  obtain ⟨W, hW⟩ : ∃ W, W = w.alloc (.cells #[.string wJson, .string wCbor, .string wPack] 9) := ⟨_, rfl⟩
  rw [← hW] at hk h1 hc1 hbl hkj c0 f0
  have c0' : W.cell? ⟨J, 0, none⟩ = some (.int .i64 j.frm) := c0
  clear c0
  cases hp : pickF x [wJson, wCbor, wPack] 0 with
  | none =>
    rw [hp] at hv
    rw [pick_none hp] at hk
    have HV := Lib.hid hv
    clear hv hp
    go_enter Tryd.func16, Tryd.ntmps16
    go_wp2_with fail
    rw [← hW]
    clear hW
    refine hk.mono ?_
    rintro e1 w1 ⟨rfl, rfl⟩
    go_wp2
    go_ret
    exact .inl ⟨HV.out, rfl, hbl.setCell (p := ⟨J, 0, none⟩) hJ _, { j with frm := 0 }, _, _, _, h1.set 0 _ rfl⟩
  | some i =>
    rw [hp] at hv
    rw [pick_some hp] at hk
    have HV := Lib.hid hv
    clear hv hp
    go_enter Tryd.func16, Tryd.ntmps16
    go_wp2_with fail
    rw [← hW]
    clear hW
    refine hk.mono ?_
    rintro e1 w1 ⟨rfl, rfl⟩
    go_wp2
    go_ret
    exact .inr ⟨{ j with frm := (i : Int) }, _, vs, HV.out, rfl, h1.set 0 _ rfl, hc1.setJ h1 (by decide) 0 _, Nat.le_succ _, hbl.setCell (p := ⟨J, 0, none⟩) hJ _, hkj.trans (KJ.setCell h1 0 _)⟩
set_option maxRecDepth 100000 in
set_option maxHeartbeats 8000000 in
theorem set_to (J base : Nat) (j : Job) (ch : Value) (vs : List Value) (x : ByteArray) (w : World) (h : JB w 28 J j ch) (hc : Chunks w base j.chunks ch vs) (hJ : base ≤ J) (hb : base ≤ w.heap.size) (hx : x.size ≤ 65536) :
    Calls Tryd.prog 16 #[.pointer (some ⟨J, 0, none⟩), .string wTo, .string x] w (SetPost 28 J base j wTo x w) := by
  have hv := setV_to j x
  obtain ⟨Ac, cc, rfl, _⟩ := own_form hc.own
  have hk := pick_calls x [wJson, wCbor, wPack, wDiag] ⟨w.heap.size, 0, none⟩ 4 _ (names_cell w 9 [wJson, wCbor, wPack, wDiag]) (by decide)
  have h1 := h.below ((Below.refl w.heap.size w).alloc (Nat.le_refl _) (.cells (([wJson, wCbor, wPack, wDiag] : List ByteArray).map Value.string).toArray 9))
  have hc1 := hc.below ((Below.refl w.heap.size w).alloc (Nat.le_refl _) (.cells (([wJson, wCbor, wPack, wDiag] : List ByteArray).map Value.string).toArray 9))
  have hbl := (Below.refl base w).alloc hb (.cells (([wJson, wCbor, wPack, wDiag] : List ByteArray).map Value.string).toArray 9)
  have hkj := KJ.alloc 28 w (.cells (([wJson, wCbor, wPack, wDiag] : List ByteArray).map Value.string).toArray 9)
  have c0 := h1.cell 1
  have f0 := h1.free 1
  simp only [List.map_cons, List.map_nil, List.length_cons, List.length_nil, Nat.zero_add, Nat.reduceAdd] at hk h1 hc1 hbl hkj c0 f0
  obtain ⟨W, hW⟩ : ∃ W, W = w.alloc (.cells #[.string wJson, .string wCbor, .string wPack, .string wDiag] 9) := ⟨_, rfl⟩
  rw [← hW] at hk h1 hc1 hbl hkj c0 f0
  have c0' : W.cell? ⟨J, 1, none⟩ = some (.int .i64 j.too) := c0
  clear c0
  cases hp : pickF x [wJson, wCbor, wPack, wDiag] 0 with
  | none =>
    rw [hp] at hv
    rw [pick_none hp] at hk
    have HV := Lib.hid hv
    clear hv hp
    go_enter Tryd.func16, Tryd.ntmps16
    go_wp2_with fail
    rw [← hW]
    clear hW
    refine hk.mono ?_
    rintro e1 w1 ⟨rfl, rfl⟩
    go_wp2
    go_ret
    exact .inl ⟨HV.out, rfl, hbl.setCell (p := ⟨J, 1, none⟩) hJ _, { j with too := 0 }, _, _, _, h1.set 1 _ rfl⟩
  | some i =>
    rw [hp] at hv
    rw [pick_some hp] at hk
    have HV := Lib.hid hv
    clear hv hp
    go_enter Tryd.func16, Tryd.ntmps16
    go_wp2_with fail
    rw [← hW]
    clear hW
    refine hk.mono ?_
    rintro e1 w1 ⟨rfl, rfl⟩
    go_wp2
    go_ret
    exact .inr ⟨{ j with too := (i : Int) }, _, vs, HV.out, rfl, h1.set 1 _ rfl, hc1.setJ h1 (by decide) 1 _, Nat.le_succ _, hbl.setCell (p := ⟨J, 1, none⟩) hJ _, hkj.trans (KJ.setCell h1 1 _)⟩
set_option maxRecDepth 100000 in
set_option maxHeartbeats 8000000 in
theorem set_mode (J base : Nat) (j : Job) (ch : Value) (vs : List Value) (x : ByteArray) (w : World) (h : JB w 28 J j ch) (hc : Chunks w base j.chunks ch vs) (hJ : base ≤ J) (hb : base ≤ w.heap.size) (hx : x.size ≤ 65536) :
    Calls Tryd.prog 16 #[.pointer (some ⟨J, 0, none⟩), .string wMode, .string x] w (SetPost 28 J base j wMode x w) := by
  have hv := setV_mode j x
  obtain ⟨Ac, cc, rfl, _⟩ := own_form hc.own
  have hk := pick_calls x [wStrict, wLossy] ⟨w.heap.size, 0, none⟩ 2 _ (names_cell w 9 [wStrict, wLossy]) (by decide)
  have h1 := h.below ((Below.refl w.heap.size w).alloc (Nat.le_refl _) (.cells (([wStrict, wLossy] : List ByteArray).map Value.string).toArray 9))
  have hc1 := hc.below ((Below.refl w.heap.size w).alloc (Nat.le_refl _) (.cells (([wStrict, wLossy] : List ByteArray).map Value.string).toArray 9))
  have hbl := (Below.refl base w).alloc hb (.cells (([wStrict, wLossy] : List ByteArray).map Value.string).toArray 9)
  have hkj := KJ.alloc 28 w (.cells (([wStrict, wLossy] : List ByteArray).map Value.string).toArray 9)
  have c0 := h1.cell 2
  have f0 := h1.free 2
  simp only [List.map_cons, List.map_nil, List.length_cons, List.length_nil, Nat.zero_add, Nat.reduceAdd] at hk h1 hc1 hbl hkj c0 f0
  obtain ⟨W, hW⟩ : ∃ W, W = w.alloc (.cells #[.string wStrict, .string wLossy] 9) := ⟨_, rfl⟩
  rw [← hW] at hk h1 hc1 hbl hkj c0 f0
  have c0' : W.cell? ⟨J, 2, none⟩ = some (.int .i64 j.mode) := c0
  clear c0
  cases hp : pickF x [wStrict, wLossy] 0 with
  | none =>
    rw [hp] at hv
    rw [pick_none hp] at hk
    have HV := Lib.hid hv
    clear hv hp
    go_enter Tryd.func16, Tryd.ntmps16
    go_wp2_with fail
    rw [← hW]
    clear hW
    refine hk.mono ?_
    rintro e1 w1 ⟨rfl, rfl⟩
    go_wp2
    go_ret
    exact .inl ⟨HV.out, rfl, hbl.setCell (p := ⟨J, 2, none⟩) hJ _, { j with mode := 0 }, _, _, _, h1.set 2 _ rfl⟩
  | some i =>
    rw [hp] at hv
    rw [pick_some hp] at hk
    have HV := Lib.hid hv
    clear hv hp
    go_enter Tryd.func16, Tryd.ntmps16
    go_wp2_with fail
    rw [← hW]
    clear hW
    refine hk.mono ?_
    rintro e1 w1 ⟨rfl, rfl⟩
    go_wp2
    go_ret
    exact .inr ⟨{ j with mode := (i : Int) }, _, vs, HV.out, rfl, h1.set 2 _ rfl, hc1.setJ h1 (by decide) 2 _, Nat.le_succ _, hbl.setCell (p := ⟨J, 2, none⟩) hJ _, hkj.trans (KJ.setCell h1 2 _)⟩
set_option maxRecDepth 100000 in
set_option maxHeartbeats 8000000 in
theorem set_depth (J base : Nat) (j : Job) (ch : Value) (vs : List Value) (x : ByteArray) (w : World) (h : JB w 28 J j ch) (hc : Chunks w base j.chunks ch vs) (hJ : base ≤ J) (hb : base ≤ w.heap.size) (hx : x.size ≤ 65536) :
    Calls Tryd.prog 16 #[.pointer (some ⟨J, 0, none⟩), .string wDepth, .string x] w (SetPost 28 J base j wDepth x w) := by
  have hv := setV_depth j x
  obtain ⟨Ac, cc, rfl, _⟩ := own_form hc.own
  have hk := number_calls x w (by omega)
  cases hp : numV (bts x) with
  | none =>
    rw [hp] at hv
    rw [numR_none hp] at hk
    have HV := Lib.hid hv
    clear hv hp
    go_enter Tryd.func16, Tryd.ntmps16
    go_wp2_with fail
    refine hk.mono ?_
    rintro e1 w1 ⟨rfl, hb1⟩
    have h1 := h.below hb1
    have c0 : w1.cell? ⟨J, 3, none⟩ = some (.int .i64 j.depth) := h1.cell 3
    have f0 := h1.free 3
    go_wp2
    go_ret
    exact .inl ⟨HV.out, rfl, (hb1.mono hb).setCell (p := ⟨J, 3, none⟩) hJ _, { j with depth := 0 }, _, _, _, h1.set 3 _ rfl⟩
  | some i =>
    rw [hp] at hv
    rw [numR_some hp] at hk
    have HV := Lib.hid hv
    clear hv hp
    go_enter Tryd.func16, Tryd.ntmps16
    go_wp2_with fail
    refine hk.mono ?_
    rintro e1 w1 ⟨rfl, hb1⟩
    have h1 := h.below hb1
    have c0 : w1.cell? ⟨J, 3, none⟩ = some (.int .i64 j.depth) := h1.cell 3
    have f0 := h1.free 3
    go_wp2
    go_ret
    exact .inr ⟨{ j with depth := (i : Int) }, _, vs, HV.out, rfl, h1.set 3 _ rfl, (hc.below hb1).setJ h1 (by decide) 3 _, Nat.le_succ _, (hb1.mono hb).setCell (p := ⟨J, 3, none⟩) hJ _, (KJ.below hb1).trans (KJ.setCell h1 3 _)⟩
set_option maxRecDepth 100000 in
set_option maxHeartbeats 8000000 in
theorem set_size (J base : Nat) (j : Job) (ch : Value) (vs : List Value) (x : ByteArray) (w : World) (h : JB w 28 J j ch) (hc : Chunks w base j.chunks ch vs) (hJ : base ≤ J) (hb : base ≤ w.heap.size) (hx : x.size ≤ 65536) :
    Calls Tryd.prog 16 #[.pointer (some ⟨J, 0, none⟩), .string wSize, .string x] w (SetPost 28 J base j wSize x w) := by
  have hv := setV_size j x
  obtain ⟨Ac, cc, rfl, _⟩ := own_form hc.own
  have hk := number_calls x w (by omega)
  cases hp : numV (bts x) with
  | none =>
    rw [hp] at hv
    rw [numR_none hp] at hk
    have HV := Lib.hid hv
    clear hv hp
    go_enter Tryd.func16, Tryd.ntmps16
    go_wp2_with fail
    refine hk.mono ?_
    rintro e1 w1 ⟨rfl, hb1⟩
    have h1 := h.below hb1
    have c0 : w1.cell? ⟨J, 4, none⟩ = some (.int .i64 j.size) := h1.cell 4
    have f0 := h1.free 4
    go_wp2
    go_ret
    exact .inl ⟨HV.out, rfl, (hb1.mono hb).setCell (p := ⟨J, 4, none⟩) hJ _, { j with size := 0 }, _, _, _, h1.set 4 _ rfl⟩
  | some i =>
    rw [hp] at hv
    rw [numR_some hp] at hk
    have HV := Lib.hid hv
    clear hv hp
    go_enter Tryd.func16, Tryd.ntmps16
    go_wp2_with fail
    refine hk.mono ?_
    rintro e1 w1 ⟨rfl, hb1⟩
    have h1 := h.below hb1
    have c0 : w1.cell? ⟨J, 4, none⟩ = some (.int .i64 j.size) := h1.cell 4
    have f0 := h1.free 4
    go_wp2
    go_ret
    exact .inr ⟨{ j with size := (i : Int) }, _, vs, HV.out, rfl, h1.set 4 _ rfl, (hc.below hb1).setJ h1 (by decide) 4 _, Nat.le_succ _, (hb1.mono hb).setCell (p := ⟨J, 4, none⟩) hJ _, (KJ.below hb1).trans (KJ.setCell h1 4 _)⟩
set_option maxRecDepth 100000 in
set_option maxHeartbeats 8000000 in
theorem set_indent (J base : Nat) (j : Job) (ch : Value) (vs : List Value) (x : ByteArray) (w : World) (h : JB w 28 J j ch) (hc : Chunks w base j.chunks ch vs) (hJ : base ≤ J) (hb : base ≤ w.heap.size) (hx : x.size ≤ 65536) :
    Calls Tryd.prog 16 #[.pointer (some ⟨J, 0, none⟩), .string wIndent, .string x] w (SetPost 28 J base j wIndent x w) := by
  have hv := setV_indent j x
  obtain ⟨Ac, cc, rfl, _⟩ := own_form hc.own
  have hk := number_calls x w (by omega)
  cases hp : numV (bts x) with
  | none =>
    rw [hp] at hv
    rw [numR_none hp] at hk
    have HV := Lib.hid hv
    clear hv hp
    go_enter Tryd.func16, Tryd.ntmps16
    go_wp2_with fail
    refine hk.mono ?_
    rintro e1 w1 ⟨rfl, hb1⟩
    have h1 := h.below hb1
    have c0 : w1.cell? ⟨J, 7, none⟩ = some (.int .i64 j.indent) := h1.cell 7
    have f0 := h1.free 7
    go_wp2
    go_ret
    exact .inl ⟨HV.out, rfl, (hb1.mono hb).setCell (p := ⟨J, 7, none⟩) hJ _, { j with indent := 0 }, _, _, _, h1.set 7 _ rfl⟩
  | some i =>
    rw [hp] at hv
    rw [numR_some hp] at hk
    have HV := Lib.hid hv
    clear hv hp
    go_enter Tryd.func16, Tryd.ntmps16
    go_wp2_with fail
    refine hk.mono ?_
    rintro e1 w1 ⟨rfl, hb1⟩
    have h1 := h.below hb1
    have c0 : w1.cell? ⟨J, 7, none⟩ = some (.int .i64 j.indent) := h1.cell 7
    have f0 := h1.free 7
    go_wp2
    go_ret
    exact .inr ⟨{ j with indent := (i : Int) }, _, vs, HV.out, rfl, h1.set 7 _ rfl, (hc.below hb1).setJ h1 (by decide) 7 _, Nat.le_succ _, (hb1.mono hb).setCell (p := ⟨J, 7, none⟩) hJ _, (KJ.below hb1).trans (KJ.setCell h1 7 _)⟩
set_option maxRecDepth 100000 in
set_option maxHeartbeats 8000000 in
theorem set_chunk (J base : Nat) (j : Job) (ch : Value) (vs : List Value) (x : ByteArray) (w : World) (h : JB w 28 J j ch) (hc : Chunks w base j.chunks ch vs) (hJ : base ≤ J) (hb : base ≤ w.heap.size) (hx : x.size ≤ 65536) (hl : j.chunks.length ≤ 65536) :
    Calls Tryd.prog 16 #[.pointer (some ⟨J, 0, none⟩), .string wChunk, .string x] w (SetPost 28 J base j wChunk x w) := by
  obtain ⟨i0, hi0, hz0, hz1, hz2⟩ := info_parts infoBts
  have hv := setV_chunk j x
  have hk := decode_calls x w (by omega)
  have hc0 : w.cell? ⟨J, 9, none⟩ = some ch := h.cell 9
  go_enter Tryd.func16, Tryd.ntmps16
  go_wp2_with fail
  refine hk.mono ?_
  rintro e1 w1 (⟨hn, i, rfl, hb1⟩ | ⟨out, v, hn, rfl, hov, hb1⟩)
  · have h1 := h.below hb1
    have hc1 := hc.below hb1
    have hs1 := Nat.le_trans hb hb1.size
    have c9 : w1.cell? ⟨J, 9, none⟩ = some ch := h1.cell 9
    rw [hn] at hv
    have HV := Lib.hid hv
    have hown := hc1.own
    have hlJ := h1.lt
    obtain ⟨Ao, co, rfl, _⟩ := own_form hown
    have hap := own_apart hown h1 (by decide)
    clear hv hk hc0
    go_wp2_with (at_builtin; refine wpList_append_own _ rfl _ _ 26 rfl base 51 i0 (.slice none 0 0) 1 24 Tryd.underlying26 hi0 hz0 hz1 hz2 rfl (by decide) _ _ _ rfl (hown.alloc _) ⟨w1.heap.size, 0, none⟩ 1 1 [.slice none 0 0] rfl rfl (cell_one_new _ _ _) (one_cell rfl) (by unfold maxLen; omega) (by omega) (by rw [World.size_alloc]; omega) ?_; intro v' w5 hown5 hgrow5 _; obtain ⟨g1, cap1, rfl⟩ := own_succ hown5; have h5 : JB w5 28 J j _ := JB.grown (JB.below h1 ((Below.refl _ w1).alloc (Nat.le_refl _) _)) hgrow5 hap; have c5 : w5.cell? ⟨J, 9, none⟩ = some (.slice Ao j.chunks.length co) := h5.cell 9; have f5 := h5.free 9)
    go_ret
    refine .inl ⟨HV.out, rfl, ?_, j, _, _, _, h5.set 9 _ rfl⟩
    exact ((((hb1.mono hb).alloc hs1 _).grown hgrow5 (by rw [World.size_alloc]; omega) (own_base hown))).setCell (p := ⟨J, 9, none⟩) hJ _
  · have h1 := h.below hb1
    have hc1 := hc.below hb1
    have hs1 := Nat.le_trans hb hb1.size
    have c9 : w1.cell? ⟨J, 9, none⟩ = some ch := h1.cell 9
    rw [hn] at hv
    have hown := hc1.own
    have hlJ := h1.lt
    obtain ⟨Ao, co, rfl, _⟩ := own_form hown
    obtain ⟨Av, cv, rfl, _⟩ := own_form hov
    have hap := own_apart hown h1 (by decide)
    have hovb : w1.ownsRow base 5 1 (.slice Av out.length cv) out.length (bv out) := own_mono hov hb
    have hlen : out.length = 0 ∨ 0 < out.length := by omega
    clear hk hc0
    rcases hlen with hlen | hlen
    · have HV : Hid (setV j wChunk x = none) := by
        have : out = [] := List.length_eq_zero_iff.1 hlen
        subst this
        exact Lib.hid hv
      have hl0 : ¬ (0 : Int) < (out.length : Int) := by omega
      have HL := Lib.hid hlen
      clear hv hlen
      go_wp2_with (at_builtin; refine wpList_append_own _ rfl _ _ 26 rfl base 51 i0 (.slice none 0 0) 1 24 Tryd.underlying26 hi0 hz0 hz1 hz2 rfl (by decide) _ _ _ rfl (hown.alloc _) ⟨w1.heap.size, 0, none⟩ 1 1 [.slice Av out.length cv] rfl rfl (cell_one_new _ _ _) (one_cell rfl) (by unfold maxLen; omega) (by omega) (by rw [World.size_alloc]; omega) ?_; intro v' w5 hown5 hgrow5 _; obtain ⟨g1, cap1, rfl⟩ := own_succ hown5; have h5 : JB w5 28 J j _ := JB.grown (JB.below h1 ((Below.refl _ w1).alloc (Nat.le_refl _) _)) hgrow5 hap; have c5 : w5.cell? ⟨J, 9, none⟩ = some (.slice Ao j.chunks.length co) := h5.cell 9; have f5 := h5.free 9)
      go_ret
      refine .inl ⟨HV.out, ret_bool (by simp [HL.out]), ?_, j, _, _, _, h5.set 9 _ rfl⟩
      exact ((((hb1.mono hb).alloc hs1 _).grown hgrow5 (by rw [World.size_alloc]; omega) (own_base hown))).setCell (p := ⟨J, 9, none⟩) hJ _
    · have HV : Hid (setV j wChunk x = some { j with chunks := j.chunks ++ [out] }) := by
        cases out with
        | nil => simp at hlen
        | cons b r => exact Lib.hid hv
      have hl0 : (0 : Int) < (out.length : Int) := by omega
      clear hv
      go_wp2_with (at_builtin; refine wpList_append_own _ rfl _ _ 26 rfl base 51 i0 (.slice none 0 0) 1 24 Tryd.underlying26 hi0 hz0 hz1 hz2 rfl (by decide) _ _ _ rfl (hown.alloc _) ⟨w1.heap.size, 0, none⟩ 1 1 [.slice Av out.length cv] rfl rfl (cell_one_new _ _ _) (one_cell rfl) (by unfold maxLen; omega) (by omega) (by rw [World.size_alloc]; omega) ?_; intro v' w5 hown5 hgrow5 _; obtain ⟨g1, cap1, rfl⟩ := own_succ hown5; have h5 : JB w5 28 J j _ := JB.grown (JB.below h1 ((Below.refl _ w1).alloc (Nat.le_refl _) _)) hgrow5 hap; have c5 : w5.cell? ⟨J, 9, none⟩ = some (.slice Ao j.chunks.length co) := h5.cell 9; have f5 := h5.free 9)
      go_ret
      have hca := Chunks.add (hc1.below ((Below.refl _ w1).alloc (Nat.le_refl _) (.cells #[.slice Av out.length cv] 51))) (hovb.alloc _) hgrow5 hown5
      refine .inr ⟨{ j with chunks := j.chunks ++ [out] }, _, _, HV.out, ret_bool (by first | (simp; done) | simpa using hlen), h5.set 9 _ rfl, hca.setJ h5 (by decide) 9 _, by simp, ?_, ?_⟩
      · exact ((((hb1.mono hb).alloc hs1 _).grown hgrow5 (by rw [World.size_alloc]; omega) (own_base hown))).setCell (p := ⟨J, 9, none⟩) hJ _
      · exact ((KJ.below hb1).trans (KJ.alloc _ _ _)).trans ((KJ.grown (hown.alloc _) hgrow5).trans (KJ.setCell h5 9 _))
set_option maxRecDepth 100000 in
set_option maxHeartbeats 8000000 in
theorem set_calls (J base : Nat) (j : Job) (ch : Value) (vs : List Value) (s x : ByteArray) (w : World) (h : JB w 28 J j ch) (hc : Chunks w base j.chunks ch vs) (hJ : base ≤ J) (hb : base ≤ w.heap.size) (hx : x.size ≤ 65536) (hl : j.chunks.length ≤ 65536) :
    Calls Tryd.prog 16 #[.pointer (some ⟨J, 0, none⟩), .string s, .string x] w (SetPost 28 J base j s x w) := by
  by_cases h1 : s = wFrom
  · subst h1; exact set_from J base j ch vs x w h hc hJ hb hx
  by_cases h2 : s = wTo
  · subst h2; exact set_to J base j ch vs x w h hc hJ hb hx
  by_cases h3 : s = wMode
  · subst h3; exact set_mode J base j ch vs x w h hc hJ hb hx
  by_cases h4 : s = wDepth
  · subst h4; exact set_depth J base j ch vs x w h hc hJ hb hx
  by_cases h5 : s = wSize
  · subst h5; exact set_size J base j ch vs x w h hc hJ hb hx
  by_cases h6 : s = wIndent
  · subst h6; exact set_indent J base j ch vs x w h hc hJ hb hx
  by_cases h7 : s = wChunk
  · subst h7; exact set_chunk J base j ch vs x w h hc hJ hb hx hl
  have hv := Lib.hid (setV_else (j := j) (x := x) h1 h2 h3 h4 h5 h6 h7)
  have b1 := (tl_f s _).2 h1
  have b2 := (tl_f s _).2 h2
  have b3 := (tl_f s _).2 h3
  have b4 := (tl_f s _).2 h4
  have b5 := (tl_f s _).2 h5
  have b6 := (tl_f s _).2 h6
  have b7 := (tl_f s _).2 h7
  clear h1 h2 h3 h4 h5 h6 h7
  go_enter Tryd.func16, Tryd.ntmps16
  go_wp2
  go_ret
  obtain ⟨Ac, cc, rfl, _⟩ := own_form hc.own
  exact .inl ⟨hv.out, rfl, Below.refl _ _, j, _, _, _, h⟩
end Go.Proofs.YtmejpcfbefjjaaaDoor.Scr
