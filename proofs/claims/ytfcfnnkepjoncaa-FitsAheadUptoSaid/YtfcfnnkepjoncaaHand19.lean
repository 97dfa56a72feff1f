/- value.Depth, value.Check, fits.Fits, has: as plain functions; what the laws of fits ask of them. -/
import Derived.Test.YtfcfnnkepjoncaaTree
import Derived.Test.YtfcfnnkepjoncaaPCx15
import Derived.Test.YtfcfnnkepjoncaaPCx14
namespace Go.Proofs.Ytfcfnnkepjoncaa.Hand
open Go.RowKit Go.Shelf Go.Proofs.YtfcfnnkepjoncaaW.PrintWords Go.Proofs.YtfcfnnkepjoncaaW.PrintLast Go.Proofs.YtfcfnnkepjoncaaW.PrintMore Go.Proofs.Ytfcfnnkepjoncaa.PC
set_option linter.unusedVariables false
set_option linter.unusedSimpArgs false
def leafB (a : Int) : Bool := !(a == 11 || a == 12 || a == 13)
theorem leaf_eq (a : Int) (b : Bool) (c : Int) (d : ByteArray) (l : List S44) : value_Leaf.f a b c d l = some (leafB a) := by
  unfold value_Leaf.f leafB
  by_cases h1 : a = 11
  · simp [h1]
  · by_cases h2 : a = 12
    · simp [h2]
    · by_cases h3 : a = 13
      · simp [h3]
      · simp [h1, h2, h3]
mutual
/-- how deep a tree is -/
def depT : S44 → Nat
  | ⟨a, _, _, _, l⟩ => if leafB a = true then (if a = 5 then 1 else 0) else depL l + 1
def depL : List S44 → Nat
  | [] => 0
  | t :: ts => max (depT t) (depL ts)
end
theorem depT_eq (t : S44) : depT t = if leafB t.f0 = true then (if t.f0 = 5 then 1 else 0) else depL t.f4 + 1 := by
  obtain ⟨a, b, c, d, l⟩ := t; rw [depT]
theorem depL_drop {l : List S44} {j : Nat} (hj : j < l.length) : depL (l.drop j) = max (depT (rd_T44 l (j : Int))) (depL (l.drop (j + 1))) := by
  rw [List.drop_eq_getElem_cons hj, depL]
  have h_ : l[j] = rd_T44 l (j : Int) := by unfold rd_T44; simp [List.getD_eq_getElem?_getD, List.getElem?_eq_getElem hj]
  rw [h_]
mutual
theorem depT_le : ∀ t : S44, depT t ≤ (preT t).length
  | ⟨a, b, c, d, l⟩ => by
    have h := depL_le l
    rw [depT, preT, List.length_cons]
    split
    · split <;> omega
    · omega
theorem depL_le : ∀ l : List S44, depL l ≤ (preL l).length
  | [] => by simp [depL]
  | t :: ts => by
    have h1 := depT_le t
    have h2 := depL_le ts
    rw [depL, preL, List.length_append]; omega
end
theorem depL_mem {l : List S44} {t : S44} (h : t ∈ l) : depT t ≤ depL l := by
  induction l with
  | nil => cases h
  | cons u l ih =>
    rw [depL]
    rcases List.mem_cons.1 h with rfl | h
    · omega
    · have := ih h; omega
theorem dep_loop (l : List S44) (hl : (preL l).length ≤ 1099511627776) (h : ∀ i : Nat, i < l.length → Ev (fun k => value_Depth.f k (rd_T44 l i).f0 (rd_T44 l i).f1 (rd_T44 l i).f2 (rd_T44 l i).f3 (rd_T44 l i).f4) ((depT (rd_T44 l i) : Nat) : Int)) :
    ∀ (d j x3 : Nat), j + d = l.length → x3 ≤ 1099511627776 → Ev (fun k => value_Depth.l0 k (x3 : Int) l (l.length : Int) (j : Int)) (((max x3 (depL (l.drop j)) + 1 : Nat)) : Int) := by
  have hll := len_preL l
  intro d
  induction d with
  | zero =>
    intro j x3 hj hx
    refine ⟨1, fun n hn => ?_⟩
    obtain ⟨m, rfl⟩ : ∃ m, n = m + 1 := ⟨n - 1, by omega⟩
    simp only [value_Depth.l0]
    rw [if_neg (by omega), List.drop_of_length_le (by omega), depL]
    have e : wrap64 ((x3 : Int) + 1) = ((max x3 0 + 1 : Nat) : Int) := by unfold wrap64; omega
    rw [e]
  | succ d ih =>
    intro j x3 hj hx
    have hlt : j < l.length := by omega
    have ht := h j hlt
    have hdl := depL_mem (l := l) (t := rd_T44 l (j : Int)) (by unfold rd_T44; simp [List.getD_eq_getElem?_getD, List.getElem?_eq_getElem hlt])
    have hdl2 := depL_le l
    have hr := ih (j + 1) (max x3 (depT (rd_T44 l (j : Int)))) (by omega) (by omega)
    have e1 : mx (x3 : Int) ((depT (rd_T44 l (j : Int)) : Nat) : Int) = ((max x3 (depT (rd_T44 l (j : Int))) : Nat) : Int) := by unfold mx; omega
    have e2 : max (max x3 (depT (rd_T44 l (j : Int)))) (depL (l.drop (j + 1))) = max x3 (depL (l.drop j)) := by rw [depL_drop hlt]; omega
    rw [e2] at hr
    refine Ev.step (f := fun k => (value_Depth.f k (rd_T44 l j).f0 (rd_T44 l j).f1 (rd_T44 l j).f2 (rd_T44 l j).f3 (rd_T44 l j).f4).bind fun t106 => value_Depth.l0 k (mx x3 t106) l (l.length : Int) (wrap64 ((j : Int) + 1))) (fun k => ?_) (Ev.bind ht ?_)
    · simp only [value_Depth.l0]
      rw [if_pos (by omega), if_pos (by omega), if_pos (by omega)]
    · rw [wrap_j (n := l.length) (by omega) (by omega), e1]; exact hr
theorem dep_ev : ∀ (n : Nat) (t : S44), (preT t).length ≤ n → n ≤ 1099511627776 → Ev (fun k => value_Depth.f k t.f0 t.f1 t.f2 t.f3 t.f4) ((depT t : Nat) : Int) := by
  intro n
  induction n with
  | zero => intro t h; rw [preT_eq] at h; simp at h
  | succ n ih =>
    intro t h hn
    rw [preT_eq, List.length_cons] at h
    have hl := len_preL t.f4
    have hb := leaf_eq t.f0 t.f1 t.f2 t.f3 t.f4
    have hr := dep_loop t.f4 (by omega) (fun i hi => ih _ (by have := child_len hi; omega) (by omega)) t.f4.length 0 0 (by omega) (by omega)
    rw [List.drop_zero] at hr
    rw [depT_eq]
    cases hlf : leafB t.f0 with
    | true =>
      by_cases h5 : t.f0 = 5
      · refine ⟨1, fun m hm => ?_⟩
        obtain ⟨m, rfl⟩ : ∃ k, m = k + 1 := ⟨m - 1, by omega⟩
        simp only [value_Depth.f, hb, hlf, Option.bind_some, if_true, if_pos h5]; rfl
      · refine ⟨1, fun m hm => ?_⟩
        obtain ⟨m, rfl⟩ : ∃ k, m = k + 1 := ⟨m - 1, by omega⟩
        simp only [value_Depth.f, hb, hlf, Option.bind_some, if_true, if_neg h5]; rfl
    | false =>
      refine Ev.step (f := fun k => value_Depth.l0 k ((0 : Nat) : Int) t.f4 (t.f4.length : Int) ((0 : Nat) : Int)) (fun k => ?_) ?_
      · simp only [value_Depth.f, hb, hlf, Option.bind_some]
        rfl
      · have e : (if false = true then (if t.f0 = 5 then 1 else 0) else depL t.f4 + 1) = max 0 (depL t.f4) + 1 := by rw [if_neg (by decide)]; omega
        rw [e]; exact hr
/-- may a tree be? as a plain function -/
def chkK (x : S44) : Int := if depT x > 64 then 2 else if (preT x).length > 65536 then 2 else checkL (preT x)
/-- a tree of a size that can be -/
def Small (x : S44) : Prop := (preT x).length ≤ 1099511627776 ∧ ∀ t ∈ preT x, t.f3.size < 9223372036854775807
theorem check_k (x : S44) (h : Small x) : ∃ k, value_Check.f k x.f0 x.f1 x.f2 x.f3 x.f4 = some (chkK x) := by
  obtain ⟨k, hk⟩ := (dep_ev _ x (Nat.le_refl _) h.1).rounds
  refine ⟨k, ?_⟩
  obtain ⟨a, b, c, d, l⟩ := x
  dsimp only at hk ⊢
  unfold value_Check.f chkK
  rw [hk, Option.bind_some]
  by_cases h1 : depT ⟨a, b, c, d, l⟩ > 64
  · rw [if_pos (by omega), if_pos h1]
  · rw [if_neg (by omega), if_neg h1, if_pos (show _ ∧ _ from h)]
    by_cases h2 : (preT ⟨a, b, c, d, l⟩).length > 65536
    · rw [if_pos h2, if_pos h2]
    · rw [if_neg h2, if_neg h2]
def goodK (f : Int) (x : S44) : Bool := ((preS x [] false).find? (badK f)).isNone
def fitsK (f : Int) (x : S44) : Bool × Int := if 0 ≤ f ∧ f ≤ 3 then (if chkK x = 0 then (goodK f x, 0) else (false, chkK x)) else (false, 1)
theorem fits_k (f : Int) (x : S44) (h : Small x) : ∃ k, fits_Fits.f k f x.f0 x.f1 x.f2 x.f3 x.f4 = some (fitsK f x) := by
  obtain ⟨k, hk⟩ := check_k x h
  refine ⟨k, ?_⟩
  unfold fits_Fits.f fitsK
  split
  · rw [hk, Option.bind_some]
    split
    · obtain ⟨a, b, c, d, l⟩ := x; rfl
    · rfl
  · rfl
theorem fits_call (f : Int) (x : S44) (A : Option Addr) (c : Nat) (w : World) (h : Small x) (hc : x.f4.length ≤ c) (hC : Kd.C k44 w A x.f4.length x.f4) :
    Calls Try.prog 19 #[.int .i64 f, .agg #[.int .i64 x.f0, .bool x.f1, .int .u64 x.f2, .string x.f3, .slice A x.f4.length c]] w fun e w' => e = .returned (.tuple #[.bool (fitsK f x).1, .int .i64 (fitsK f x).2]) ∧ Below w.heap.size w w' := by
  obtain ⟨k, hk⟩ := fits_k f x h
  exact fits_Fits.calls k f _ _ _ _ A c _ _ w hC hc hk
theorem check_call (x : S44) (A : Option Addr) (c : Nat) (w : World) (h : Small x) (hc : x.f4.length ≤ c) (hC : Kd.C k44 w A x.f4.length x.f4) :
    Calls Try.prog 21 #[.agg #[.int .i64 x.f0, .bool x.f1, .int .u64 x.f2, .string x.f3, .slice A x.f4.length c]] w fun e w' => e = .returned (.int .i64 (chkK x)) ∧ Below w.heap.size w w' := by
  obtain ⟨k, hk⟩ := check_k x h
  exact value_Check.calls k _ _ _ _ A c _ _ w hC hc hk
theorem awake_true : glossatorlaw17_awake.f 1 = some true := by
  unfold glossatorlaw17_awake.f fits_One.f
  rw [right_true (by decide)]
  have h : fits_says.f 1 0 0 false 0 (⟨#[]⟩ : ByteArray) ([] : List S44) = some true := by unfold fits_says.f; simp
  simp [h]
theorem awake_call (w : World) : Calls Try.prog 20 #[] w fun e w' => e = .returned (.bool true) ∧ Below w.heap.size w w' := glossatorlaw17_awake.calls 1 true w awake_true
/-- is a kind within a tree? -/
def hasB (k : Int) (x : S44) : Bool := (preT x).any (fun t => t.f0 == k)
theorem any_drop {l : List S44} {j : Nat} (k : Int) (hj : j < l.length) : (preL (l.drop j)).any (fun t => t.f0 == k) = (hasB k (rd_T44 l (j : Int)) || (preL (l.drop (j + 1))).any (fun t => t.f0 == k)) := by
  rw [preL_drop hj rfl, List.any_append]; rfl
theorem has_loop (k : Int) (l : List S44) (a : Int) (b : Bool) (c : Int) (d : ByteArray) (hl : l.length < 9223372036854775807) (h : ∀ i : Nat, i < l.length → Ev (fun n => glossatorlaw17_has.f n (rd_T44 l i).f0 (rd_T44 l i).f1 (rd_T44 l i).f2 (rd_T44 l i).f3 (rd_T44 l i).f4 k) (hasB k (rd_T44 l i))) :
    ∀ (m j : Nat), j + m = l.length → Ev (fun n => glossatorlaw17_has.l0 n k (j : Int) a b c d l) ((preL (l.drop j)).any (fun t => t.f0 == k)) := by
  intro m
  induction m with
  | zero =>
    intro j hj
    refine ⟨1, fun n hn => ?_⟩
    obtain ⟨m, rfl⟩ : ∃ m, n = m + 1 := ⟨n - 1, by omega⟩
    simp only [glossatorlaw17_has.l0]
    rw [if_neg (by omega), List.drop_of_length_le (by omega)]
    rfl
  | succ m ih =>
    intro j hj
    have ht := h j (by omega)
    have hr := ih (j + 1) (by omega)
    rw [any_drop k (by omega)]
    refine Ev.step (f := fun n => (glossatorlaw17_has.f n (rd_T44 l j).f0 (rd_T44 l j).f1 (rd_T44 l j).f2 (rd_T44 l j).f3 (rd_T44 l j).f4 k).bind fun t => if t = true then some true else glossatorlaw17_has.l0 n k (wrap64 ((j : Int) + 1)) a b c d l) (fun n => ?_) (Ev.bind ht ?_)
    · simp only [glossatorlaw17_has.l0]
      rw [if_pos (by omega), if_pos (by omega)]
    · cases hasB k (rd_T44 l j) with
      | true => simp only [if_true, Bool.true_or]; exact Ev.now _
      | false => simp only [Bool.false_or]; rw [wrap_j (n := l.length) (by omega) hl]; exact hr
theorem has_ev (k : Int) : ∀ (n : Nat) (t : S44), (preT t).length ≤ n → n ≤ 1099511627776 → Ev (fun n => glossatorlaw17_has.f n t.f0 t.f1 t.f2 t.f3 t.f4 k) (hasB k t) := by
  intro n
  induction n with
  | zero => intro t h; rw [preT_eq] at h; simp at h
  | succ n ih =>
    intro t h hn
    rw [preT_eq, List.length_cons] at h
    have hl := len_preL t.f4
    have hr := has_loop k t.f4 t.f0 t.f1 t.f2 t.f3 (by omega) (fun i hi => ih _ (by have := child_len hi; omega) (by omega)) t.f4.length 0 (by omega)
    rw [List.drop_zero] at hr
    have e : hasB k t = (t.f0 == k || (preL t.f4).any (fun t => t.f0 == k)) := by unfold hasB; rw [preT_eq]; rfl
    rw [e]
    by_cases h0 : t.f0 = k
    · refine ⟨1, fun m hm => ?_⟩
      obtain ⟨m, rfl⟩ : ∃ k, m = k + 1 := ⟨m - 1, by omega⟩
      simp only [glossatorlaw17_has.f, h0, beq_self_eq_true, Bool.true_or, if_true]
    · refine Ev.step (f := fun n => glossatorlaw17_has.l0 n k ((0 : Nat) : Int) t.f0 t.f1 t.f2 t.f3 t.f4) (fun n => ?_) ?_
      · simp only [glossatorlaw17_has.f, if_neg h0]; rfl
      · rw [beq_eq_false_iff_ne.mpr h0, Bool.false_or]; exact hr
theorem has_call (k : Int) (x : S44) (A : Option Addr) (c : Nat) (w : World) (h : Small x) (hc : x.f4.length ≤ c) (hC : Kd.C k44 w A x.f4.length x.f4) :
    Calls Try.prog 22 #[.agg #[.int .i64 x.f0, .bool x.f1, .int .u64 x.f2, .string x.f3, .slice A x.f4.length c], .int .i64 k] w fun e w' => e = .returned (.bool (hasB k x)) ∧ Below w.heap.size w w' := by
  obtain ⟨n, hn⟩ := (has_ev k _ x (Nat.le_refl _) h.1).rounds
  exact glossatorlaw17_has.calls n _ _ _ _ A c _ k _ w hC hc hn
/-! what each format says -/
theorem says_diag (t : S44) : saysK 3 t = true := by
  have h := saysK_eq 3 t
  unfold fits_says.f at h
  simpa using h.symm
theorem says_cbor (t : S44) : saysK 1 t = (t.f0 != 14) := by
  have h := saysK_eq 1 t
  unfold fits_says.f at h
  simpa using h.symm
theorem says_pack (t : S44) (h13 : t.f0 = 13) : saysK 2 t = false := by
  have h := saysK_eq 2 t
  unfold fits_says.f at h
  rw [h13] at h
  simpa [fits_says.j0] using h.symm
theorem says_json (t : S44) (h9 : t.f0 = 9 ∨ t.f0 = 14) : saysK 0 t = false := by
  have h := saysK_eq 0 t
  unfold fits_says.f at h
  rcases h9 with h9 | h9
  · rw [h9] at h; simpa using h.symm
  · rw [h9] at h; simpa using h.symm
theorem good_iff (f : Int) (x : S44) : goodK f x = true ↔ ∀ d ∈ preS x [] false, badK f d = false := by
  unfold goodK
  rw [Option.isNone_iff_eq_none, List.find?_eq_none]
  exact ⟨fun h d hd => by simpa using h d hd, fun h d hd => by simp [h d hd]⟩
theorem mem_preS {x t : S44} (h : t ∈ preT x) : ∃ ps k, (t, ps, k) ∈ preS x [] false := by
  rw [← preS_fst x [] false] at h
  obtain ⟨⟨u, ps, k⟩, hd, rfl⟩ := List.mem_map.1 h
  exact ⟨ps, k, hd⟩
theorem mem_preT {x : S44} {d : S44 × List Int × Bool} (h : d ∈ preS x [] false) : d.1 ∈ preT x := by
  rw [← preS_fst x [] false]; exact List.mem_map_of_mem h
theorem good_says {f : Int} {x t : S44} (h : goodK f x = true) (ht : t ∈ preT x) : saysK f t = true := by
  obtain ⟨ps, k, hd⟩ := mem_preS ht
  have h1 := (good_iff f x).1 h _ hd
  unfold badK at h1
  simp only [Bool.or_eq_false_iff, Bool.not_eq_false'] at h1
  exact h1.1
theorem good_of_says {f : Int} (hf : f ≠ 0) {x : S44} (h : ∀ t ∈ preT x, saysK f t = true) : goodK f x = true := by
  rw [good_iff]
  intro d hd
  unfold badK
  rw [h d.1 (mem_preT hd), beq_eq_false_iff_ne.mpr hf]
  simp
theorem all_diag (x : S44) : goodK 3 x = true := good_of_says (by decide) (fun t _ => says_diag t)
theorem all_cbor (x : S44) : goodK 1 x = !hasB 14 x := by
  cases h : hasB 14 x with
  | false =>
    refine good_of_says (by decide) (fun t ht => ?_)
    rw [says_cbor]
    have h1 := List.any_eq_false.1 h t ht
    simpa using h1
  | true =>
    obtain ⟨t, ht, h1⟩ := List.any_eq_true.1 h
    show goodK 1 x = false
    rw [Bool.eq_false_iff]
    intro hg
    have h2 := good_says hg ht
    rw [says_cbor] at h2
    simp at h1 h2
    exact h2 h1
theorem all_pack (x : S44) (h : goodK 2 x = true) : hasB 13 x = false := by
  rw [Bool.eq_false_iff]
  intro hh
  obtain ⟨t, ht, h1⟩ := List.any_eq_true.1 hh
  have h2 := good_says h ht
  rw [says_pack t (by simpa using h1)] at h2
  cases h2
theorem all_json (x : S44) (h : goodK 0 x = true) : hasB 14 x = false ∧ hasB 9 x = false := by
  constructor
  · rw [Bool.eq_false_iff]
    intro hh
    obtain ⟨t, ht, h1⟩ := List.any_eq_true.1 hh
    have h2 := good_says h ht
    rw [says_json t (.inr (by simpa using h1))] at h2
    cases h2
  · rw [Bool.eq_false_iff]
    intro hh
    obtain ⟨t, ht, h1⟩ := List.any_eq_true.1 hh
    have h2 := good_says h ht
    rw [says_json t (.inl (by simpa using h1))] at h2
    cases h2
end Go.Proofs.Ytfcfnnkepjoncaa.Hand
