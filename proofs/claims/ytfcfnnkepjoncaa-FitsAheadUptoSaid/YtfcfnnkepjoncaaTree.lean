/- A tree of values that came in: what it reads as, opened; its bulk. -/
import Derived.Test.YtfcfnnkepjoncaaHand18
import Derived.Test.YtfcfnnkepjoncaaRows
import Derived.OpenShut
import Derived.DataElems
import Derived.Deep.Slices
namespace Go.Proofs.Ytfcfnnkepjoncaa.Hand
open Go.RowKit Go.Shelf Go.Proofs.YtfcfnnkepjoncaaW.PrintWords Go.Proofs.YtfcfnnkepjoncaaW.PrintLast Go.Proofs.YtfcfnnkepjoncaaW.PrintMore Go.Proofs.Ytfcfnnkepjoncaa.PC
set_option linter.unusedVariables false
set_option linter.unusedSimpArgs false
theorem c44 : Try.prog.cellsOf 44 = 5 := by kernel_rfl
theorem c3 : Try.prog.cellsOf 3 = 1 := by kernel_rfl
theorem c4 : Try.prog.cellsOf 4 = 1 := by kernel_rfl
theorem c42 : Try.prog.cellsOf 42 = 1 := by kernel_rfl
theorem c9 : Try.prog.cellsOf 9 = 1 := by kernel_rfl
theorem c39 : Try.prog.cellsOf 39 = 1 := by kernel_rfl
/-- a value's numbers are of their kinds -/
def TOk (t : S44) : Prop := (Lit.int .i64 t.f0).wf = true ∧ (Lit.int .u64 t.f2).wf = true ∧ t.f3.size ≤ maxLen
/-- how many values and letters -/
def bulkL (l : List S44) : Nat := (l.map (fun t => t.f3.size + 1)).sum
theorem bulkL_append (a b : List S44) : bulkL (a ++ b) = bulkL a + bulkL b := by simp [bulkL]
theorem len_bulk (l : List S44) : l.length ≤ bulkL l := by
  induction l with
  | nil => simp
  | cons t l ih => simp [bulkL] at ih ⊢; omega
theorem mem_bulk {l : List S44} {t : S44} (h : t ∈ l) : t.f3.size + 1 ≤ bulkL l := by
  induction l with
  | nil => cases h
  | cons u l ih =>
    simp only [bulkL, List.map_cons, List.sum_cons]
    rcases List.mem_cons.1 h with rfl | h
    · omega
    · have := ih h; simp only [bulkL] at this; omega
theorem choose_list {α : Type} {Pr : Nat → α → Prop} : ∀ (n : Nat), (∀ i, i < n → ∃ x, Pr i x) → ∃ l : List α, l.length = n ∧ ∀ i x, l[i]? = some x → Pr i x
  | 0, _ => ⟨[], rfl, fun i x h => by simp at h⟩
  | n + 1, h => by
    obtain ⟨l, hl, hp⟩ := choose_list n (fun i hi => h i (by omega))
    obtain ⟨x, hx⟩ := h n (by omega)
    refine ⟨l ++ [x], by simp [hl], fun i y hy => ?_⟩
    by_cases hi : i < n
    · rw [List.getElem?_append_left (by omega)] at hy; exact hp i y hy
    · rw [List.getElem?_append_right (by omega)] at hy
      have : i = n := by
        have h_ := (List.getElem?_eq_some_iff.1 hy).1
        simp at h_; omega
      subst this
      simp [hl] at hy; subst hy; exact hx
theorem sum_le {H : Type} : ∀ (l : List S44) (ds : List (DataW H)), l.length = ds.length → (∀ (i : Nat) x d, l[i]? = some x → ds[i]? = some d → bulkL (preT x) ≤ Rows.uptoBulk d) → bulkL (preL l) ≤ Rows.uptoBulkAll ds
  | [], [], _, _ => by simp [preL, bulkL]
  | x :: l, d :: ds, hl, h => by
    have h0 := h 0 x d rfl rfl
    have h1 := sum_le l ds (by simpa using hl) (fun i y e hy he => h (i + 1) y e (by simpa using hy) (by simpa using he))
    rw [preL, bulkL_append, Rows.uptoBulkAll]; omega
  | [], _ :: _, hl, _ => by simp at hl
  | _ :: _, [], hl, _ => by simp at hl
theorem ok_preL {l : List S44} (h : ∀ x ∈ l, ∀ t ∈ preT x, TOk t) : ∀ t ∈ preL l, TOk t := by
  induction l with
  | nil => intro t ht; simp [preL] at ht
  | cons x l ih =>
    intro t ht
    rw [preL, List.mem_append] at ht
    rcases ht with ht | ht
    · exact h x (by simp) t ht
    · exact ih (fun y hy => h y (by simp [hy])) t ht
theorem five {α : Type} {l : List α} (h : l.length = 5) : ∃ a b c d e, l = [a, b, c, d, e] := by
  match l, h with
  | [a, b, c, d, e], _ => exact ⟨a, b, c, d, e, rfl⟩
/-- the cells of a value that came in -/
def TreeAt (W : World) (x : S44) (A : Option Addr) (c : Nat) : Prop := x.f4.length ≤ c ∧ Kd.C k44 W A x.f4.length x.f4 ∧ ∀ t ∈ preT x, TOk t
theorem list_open {H : Type} {enc : TypeId × Value → H} {W : World} {held : Bool} {sp : Nat → Bool} {fuel : Nat}
    (ih : ∀ m, m < fuel → ∀ (cs : List Value) (y : DataW H × List MemPlace), DataW.trod enc Try.prog W 0 sp held m 44 cs = some y →
      ∃ (x : S44) (A : Option Addr) (c : Nat), cs = [.int .i64 x.f0, .bool x.f1, .int .u64 x.f2, .string x.f3, .slice A x.f4.length c] ∧ TreeAt W x A c ∧ bulkL (preT x) ≤ Rows.uptoBulk y.1)
    (cs : List Value) (y : DataW H × List MemPlace) (h : DataW.trod enc Try.prog W 0 sp held fuel 39 cs = some y) :
    ∃ (l : List S44) (A : Option Addr) (c : Nat), cs = [.slice A l.length c] ∧ l.length ≤ c ∧ Kd.C k44 W A l.length l ∧ (∀ t ∈ preL l, TOk t) ∧ bulkL (preL l) + 1 ≤ Rows.uptoBulk y.1 := by
  rcases DataW.trod_slice Try.underlying39 h with ⟨rfl, rfl⟩ | ⟨a, len, cap, elems, rest, n, rfl, rfl, rfl, hb, hl, hm, hlen, hel, hsp, hns⟩
  · exact ⟨[], none, 0, rfl, Nat.le_refl _, ⟨rfl, by decide, fun h => by simp at h⟩, fun t ht => by simp [preL] at ht, by simp [preL, bulkL, Rows.uptoBulk]⟩
  · have hall : ∀ i, i < len → ∃ x : S44, ∃ cs' y, W.cells? 0 (a.add (i * 5)) 5 = some cs' ∧ elems[i]? = some y ∧ (∃ (A : Option Addr) (c : Nat), cs' = [.int .i64 x.f0, .bool x.f1, .int .u64 x.f2, .string x.f3, .slice A x.f4.length c] ∧ TreeAt W x A c) ∧ bulkL (preT x) ≤ Rows.uptoBulk y.1 := by
      intro i hi
      have h1 := hel i hi
      rw [c44] at h1
      have h2 : elems[i]? = some elems[i] := List.getElem?_eq_getElem (by omega)
      rw [h2] at h1
      obtain ⟨cs', hc1, hc2⟩ := Option.bind_eq_some_iff.1 h1
      obtain ⟨x, A, c, he, ht, hbk⟩ := ih n (by omega) cs' _ hc2
      exact ⟨x, cs', _, hc1, h2, ⟨A, c, he, ht⟩, hbk⟩
    obtain ⟨l, hll, hlp⟩ := choose_list len hall
    refine ⟨l, some a, cap, by rw [hll], by omega, ⟨rfl, by unfold maxLen at hm; omega, fun _ => ⟨a, rfl, fun j x hx => ?_⟩⟩, ?_, ?_⟩
    · obtain ⟨cs', y, h1, h2, ⟨A, c, rfl, ht⟩, _⟩ := hlp j x hx
      refine ⟨_, rfl, k44_mk W x ht.1 ht.2.1, fun i u hu => ?_⟩
      have h3 := World.cells?_some h1
      have hi : i < 5 := by have h_ := (List.getElem?_eq_some_iff.1 hu).1; simpa using h_
      show W.cell? (a.add (j * 5 + i)) = some u
      rw [← Addr.add_add]
      rw [← hu]
      exact h3.2.2 i hi
    · refine ok_preL (fun x hx t ht => ?_)
      obtain ⟨i, hi⟩ := List.mem_iff_getElem?.1 hx
      obtain ⟨cs', y, h1, h2, ⟨A, c, rfl, ht'⟩, _⟩ := hlp i x hi
      exact ht'.2.2 t ht
    · have h1 := sum_le l (elems.map (·.1)) (by simp [hll, hlen]) (fun i x d hx hd => by
        obtain ⟨cs', y, _, h2, _, h3⟩ := hlp i x hx
        simp only [List.getElem?_map, h2, Option.map_some, Option.some.injEq] at hd
        rw [← hd]; exact h3)
      simp only [Rows.uptoBulk]
      omega
set_option maxRecDepth 100000 in
theorem tree_open {H : Type} {enc : TypeId × Value → H} {W : World} {held : Bool} {sp : Nat → Bool} (fuel : Nat) : ∀ (cs : List Value) (y : DataW H × List MemPlace), DataW.trod enc Try.prog W 0 sp held fuel 44 cs = some y →
    ∃ (x : S44) (A : Option Addr) (c : Nat), cs = [.int .i64 x.f0, .bool x.f1, .int .u64 x.f2, .string x.f3, .slice A x.f4.length c] ∧ TreeAt W x A c ∧ bulkL (preT x) ≤ Rows.uptoBulk y.1 := by
  induction fuel using Nat.strongRecOn with
  | _ fuel ih =>
  intro cs y h
  obtain ⟨xs, n, rfl, rfl, hlen, hxs, hel⟩ := DataW.trod_struct Try.underlying44 h
  rw [c44] at hlen
  have hxs' : xs.length = 5 := hxs
  clear hxs
  obtain ⟨v0, v1, v2, v3, v4, rfl⟩ : ∃ v0 v1 v2 v3 v4, cs = [v0, v1, v2, v3, v4] := five hlen
  obtain ⟨x0, x1, x2, x3, x4, rfl⟩ : ∃ v0 v1 v2 v3 v4, xs = [v0, v1, v2, v3, v4] := five hxs'
  have h0 := hel 0 { name := "K", type := 3, offset := 0, embedded := false, tag := "", pkgPath := "", byteOffset := 0 } rfl
  simp only [c3, List.drop_zero, List.drop_succ_cons, List.take_succ_cons, List.take_zero, List.getElem?_cons_zero, List.getElem?_cons_succ] at h0
  have h1 := hel 1 { name := "Neg", type := 4, offset := 1, embedded := false, tag := "", pkgPath := "", byteOffset := 8 } rfl
  simp only [c4, List.drop_zero, List.drop_succ_cons, List.take_succ_cons, List.take_zero, List.getElem?_cons_zero, List.getElem?_cons_succ] at h1
  have h2 := hel 2 { name := "N", type := 42, offset := 2, embedded := false, tag := "", pkgPath := "", byteOffset := 16 } rfl
  simp only [c42, List.drop_zero, List.drop_succ_cons, List.take_succ_cons, List.take_zero, List.getElem?_cons_zero, List.getElem?_cons_succ] at h2
  have h3 := hel 3 { name := "S", type := 9, offset := 3, embedded := false, tag := "", pkgPath := "", byteOffset := 24 } rfl
  simp only [c9, List.drop_zero, List.drop_succ_cons, List.take_succ_cons, List.take_zero, List.getElem?_cons_zero, List.getElem?_cons_succ] at h3
  have h4 := hel 4 { name := "L", type := 39, offset := 4, embedded := false, tag := "", pkgPath := "", byteOffset := 40 } rfl
  simp only [c39, List.drop_zero, List.drop_succ_cons, List.take_succ_cons, List.take_zero, List.getElem?_cons_zero, List.getElem?_cons_succ] at h4
  obtain ⟨a0, e0, rfl, w0⟩ := DataW.trod_int Try.underlying3 h0
  obtain ⟨a1, e1, rfl⟩ := DataW.trod_bool Try.underlying4 h1
  obtain ⟨a2, e2, rfl, w2⟩ := DataW.trod_int Try.underlying42 h2
  obtain ⟨a3, e3, rfl, w3⟩ := DataW.trod_string Try.underlying9 h3
  obtain ⟨l, A, c, e4, hl1, hl2, hl3, hl4⟩ := list_open (fun m hm => ih m (by omega)) [v4] x4 h4
  simp only [List.cons.injEq, and_true] at e0 e1 e2 e3 e4
  subst e0 e1 e2 e3 e4
  refine ⟨⟨a0, a1, a2, a3, l⟩, A, c, rfl, ⟨hl1, hl2, fun t ht => ?_⟩, ?_⟩
  · rw [preT_eq] at ht
    rcases List.mem_cons.1 ht with rfl | ht
    · exact ⟨w0, w2, w3⟩
    · exact hl3 t ht
  · rw [preT_eq]
    show bulkL (_ :: preL l) ≤ _
    have e : bulkL ((⟨a0, a1, a2, a3, l⟩ : S44) :: preL l) = a3.size + 1 + bulkL (preL l) := by simp [bulkL]
    rw [e]
    simp only [List.map_cons, List.map_nil, Rows.uptoBulk, Rows.uptoBulkAll, Array.length_toList]
    have h_ : a3.data.size = a3.size := rfl
    omega
end Go.Proofs.Ytfcfnnkepjoncaa.Hand
