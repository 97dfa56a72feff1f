/- Losses that came in, opened; what they weigh; the law's answer over them. -/
import Derived.Test.YtfcfnnkepjoncaaDoorLawW
import Derived.Test.YtfcfnnkepjoncaaDoorRows
import Derived.Test.YtfcfnnkepjoncaaDoorBulk
import Derived.OpenShut
import Derived.DataElems
import Derived.Deep.Slices
import Derived.ChangeSame
import Derived.ChangeSlices
import Derived.Lib.ItoaLen
namespace Go.Proofs.YtfcfnnkepjoncaaDoor.Hand
open Go.RowKit Go.Shelf Go.ChangeShapes Go.WideShapes Go.Proofs.YtfcfnnkepjoncaaDoorW.PrintWords
set_option linter.unusedVariables false
theorem c43 : Tryd.prog.cellsOf 43 = 2 := by kernel_rfl
theorem c33 : Tryd.prog.cellsOf 33 = 1 := by kernel_rfl
theorem c3 : Tryd.prog.cellsOf 3 = 1 := by kernel_rfl
theorem wf64 {x : Int} (h : (Lit.int .i64 x).wf = true) : I64 x := by
  have h1 : IntKind.i64.min = -9223372036854775808 := by decide
  have h2 : IntKind.i64.max = 9223372036854775807 := by decide
  simp [Lit.wf] at h; unfold I64; omega
theorem wf16 {x : Int} (h : (Lit.int .i16 x).wf = true) : -32768 ≤ x ∧ x ≤ 32767 := by
  have h1 : IntKind.i16.min = -32768 := by decide
  have h2 : IntKind.i16.max = 32767 := by decide
  simp [Lit.wf] at h; omega
def wgt (ls : List (Int × List Int)) : Nat := (ls.map (fun q => q.2.length + 3)).sum
theorem choose_list {α : Type} {Pr : Nat → α → Prop} : ∀ (n : Nat), (∀ i, i < n → ∃ x, Pr i x) → ∃ l : List α, l.length = n ∧ ∀ i x, l[i]? = some x → Pr i x
  | 0, _ => ⟨[], rfl, fun i x h => by simp at h⟩
  | n + 1, h => by
    obtain ⟨l, hl, hp⟩ := choose_list n (fun i hi => h i (by omega))
    obtain ⟨x, hx⟩ := h n (by omega)
    refine ⟨l ++ [x], by simp [hl], fun i y hy => ?_⟩
    by_cases hi : i < n
    · rw [List.getElem?_append_left (by omega)] at hy; exact hp i y hy
    · rw [List.getElem?_append_right (by omega)] at hy
      have : i = n := by
        have h_ := (List.getElem?_eq_some_iff.1 hy).1
        simp at h_; omega
      subst this
      simp [hl] at hy; subst hy; exact hx
theorem wgt_le {H : Type} : ∀ (l : List (Int × List Int)) (ds : List (DataW H)), l.length = ds.length → (∀ (i : Nat) x d, l[i]? = some x → ds[i]? = some d → x.2.length + 3 ≤ Rows.uptoBulk d) → wgt l ≤ Rows.uptoBulkAll ds
  | [], [], _, _ => by simp [wgt]
  | x :: l, d :: ds, hl, h => by
    have h0 := h 0 x d rfl rfl
    have h1 := wgt_le l ds (by simpa using hl) (fun i y e hy he => h (i + 1) y e (by simpa using hy) (by simpa using he))
    simp only [wgt, List.map_cons, List.sum_cons, Rows.uptoBulkAll] at h1 ⊢; omega
  | [], _ :: _, hl, _ => by simp at hl
  | _ :: _, [], hl, _ => by simp at hl
/-- the cells of a loss -/
def OneLoss (W : World) (q : Int × List Int) (cs : List Value) : Prop := ∃ (Ap : Option Addr) (cp : Nat), cs = [.slice Ap q.2.length cp, .int .i64 q.1] ∧ (Ap = none → q.2 = [] ∧ cp = 0) ∧ (∀ ap, Ap = some ap → ∀ (i : Nat) (u : Value), (q.2.map (Value.int .i64))[i]? = some u → W.cell? (ap.add i) = some u)
theorem loss_open {H : Type} {enc : TypeId × Value → H} {W : World} {held : Bool} {fuel : Nat} {cs : List Value} {y : DataW H × List MemPlace} (h : DataW.trod enc Tryd.prog W 0 (fun _ => true) held fuel 43 cs = some y) :
    ∃ q : Int × List Int, OneLoss W q cs ∧ I64 q.1 ∧ (∀ n ∈ q.2, I64 n) ∧ q.2.length + 3 ≤ Rows.uptoBulk y.1 := by
  obtain ⟨y0, y1, n, rfl, hlen, h0, h1⟩ := trod_struct2 Tryd.underlying43 h
  rw [c43] at hlen
  obtain ⟨v0, v1, rfl⟩ : ∃ v0 v1, cs = [v0, v1] := by
    match cs, hlen with
    | [a, b], _ => exact ⟨a, b, rfl⟩
  simp only [c33, c3, List.drop_zero, List.drop_succ_cons, List.take_succ_cons, List.take_zero] at h0 h1
  obtain ⟨a1, e1, rfl, w1⟩ := DataW.trod_int Tryd.underlying3 h1
  simp only [List.cons.injEq, and_true] at e1
  subst e1
  rcases open_ints Tryd.underlying33 Tryd.underlying3 c3 h0 with ⟨e0, rfl⟩ | ⟨a, len, cap, zs, e0, _, hl, hm, hz, rfl, hc, hw⟩
  · simp only [List.cons.injEq, and_true] at e0
    subst e0
    exact ⟨(a1, []), ⟨none, 0, rfl, fun _ => ⟨rfl, rfl⟩, (fun ap h => by cases h)⟩, wf64 w1, (fun n h => by cases h), by simp [Rows.uptoBulk, Rows.uptoBulkAll]⟩
  · simp only [List.cons.injEq, and_true] at e0
    subst e0
    simp only [if_true] at hz
    have ht : (zs.take len).length = len := by rw [List.length_take]; omega
    refine ⟨(a1, zs.take len), ⟨some a, cap, by rw [show (a1, zs.take len).2.length = len from ht], (fun h => by cases h), fun ap hap i u hu => ?_⟩, wf64 w1, fun n hn => wf64 (hw n (List.mem_of_mem_take hn)), ?_⟩
    · cases hap
      rw [List.getElem?_map] at hu
      obtain ⟨z, hz2, rfl⟩ := Option.map_eq_some_iff.1 hu
      have hz3 : zs[i]? = some z := by
        rw [List.getElem?_take] at hz2
        split at hz2
        · exact hz2
        · cases hz2
      have hi := (List.getElem?_eq_some_iff.1 hz3).1
      have h_ := hc i hi
      rw [List.getD_eq_getElem?_getD, hz3] at h_
      exact h_
    · have h_ := bulks.slice_le (H := H) (lits .i64 (zs.take len)) (lits .i64 (zs.drop len))
      simp only [Rows.uptoBulk, Rows.uptoBulkAll, ht] at h_ ⊢
      have hl2 : (lits (H := H) .i64 (zs.take len)).length = len := by unfold lits; rw [List.length_map]; exact ht
      rw [hl2] at h_
      omega
theorem losses_open {H : Type} {enc : TypeId × Value → H} {W : World} {held : Bool} {fuel : Nat} {cs : List Value} {y : DataW H × List MemPlace} (h : DataW.trod enc Tryd.prog W 0 (fun _ => true) held fuel 23 cs = some y) :
    ∃ (ls : List (Int × List Int)) (A : Option Addr) (c : Nat), cs = [.slice A ls.length c] ∧ LossAt W A ls ∧ (∀ q ∈ ls, I64 q.1 ∧ ∀ n ∈ q.2, I64 n) ∧ wgt ls + 1 ≤ Rows.uptoBulk y.1 := by
  rcases DataW.trod_slice Tryd.underlying23 h with ⟨rfl, rfl⟩ | ⟨a, len, cap, elems, rest, n, rfl, rfl, rfl, hb, hl, hm, hlen, hel, hsp, hns⟩
  · exact ⟨[], none, 0, rfl, fun j hj => by simp at hj, fun q hq => by simp at hq, by simp [wgt, Rows.uptoBulk]⟩
  · have hall : ∀ i, i < len → ∃ q : Int × List Int, ∃ cs' y, W.cells? 0 (a.add (i * 2)) 2 = some cs' ∧ elems[i]? = some y ∧ OneLoss W q cs' ∧ I64 q.1 ∧ (∀ n ∈ q.2, I64 n) ∧ q.2.length + 3 ≤ Rows.uptoBulk y.1 := by
      intro i hi
      have h1 := hel i hi
      rw [c43] at h1
      have h2 : elems[i]? = some elems[i] := List.getElem?_eq_getElem (by omega)
      rw [h2] at h1
      obtain ⟨cs', hc1, hc2⟩ := Option.bind_eq_some_iff.1 h1
      obtain ⟨q, h3, h4, h5, h6⟩ := loss_open hc2
      exact ⟨q, cs', _, hc1, h2, h3, h4, h5, h6⟩
    obtain ⟨l, hll, hlp⟩ := choose_list len hall
    refine ⟨l, some a, cap, by rw [hll], fun j hj => ?_, fun q hq => ?_, ?_⟩
    · have hq : l[j]? = some l[j] := List.getElem?_eq_getElem hj
      obtain ⟨cs', y, h1, h2, ⟨Ap, cp, rfl, hn, hp⟩, _⟩ := hlp j _ hq
      have h3 := World.cells?_some h1
      refine ⟨a, Ap, cp, _, rfl, hq, ?_, ?_, hn, hp⟩
      · have h4 := h3.2.2 0 (by decide)
        rw [Addr.add_add] at h4
        simpa using h4
      · have h4 := h3.2.2 1 (by decide)
        rw [← add_field _ _ 1 (by omega), ← Addr.add_add]
        simpa using h4
    · obtain ⟨i, hi⟩ := List.mem_iff_getElem?.1 hq
      obtain ⟨cs', y, h1, h2, h3, h4, h5, h6⟩ := hlp i q hi
      exact ⟨h4, h5⟩
    · have h1 := wgt_le l (elems.map (·.1)) (by simp [hll, hlen]) (fun i x d hx hd => by
        obtain ⟨cs', y, _, h2, _, _, _, h3⟩ := hlp i x hx
        simp only [List.getElem?_map, h2, Option.map_some, Option.some.injEq] at hd
        rw [← hd]; exact h3)
      simp only [Rows.uptoBulk]
      omega
theorem nums_len (l : List Int) (h : ∀ n ∈ l, I64 n) : (l.flatMap (fun n => 32 :: Lib.itoa n)).length ≤ 22 * l.length := by
  induction l with
  | nil => simp
  | cons n l ih =>
    have h1 := Lib.itoa_length_le n (h n (by simp)).1 (h n (by simp)).2
    have h2 := ih (fun m hm => h m (by simp [hm]))
    simp only [List.flatMap_cons, List.length_append, List.length_cons] at h2 ⊢
    omega
theorem line_len (word : ByteArray) (l : List Int) (h : ∀ n ∈ l, I64 n) : (lineU word l).length ≤ word.size + 22 * l.length + 1 := by
  unfold lineU
  have h1 := nums_len l h
  simp only [List.length_append, Array.length_toList, List.length_cons, List.length_nil]
  have e : word.data.size = word.size := rfl
  omega
theorem loss_len (ls : List (Int × List Int)) (h : ∀ q ∈ ls, I64 q.1 ∧ ∀ n ∈ q.2, I64 n) : (lossU ls).length ≤ 27 * wgt ls := by
  induction ls with
  | nil => simp [lossU]
  | cons q ls ih =>
    have h1 := ih (fun m hm => h m (by simp [hm]))
    have hq := h q (by simp)
    have h2 := line_len lossW (q.1 :: q.2) (fun n hn => by rcases List.mem_cons.1 hn with rfl | hn; exact hq.1; exact hq.2 n hn)
    have e : lossW.size = 4 := rfl
    simp only [lossU, wgt, List.flatMap_cons, List.length_append, List.map_cons, List.sum_cons, List.length_cons] at h1 h2 ⊢
    omega
theorem wgt_len (ls : List (Int × List Int)) : ls.length ≤ wgt ls := by
  induction ls with
  | nil => simp
  | cons q ls ih => simp only [wgt, List.map_cons, List.sum_cons, List.length_cons] at ih ⊢; omega
theorem wgt_mem (ls : List (Int × List Int)) : ∀ q ∈ ls, q.2.length ≤ wgt ls := by
  induction ls with
  | nil => intro q h; cases h
  | cons p ls ih =>
    intro q h
    simp only [wgt, List.map_cons, List.sum_cons] at ih ⊢
    rcases List.mem_cons.1 h with rfl | h
    · omega
    · have := ih q h; omega
/-- the law's answer -/
theorem law_calls (Ao : Option Addr) (co : Nat) (l : List Int) (ls : List (Int × List Int)) (Al : Option Addr) (cl : Nat) (at_ e : Int) (W : World) (hr : Kd.C (Kd.int .u8) W Ao l.length l) (hc : l.length ≤ co) (hl : ∀ x ∈ l, 0 ≤ x ∧ x < 256) (hn : l.length ≤ 1048576)
    (hL : LossAt W Al ls) (hI : ∀ q ∈ ls, I64 q.1 ∧ ∀ n ∈ q.2, I64 n) (hw : wgt ls ≤ 1048576) (ha : I64 at_) (he : -32768 ≤ e ∧ e ≤ 32767) (htab : Lib.TabIs Tryd.prog W "internal/strconv.uint64pow10" .u64 Lib.pow10Tab) :
    Calls Tryd.prog 3 #[.slice Ao l.length co, .slice Al ls.length cl, .int .i64 at_, .int .i16 e] W fun e' w' => e' = .returned (.bool true) ∧ Below W.heap.size W w' := by
  have heI : I64 e := ⟨by omega, by omega⟩
  have hll := loss_len ls hI
  have hlen := wgt_len ls
  have hmem := wgt_mem ls
  have hend := line_len endW [e, at_] (fun n hn => by rcases List.mem_cons.1 hn with rfl | hn; exact heI; rcases List.mem_cons.1 hn with rfl | hn; exact ha; cases hn)
  have e3 : endW.size = 3 := rfl
  have hsz := hex_size l hl
  have hk : ∀ W', Below W.heap.size W W' → LossAt W' Al ls ∧ Lib.TabIs Tryd.prog W' "internal/strconv.uint64pow10" .u64 Lib.pow10Tab := fun W' hb => ⟨fun j hj => by
    obtain ⟨ad, Ap, cp, q, h1, h2, h3, h4, h5, h6⟩ := hL j hj
    exact ⟨ad, Ap, cp, q, h1, h2, (hb.cell (World.block_lt_of_cell? _ _ h3)).trans h3, (hb.cell (World.block_lt_of_cell? _ _ h4)).trans h4, h5, fun ap hap i u hu => (hb.cell (World.block_lt_of_cell? _ _ (h6 ap hap i u hu))).trans (h6 ap hap i u hu)⟩, tab_below (g := 0) (by kernel_rfl) htab hb⟩
  obtain ⟨word, hword, hws⟩ : ∃ word : ByteArray, ((l.length = 0 ∧ word = outW) ∨ (0 < l.length ∧ word = outW ++ ((⟨#[32]⟩ : ByteArray) ++ hexU l))) ∧ word.size ≤ 4 + 2 * l.length := by
    by_cases h0 : l.length = 0
    · exact ⟨outW, .inl ⟨h0, rfl⟩, by have e : outW.size = 3 := rfl; omega⟩
    · refine ⟨_, .inr ⟨by omega, rfl⟩, ?_⟩
      rw [ByteArray.size_append, ByteArray.size_append, hsz]
      have e : outW.size = 3 := rfl
      have e2 : (⟨#[32]⟩ : ByteArray).size = 1 := rfl
      omega
  have hrep : (repU word ls e at_).length ≤ 140737488355328 := by
    unfold repU
    have h1 := line_len word [] (fun n h => by cases h)
    simp only [List.length_append, List.length_cons, List.length_nil] at h1 hend ⊢
    omega
  refine law_gen _ _ at_ e ⟨(repU word ls e at_).toArray⟩ W he (fun W' hb => ?_) (fun W' hb => ?_) (fun W' hb => awake_calls W' (hk W' hb).2)
  · exact report_calls Ao l.length co word ls Al cl at_ e W' (hk W' hb).1 hI ha heI (by
      rcases hword with h | ⟨h1, h2⟩
      · exact .inl h
      · exact .inr ⟨h1, hexU l, h2, fun W2 hb2 => enc_hex Ao co l W2 hl hn hc (Kd.C_below hr (hb.trans (hb2.mono hb.size)))⟩) (hk W' hb).2 hrep (by omega) (fun q hq => by have := hmem q hq; omega)
  · exact ref_any Ao l.length co word ls Al cl at_ e W' (hk W' hb).1 hI ha heI (by
      rcases hword with h | ⟨h1, h2⟩
      · exact .inl h
      · exact .inr ⟨h1, hexU l, h2, fun W2 hb2 => ref_hex Ao co l W2 hl hn hc (Kd.C_below hr (hb.trans (hb2.mono hb.size)))⟩) hrep (by omega) (fun q hq => by have := hmem q hq; omega)
end Go.Proofs.YtfcfnnkepjoncaaDoor.Hand
