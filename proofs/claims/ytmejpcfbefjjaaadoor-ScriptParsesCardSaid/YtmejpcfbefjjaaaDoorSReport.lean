/- script.Report, over what base.Encode answers. -/
import Derived.Test.YtmejpcfbefjjaaaDoorSLine
import Derived.Laws.AppendOwnNone
import Derived.OwnWalk
import Derived.Lib.Hide
namespace Go.Proofs.YtmejpcfbefjjaaaDoor.Rep
open Go.RowKit Go.Shelf
set_option linter.unusedVariables false
set_option linter.unusedSimpArgs false
def lineU (word : ByteArray) (l : List Int) : List UInt8 := word.data.toList ++ l.flatMap (fun n => 32 :: Lib.itoa n) ++ [10]
theorem byteCells_append (a b : List UInt8) : Lib.byteCells (a ++ b) = Lib.byteCells a ++ Lib.byteCells b := by simp [Lib.byteCells]
theorem strCells_eq (s : ByteArray) : Lib.strCells s = Lib.byteCells s.data.toList := rfl
theorem numS_eq (n : Int) : Lib.strCells (numS n) = Lib.byteCells (32 :: Lib.itoa n) := by
  unfold numS; rw [strCells_eq]; simp
theorem lineB_eq (word : ByteArray) (l : List Int) : lineB word l = Lib.byteCells (lineU word l) := by
  unfold lineB lineU
  rw [byteCells_append, byteCells_append, strCells_eq, strCells_eq]
  congr 2
  unfold numsB
  induction l with
  | nil => rfl
  | cons n l ih => rw [List.flatMap_cons, List.flatMap_cons, byteCells_append, ← ih, numS_eq]
theorem builder_new (w : World) : Lib.BuilderAt 72 5 w.heap.size w.heap.size (.pointer none) [] (w.alloc (.cells #[.pointer none, .slice none 0 0] 72)) :=
  ⟨Nat.le_refl _, .slice none 0 0, heap_alloc_new w _, World.ownsRow_nil _ _ _ _, by simp [Value.ownBlock]⟩
theorem kept_below {w w' : World} (h : Below w.heap.size w w') : ∀ (i : Nat) (o : Obj), w.heap[i]? = some o → w'.heap[i]? = some o := fun i o ho => (h.block i (Array.getElem?_eq_some_iff.1 ho).1).trans ho
theorem blk_a {w : World} {k : Nat} {o : Obj} (h : w.heap[k]? = some o) (o' : Obj) : (w.alloc o').heap[k]? = some o := (Below.heap_alloc w o' k (Array.getElem?_eq_some_iff.1 h).1).trans h
theorem BuilderAt.lt2 {T e : TypeId} {B b : Nat} {p : Value} {bs : List Value} {w : World} (h : Lib.BuilderAt T e B b p bs w) : b < w.heap.size := by
  obtain ⟨_, v, hb, _⟩ := h
  exact (Array.getElem?_eq_some_iff.1 hb).1
theorem line_own {b B g n cap : Nat} {w : World} {l : List Int} (h : w.ownsRow B 3 1 (.slice (some ⟨g, 0, none⟩) n cap) n (l.map (Value.int .i64))) (hb : g ≠ b) : LineAt b w (some ⟨g, 0, none⟩) l := by
  intro j hj
  obtain ⟨_, ⟨he, _⟩ | ⟨g', cap', cur, he, hg, hh, hle, hm, hcs, ht⟩⟩ := h
  · cases he
  · cases he
    refine ⟨_, l[j], rfl, List.getElem?_eq_getElem hj, fun w' hk => ?_⟩
    have h' := hk.2 _ _ _ _ hb (by decide) hh
    have e : (⟨g, 0, none⟩ : Addr).add j = ⟨g, j, none⟩ := by simp [Addr.add_lit]
    rw [e, Lib.cell_of_heap h']
    have h2 : (cur.toList.take (n * 1))[j]? = some (.int .i64 l[j]) := by rw [ht]; simp [List.getElem?_eq_getElem hj]
    rw [List.getElem?_take] at h2
    split at h2
    · simpa using h2
    · cases h2
abbrev outW : ByteArray := ⟨#[111, 117, 116]⟩
abbrev lossW : ByteArray := ⟨#[108, 111, 115, 115]⟩
abbrev endW : ByteArray := ⟨#[101, 110, 100]⟩
def LossAt (w : World) (A : Option Addr) (ls : List (Int × List Int)) : Prop := ∀ j : Nat, j < ls.length → ∃ ad Ap cp q, A = some ad ∧ ls[j]? = some q ∧ w.cell? (ad.add (j * 2)) = some (.slice Ap q.2.length cp) ∧ w.cell? ⟨(ad.add (j * 2)).block, (ad.add (j * 2)).off + 1, none⟩ = some (.int .i64 q.1) ∧
  (Ap = none → q.2 = [] ∧ cp = 0) ∧ ∀ ap, Ap = some ap → ∀ (i : Nat) (u : Value), (q.2.map (Value.int .i64))[i]? = some u → w.cell? (ap.add i) = some u
def lossU (ls : List (Int × List Int)) : List UInt8 := ls.flatMap (fun q => lineU lossW (q.1 :: q.2))
def repU (word : ByteArray) (ls : List (Int × List Int)) (e at_ : Int) : List UInt8 := lineU word [] ++ lossU ls ++ lineU endW [e, at_]
def I64 (n : Int) : Prop := -9223372036854775808 ≤ n ∧ n ≤ 9223372036854775807
theorem own_pos {w : World} {B e z n : Nat} {v : Value} {xs : List Value} (h : w.ownsRow B e z v (n + 1) xs) : ∃ g cap, v = .slice (some ⟨g, 0, none⟩) (n + 1) cap ∧ ∃ cur, w.heap[g]? = some (.cells cur e (0, 0)) := by
  obtain ⟨_, ⟨_, he⟩ | ⟨g, cap, cur, he, _, hh, _⟩⟩ := h
  · cases he
  · exact ⟨g, cap, he, cur, hh⟩
theorem info3 : (Tryd.prog.info? 3).map (fun i => (i.zero, i.size, i.bytes)) = some (some (.int .i64 0), 1, 8) := by kernel_rfl
theorem lossU_take {ls : List (Int × List Int)} {j : Nat} {q : Int × List Int} (h : ls[j]? = some q) : lossU (ls.take (j + 1)) = lossU (ls.take j) ++ lineU lossW (q.1 :: q.2) := by
  unfold lossU
  rw [List.take_add_one, h, List.flatMap_append]; simp
theorem lossU_le (ls : List (Int × List Int)) (j : Nat) : (lossU (ls.take j)).length ≤ (lossU ls).length := by
  have h : lossU ls = lossU (ls.take j) ++ lossU (ls.drop j) := by unfold lossU; rw [← List.flatMap_append, List.take_append_drop]
  rw [h, List.length_append]; omega
set_option maxHeartbeats 8000000 in
set_option maxRecDepth 100000 in
theorem report_calls (Ao : Option Addr) (no co : Nat) (word : ByteArray) (ls : List (Int × List Int)) (Al : Option Addr) (cl : Nat) (at_ e : Int) (w : World) (hL : LossAt w Al ls) (hI : ∀ q ∈ ls, I64 q.1 ∧ ∀ n ∈ q.2, I64 n) (ha : I64 at_) (he : I64 e)
    (hcase : (no = 0 ∧ word = outW) ∨ (0 < no ∧ ∃ hx : ByteArray, word = outW ++ ((⟨#[32]⟩ : ByteArray) ++ hx) ∧ ∀ W, Below w.heap.size w W → Calls Tryd.prog 28 #[.int .i64 0, .slice Ao no co] W fun e' w' => e' = .returned (.tuple #[.string hx, .int .i64 0]) ∧ Below W.heap.size W w'))
    (htab : Lib.TabIs Tryd.prog w "internal/strconv.uint64pow10" .u64 Lib.pow10Tab) (hlen : (repU word ls e at_).length ≤ 140737488355328) (hl63 : ls.length < 9223372036854775807) (hq63 : ∀ q ∈ ls, q.2.length < 1099511627776) :
    Calls Tryd.prog 13 #[.slice Ao no co, .slice Al ls.length cl, .int .i64 at_, .int .i64 e] w fun e' w' => e' = .returned (.string ⟨(repU word ls e at_).toArray⟩) ∧ Below w.heap.size w w' := by
  have hmf : ∀ (fn : Fn) (first cap : Array Value) (w : World), (Instr.makeFunc fn first cap).run Tryd.prog w = .ok (.func fn first cap) w := fun _ _ _ _ => rfl
  have hb0 := builder_new w
  have hB0 : Below w.heap.size w (w.alloc (.cells #[.pointer none, .slice none 0 0] 72)) := (Below.refl _ w).alloc (Nat.le_refl _) _
  have k1 := fun (W : World) (hW : Below (w.alloc (.cells #[.pointer none, .slice none 0 0] 72)).heap.size (w.alloc (.cells #[.pointer none, .slice none 0 0] 72)) W) => line_calls w w.heap.size w.heap.size [] word [] none 0 W (fun n h => by cases h) (.inl (BuilderAt.kept hb0 (kept_below hW))) (fun j hj => by simp at hj) (Nat.le_trans hB0.size hW.size) (Nat.le_refl _) (hB0.trans (hW.mono hB0.size)) htab (by rw [lineB_eq, Lib.byteCells_length]; have h_ := hlen; unfold repU at h_; simp only [List.length_append, List.length_nil] at h_ ⊢; omega) (by simp)
  simp only [List.length_nil, List.nil_append, lineB_eq] at k1
  obtain ⟨wl, hwl⟩ : ∃ wl, lineU word [] = wl := ⟨_, rfl⟩
  have hws : word.size ≤ 140737488355328 := by
    have h_ := hlen
    unfold repU lineU at h_
    simp only [List.length_append, Array.length_toList] at h_
    have e : word.data.size = word.size := rfl
    omega
  unfold repU at hlen ⊢
  rw [hwl] at k1 hlen ⊢
  have HL : Hid _ := Lib.hid hlen
  clear hlen hwl
  rcases hcase with ⟨rfl, rfl⟩ | ⟨hno, hx, rfl, hEnc⟩
  case' inl =>
    go_enter Tryd.func13, Tryd.ntmps13
    go_wp2_with (go_at_call 25; (with_reducible refine (k1 _ (Below.refl _ _)).mono ?_); clear k1; rintro e1 w1 ⟨rfl, hb1, hB1, hk1⟩)
    have hw1 : Below w.heap.size w w1 := hB0.trans hB1
    clear hb0 hB0 hk1 hB1 hws
  case' inr =>
    have hs1 : hx.size ≤ 140737488355328 := by rw [ByteArray.size_append, ByteArray.size_append] at hws; omega
    have hs2 : (⟨#[32]⟩ ++ hx : ByteArray).size ≤ 140737488355328 := by rw [ByteArray.size_append] at hws; omega
    have hno' : (0 : Int) < (no : Int) := by omega
    clear hws
    go_enter Tryd.func13, Tryd.ntmps13
    go_wp2_with (first | (go_at_call 28; (with_reducible refine (hEnc _ hB0).mono ?_); clear hEnc; rintro e0 w0 ⟨rfl, hbE⟩) | (go_at_call 25; (with_reducible refine (k1 _ hbE).mono ?_); clear k1; rintro e1 w1 ⟨rfl, hb1, hB1, hk1⟩))
    have hw1 : Below w.heap.size w w1 := (hB0.trans (hbE.mono hB0.size)).trans hB1
    clear hb0 hB0 hk1 hB1 hbE
  all_goals
    go_loopg [15, 34] ls.length (fun kq v15 v34 wr => ∃ j : Nat, v34 = .int .i64 j ∧ j + kq = ls.length ∧ Lib.BuilderAt 72 5 w.heap.size w.heap.size (.pointer (some ⟨w.heap.size, 0, none⟩)) (Lib.byteCells (wl ++ lossU (ls.take j))) wr ∧ Below w.heap.size w wr)
    case atStart => exact ⟨0, rfl, by omega, by simpa [lossU] using hb1, hw1⟩
    case round =>
      clear hb1 hw1
      obtain ⟨j, rfl, hj, hbj, hwj⟩ := hrel
      cases gk with
      | zero =>
        obtain rfl : j = ls.length := by omega
        rw [List.take_length] at hbj
        have hsz := hwj.size
        have hg1 := World.grownBy_alloc wr (.cells #[.int .i64 e, .int .i64 at_] 3) none
        have hb2 := BuilderAt.kept hbj (fun k o ho => blk_a ho (.cells #[.int .i64 e, .int .i64 at_] 3))
        have hlt := BuilderAt.lt2 hbj
        have hown : (wr.alloc (.cells #[.int .i64 e, .int .i64 at_] 3)).ownsRow w.heap.size 3 1 (.slice (some ⟨wr.heap.size, 0, none⟩) 2 2) 2 ([e, at_].map (Value.int .i64)) := ⟨rfl, .inr ⟨wr.heap.size, 2, _, rfl, hsz, heap_alloc_new wr _, Nat.le_refl _, by simp [maxLen], rfl, rfl⟩⟩
        have hA := line_own (b := w.heap.size) (l := [e, at_]) hown (by omega)
        have k2 := line_calls w w.heap.size w.heap.size _ endW [e, at_] _ 2 _ (fun n h => by rcases List.mem_cons.1 h with rfl | h; exact he; rcases List.mem_cons.1 h with rfl | h; exact ha; cases h) (.inr hb2) hA (by rw [World.size_alloc]; omega) (Nat.le_refl _) (hwj.alloc hsz _) htab
          (by rw [lineB_eq, Lib.byteCells_length, Lib.byteCells_length]; have h_ := HL.out; simp only [List.length_append] at h_ ⊢; omega) (by simp)
        rw [lineB_eq, ← byteCells_append] at k2
        simp only [List.length_cons, List.length_nil, Nat.zero_add, Nat.reduceAdd] at k2
        go_wp2_with (go_at_call 25; (with_reducible refine k2.mono ?_); clear k2; rintro e1 w2 ⟨rfl, hb3, hB3, hk3⟩)
        have hw2 := (hwj.alloc hsz (.cells #[.int .i64 e, .int .i64 at_] 3)).trans hB3
        have k3 := Tryd.Builder_String_any w.heap.size w.heap.size _ w2 (.inr hb3) hw2.size
        go_wp2_with (go_at_call 29; (with_reducible refine k3.mono ?_); clear k3; rintro e1 w3 ⟨rfl, hB4⟩)
        go_ret
        exact ⟨by simp [List.append_assoc], hw2.trans hB4⟩
      | succ d =>
        obtain ⟨ad, Ap, cp, ⟨kind, path⟩, rfl, hq, z0, z1, hnil, hpc⟩ := hL j (by omega)
        dsimp only at z0 z1 hnil hpc
        have hqI := hI _ (List.mem_of_getElem? hq)
        have hq40 := hq63 _ (List.mem_of_getElem? hq)
        dsimp only at hqI hq40
        have hsz := hwj.size
        have hlt2 := BuilderAt.lt2 hbj
        have hlt : (j : Int) < (ls.length : Int) := by omega
        have y0 := (hwj.cell (World.block_lt_of_cell? _ _ z0)).trans z0
        have y1 := (hwj.cell (World.block_lt_of_cell? _ _ z1)).trans z1
        have hle := lossU_le ls (j + 1)
        rw [lossU_take hq, List.length_append] at hle
        have hlen2 : (wl ++ lossU (ls.take j)).length + (lineU lossW (kind :: path)).length ≤ 140737488355328 := by have h_ := HL.out; simp only [List.length_append] at h_ ⊢; dsimp only at hle; omega
        have hl2 : ∀ n ∈ kind :: path, -9223372036854775808 ≤ n ∧ n ≤ 9223372036854775807 := fun n h => by
          rcases List.mem_cons.1 h with rfl | h
          · exact hqI.1
          · exact hqI.2 n h
        obtain ⟨i0, hi0, hz0, hz1, hz2⟩ := info_parts info3
        have hb1 : 1 + path.length ≤ maxLen := by simp only [maxLen]; omega
        have hb2 : (1 + path.length) * 8 ≤ 140737488355328 := by omega
        have h2n : ((wr.alloc (.cells #[.slice Ap path.length cp, .int .i64 kind] 81)).alloc (.cells #[.int .i64 kind] 3)).heap[wr.heap.size + 1]? = some (.cells #[.int .i64 kind] 3 (0, 0)) := by have h_ := heap_alloc_new (wr.alloc (.cells #[.slice Ap path.length cp, .int .i64 kind] 81)) (.cells #[.int .i64 kind] 3); rwa [World.size_alloc] at h_
        have hownk : ((wr.alloc (.cells #[.slice Ap path.length cp, .int .i64 kind] 81)).alloc (.cells #[.int .i64 kind] 3)).ownsRow w.heap.size 3 1 (.slice (some ⟨wr.heap.size + 1, 0, none⟩) 1 1) 1 [.int .i64 kind] := ⟨rfl, .inr ⟨wr.heap.size + 1, 1, _, rfl, by omega, h2n, Nat.le_refl _, by simp [maxLen], rfl, rfl⟩⟩
        have hw2 : Below w.heap.size w ((wr.alloc (.cells #[.slice Ap path.length cp, .int .i64 kind] 81)).alloc (.cells #[.int .i64 kind] 3)) := (hwj.alloc hsz _).alloc (by rw [World.size_alloc]; omega) _
        have hkp : ∀ (k : Nat) (o : Obj), wr.heap[k]? = some o → ((wr.alloc (.cells #[.slice Ap path.length cp, .int .i64 kind] 81)).alloc (.cells #[.int .i64 kind] 3)).heap[k]? = some o := fun k o ho => blk_a (blk_a ho _) _
        have hbb := BuilderAt.kept hbj hkp
        have hnx : w.heap.size ≤ ((wr.alloc (.cells #[.slice Ap path.length cp, .int .i64 kind] 81)).alloc (.cells #[.int .i64 kind] 3)).heap.size := hw2.size
        clear hI hq63 hL
        cases Ap with
        | none =>
          obtain ⟨rfl, rfl⟩ := hnil rfl
          clear hnil hpc
          simp only [List.length_nil] at hbb hw2 hownk h2n hnx hkp y0
          go_wp2_with (at_builtin; refine wpList_append_own_none rfl _ _ 73 rfl w.heap.size 3 i0 1 Tryd.underlying73 hi0 _ _ _ rfl hownk rfl ?_)
          have hA := line_own (b := w.heap.size) (l := [kind]) hownk (by omega)
          have k2 := line_calls w w.heap.size w.heap.size _ lossW [kind] _ 1 _ hl2 (.inr hbb) hA hnx (Nat.le_refl _) hw2 htab (by rw [lineB_eq, Lib.byteCells_length, Lib.byteCells_length]; exact hlen2) (by simp)
          rw [lineB_eq, ← byteCells_append] at k2
          simp only [List.length_cons, List.length_nil, Nat.zero_add] at k2
          go_wp2_with (go_at_call 25; (with_reducible refine k2.mono ?_); clear k2; rintro e1 w3 ⟨rfl, hb3, hB3, hk3⟩)
          go_roundg d
          case rel => exact ⟨j + 1, by go_num, by omega, by rw [lossU_take hq, ← List.append_assoc]; exact hb3, hw2.trans hB3⟩
          case measure => omega
        | some ap =>
          have hpc2 : ∀ (i : Nat) (u : Value), (path.map (Value.int .i64))[i]? = some u → ((wr.alloc (.cells #[.slice (some ap) path.length cp, .int .i64 kind] 81)).alloc (.cells #[.int .i64 kind] 3)).cell? (ap.add i) = some u := fun i u hu => (hw2.cell (World.block_lt_of_cell? _ _ (hpc ap rfl i u hu))).trans (hpc ap rfl i u hu)
          clear hnil hpc
          go_wp2_with (at_builtin; refine wpList_append_own _ rfl _ _ 73 rfl w.heap.size 3 i0 (.int .i64 0) 1 8 Tryd.underlying73 hi0 hz0 hz1 hz2 rfl (by decide) _ _ _ rfl hownk ap path.length cp (path.map (Value.int .i64)) rfl (by simp) hpc2 (by simp [Value.oneCell']) hb1 hb2 hnx ?_)
          intro v' w2 hown2 hg2 _
          rw [Nat.add_comm] at hown2
          obtain ⟨g2, cp2, rfl, cur2, hcur2⟩ := own_pos hown2
          have hk2 : ∀ (k : Nat) (o : Obj), wr.heap[k]? = some o → w2.heap[k]? = some o := fun k o ho => (hg2.block k (by rw [World.size_alloc, World.size_alloc]; have := (Array.getElem?_eq_some_iff.1 ho).1; omega) (fun h => by have h1 := (Array.getElem?_eq_some_iff.1 ho).1; simp [Value.ownBlock] at h; omega)).trans (hkp k o ho)
          have hbb2 := BuilderAt.kept hbj hk2
          have hgb : g2 ≠ w.heap.size := by
            rintro rfl
            obtain ⟨_, vb, hvb, _⟩ := hbb2
            rw [hcur2] at hvb; cases hvb
          have hA := line_own (b := w.heap.size) (l := kind :: path) hown2 hgb
          have hw3 : Below w.heap.size w w2 := hw2.grown hg2 hnx (fun k h => by simp [Value.ownBlock] at h; omega)
          have k2 := line_calls w w.heap.size w.heap.size _ lossW (kind :: path) _ cp2 w2 hl2 (.inr hbb2) hA hw3.size (Nat.le_refl _) hw3 htab (by rw [lineB_eq, Lib.byteCells_length, Lib.byteCells_length]; exact hlen2) (by simp only [List.length_cons]; omega)
          rw [lineB_eq, ← byteCells_append] at k2
          simp only [List.length_cons] at k2
          go_wp2_with (go_at_call 25; (with_reducible refine k2.mono ?_); clear k2; rintro e1 w3 ⟨rfl, hb3, hB3, hk3⟩)
          go_roundg d
          case rel => exact ⟨j + 1, by go_num, by omega, by rw [lossU_take hq, ← List.append_assoc]; exact hb3, hw3.trans hB3⟩
          case measure => omega
end Go.Proofs.YtmejpcfbefjjaaaDoor.Rep
