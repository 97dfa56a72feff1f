/- script.Report's inner function: one line of the report. -/
import Derived.Test.YtmejpcfbefjjaaaDoorSBuilder
import Derived.Test.YtmejpcfbefjjaaaDoorShelf
import Derived.Lib.AppendIntMem
import Derived.LoopN
import Derived.Deep.LoopGhost
namespace Go.Proofs.YtmejpcfbefjjaaaDoor.Rep
open Go.RowKit Go.Shelf
set_option linter.unusedVariables false
set_option linter.unusedSimpArgs false
theorem BuilderAt.kept {T e : TypeId} {B b : Nat} {p : Value} {bs : List Value} {w w' : World} (h : Lib.BuilderAt T e B b p bs w) (hk : ∀ (k : Nat) (o : Obj), w.heap[k]? = some o → w'.heap[k]? = some o) : Lib.BuilderAt T e B b p bs w' := by
  obtain ⟨hB, v, hb, ⟨h1, h2⟩, hne⟩ := h
  refine ⟨hB, v, hk _ _ hb, ⟨h1, ?_⟩, hne⟩
  rcases h2 with h2 | ⟨g, cap, cur, hv, hg, hh, r⟩
  · exact .inl h2
  · exact .inr ⟨g, cap, cur, hv, hg, hk _ _ hh, r⟩
/-- a number's piece of a line -/
def numS (n : Int) : ByteArray := (⟨#[32]⟩ : ByteArray) ++ ⟨(Lib.itoa n).toArray⟩
def numsB (l : List Int) : List Value := l.flatMap (fun n => Lib.strCells (numS n))
def lineB (word : ByteArray) (l : List Int) : List Value := Lib.strCells word ++ numsB l ++ Lib.strCells ⟨#[10]⟩
def LineAt (b : Nat) (w : World) (A : Option Addr) (l : List Int) : Prop := ∀ j : Nat, j < l.length → ∃ ad q, A = some ad ∧ l[j]? = some q ∧ ∀ w', KB b w w' → w'.cell? (ad.add j) = some (.int .i64 q)
theorem numsB_take {l : List Int} {j : Nat} {q : Int} (h : l[j]? = some q) : numsB (l.take (j + 1)) = numsB (l.take j) ++ Lib.strCells (numS q) := by
  unfold numsB
  rw [List.take_add_one, h, List.flatMap_append]; simp
theorem numsB_le (l : List Int) (j : Nat) : (numsB (l.take j)).length ≤ (numsB l).length := by
  have h : numsB l = numsB (l.take j) ++ numsB (l.drop j) := by unfold numsB; rw [← List.flatMap_append, List.take_append_drop]
  rw [h, List.length_append]; omega
theorem kept_grow (w : World) (k : Nat) (os : Array Obj) : ∀ (i : Nat) (o : Obj), w.heap[i]? = some o → («Sort».grow (w.drewN k) os).heap[i]? = some o := fun i o h => by
  have hb := Lib.below_grow w.heap.size w (Nat.le_refl _) k os
  exact (hb.block i (Array.getElem?_eq_some_iff.1 h).1).trans h
theorem tab_below {n : String} {g : Nat} {k : IntKind} {zs : List Int} {w w' : World} (hg : Tryd.prog.globalNamed n = some g) (h : Lib.TabIs Tryd.prog w n k zs) (hb : Below w.heap.size w w') : Lib.TabIs Tryd.prog w' n k zs := by
  unfold Lib.TabIs World.var? at h ⊢
  rw [hg] at h ⊢
  simp only [Option.bind_some] at h ⊢
  have hlt : g < w.heap.size := by
    rcases Nat.lt_or_ge g w.heap.size with h' | h'
    · exact h'
    · rw [Array.getElem?_eq_none h'] at h; cases h
  rw [hb.block g hlt]
  exact h
set_option maxHeartbeats 4000000 in
set_option maxRecDepth 100000 in
theorem line_calls (W0 : World) (B b : Nat) (bs : List Value) (word : ByteArray) (l : List Int) (A : Option Addr) (c : Nat) (w : World) (hl : ∀ n ∈ l, -9223372036854775808 ≤ n ∧ n ≤ 9223372036854775807) (h : Lib.IsBuilder 72 5 B b bs w) (hA : LineAt b w A l) (hBw : B ≤ w.heap.size)
    (hW0 : W0.heap.size ≤ B) (hB0 : Below W0.heap.size W0 w) (htab : Lib.TabIs Tryd.prog W0 "internal/strconv.uint64pow10" .u64 Lib.pow10Tab) (hlen : bs.length + (lineB word l).length ≤ 140737488355328) (hl63 : l.length < 9223372036854775807) :
    Calls Tryd.prog 25 #[.string word, .slice A l.length c, .pointer (some ⟨b, 0, none⟩)] w fun e w' => e = .returned (.tuple #[]) ∧ Lib.BuilderAt 72 5 B b (.pointer (some ⟨b, 0, none⟩)) (bs ++ lineB word l) w' ∧ Below B w w' ∧ KB b w w' := by
  have hlw : (lineB word l).length = word.size + (numsB l).length + 1 := by unfold lineB; simp only [List.length_append, Lib.strCells_length]; rfl
  go_enter Tryd.func25, Tryd.ntmps25
  go_wp2_with (go_at_call 26; refine (writeString B b bs word w h (by omega) hBw).mono ?_; rintro e w1 ⟨rfl, hb1, hB1, hk1⟩)
  go_loopg [6, 11] l.length (fun kq v6 v11 wr => ∃ j : Nat, v11 = .int .i64 j ∧ j + kq = l.length ∧ Lib.BuilderAt 72 5 B b (.pointer (some ⟨b, 0, none⟩)) (bs ++ Lib.strCells word ++ numsB (l.take j)) wr ∧ Below B w wr ∧ KB b w wr)
  case atStart => exact ⟨0, rfl, by omega, by simpa [numsB] using hb1, hB1, hk1⟩
  case round =>
    clear hb1 hB1 hk1
    obtain ⟨j, rfl, hj, hbj, hBj, hkj⟩ := hrel
    have hpre := numsB_le l j
    have hsz := hBj.size
    cases gk with
    | zero =>
      obtain rfl : j = l.length := by omega
      rw [List.take_length] at hbj
      have hw := writeString B b _ ⟨#[10]⟩ wr (.inr hbj) (by simp only [List.length_append, Lib.strCells_length]; show _ + 1 ≤ _; omega) (by omega)
      go_wp2_with (go_at_call 26; (with_reducible refine hw.mono ?_); clear hw; rintro e w2 ⟨rfl, hb2, hB2, hk2⟩)
      go_end0
      exact ⟨rfl, by simpa [lineB, List.append_assoc] using hb2, hBj.trans hB2, hkj.trans hk2⟩
    | succ d =>
      have hlt : (j : Int) < (l.length : Int) := by omega
      obtain ⟨ad, q, rfl, hq, hcell⟩ := hA j (by omega)
      have hc := hcell wr hkj
      have hqr := hl q (List.mem_of_getElem? hq)
      have ht := tab_below (g := 2) (by kernel_rfl) htab (hB0.trans (hBj.mono hW0))
      have hi := Tryd.strconv_Itoa q hqr.1 hqr.2 wr ht
      have hq2 : (numsB (l.take j)).length + (numS q).size ≤ (numsB l).length := by
        have h1 := numsB_le l (j + 1)
        rw [numsB_take hq, List.length_append, Lib.strCells_length] at h1
        exact h1
      have hl1 : (bs ++ Lib.strCells word ++ numsB (l.take j)).length + (numS q).size ≤ 140737488355328 := by simp only [List.length_append, Lib.strCells_length]; omega
      have hsm : ∀ x : Bool, True := fun _ => trivial
      go_wp2_with (first | (go_at_call 27; (with_reducible refine hi.mono ?_); clear hi; rintro e w2 ⟨rfl, k2, os2, rfl⟩) | (go_at_call 26; refine (writeString B b (bs ++ Lib.strCells word ++ numsB (l.take j)) (numS q) _ (.inr (BuilderAt.kept hbj (kept_grow wr k2 os2))) hl1 (Nat.le_trans (by omega) (Lib.below_grow B wr (by omega) k2 os2).size)).mono ?_; rintro e w3 ⟨rfl, hb3, hB3, hk3⟩))
      · exfalso
        have h1 : (numS q).size = 1 + (Lib.itoa q).length := by unfold numS; rw [ByteArray.size_append]; rfl
        omega
      · go_roundg d
        case rel => exact ⟨j + 1, by go_num, by omega, by rw [numsB_take hq, ← List.append_assoc]; exact hb3, hBj.trans ((Lib.below_grow B wr (by omega) k2 os2).trans hB3), hkj.trans ((KB.of_below (Lib.below_grow wr.heap.size wr (Nat.le_refl _) k2 os2)).trans hk3)⟩
        case measure => omega
end Go.Proofs.YtmejpcfbefjjaaaDoor.Rep
