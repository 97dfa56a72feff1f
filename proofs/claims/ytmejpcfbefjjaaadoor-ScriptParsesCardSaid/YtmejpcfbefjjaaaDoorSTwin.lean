/- glossatorlaw22.twin: of twins it says yes; awake. -/
import Derived.Test.YtmejpcfbefjjaaaDoorSRParse
import Derived.Test.YtmejpcfbefjjaaaDoorSReport
import Derived.Laws.BytesArg
namespace Go.Proofs.YtmejpcfbefjjaaaDoor.Scr
open Go.RowKit Go.Shelf
set_option linter.unusedVariables false
set_option linter.unusedSimpArgs false
theorem chunk_conv {W : World} {base : Nat} {v : Value} {bs : List Nat} (h : W.ownsRow base 5 1 v bs.length (bv bs)) : ∃ A c, v = .slice A bs.length c ∧ (convert 51 9 (.slice A bs.length c)).run Tryd.prog W = .ok (.string (strOfNums (bs.map (fun n : Nat => (n : Int))))) W := by
  obtain ⟨A, c, rfl, _⟩ := own_form h
  refine ⟨A, c, rfl, ?_⟩
  rcases A with _ | ⟨g, o, p⟩
  · have hn := run_convert_bytes_nil (P := Tryd.prog) W 51 5 Tryd.underlying51 Tryd.underlying5 bs.length c 9 Tryd.underlying9
    rw [hn]
    have hb : bs = [] := by
      rcases h.2 with ⟨_, h0⟩ | ⟨g, cap, cur, e, _⟩
      · exact List.length_eq_zero_iff.1 h0
      · cases e
    rw [hb]
    rfl
  · have hg : o = 0 ∧ p = none := by
      rcases h.2 with ⟨e, _⟩ | ⟨g', cap, cur, e, _⟩
      · cases e
      · cases e; exact ⟨rfl, rfl⟩
    obtain ⟨rfl, rfl⟩ := hg
    refine run_convert_bytes_arg W 51 5 Tryd.underlying51 Tryd.underlying5 g 0 bs.length c (bs.map (fun n : Nat => (n : Int))) (by simp) (fun i hi => ?_) 9 Tryd.underlying9
    rw [Nat.zero_add, h.cellAt i (by omega)]
    simp [bv, List.getElem?_eq_getElem hi, List.getD]
theorem own_max {w : World} {B e n : Nat} {v : Value} {xs : List Value} (h : w.ownsRow B e 1 v n xs) : n ≤ 9223372036854775807 := by
  rcases h.2 with ⟨_, h0⟩ | ⟨g, cap, cur, _, _, _, hle, hm, _⟩
  · omega
  · unfold maxLen at hm
    omega
theorem JB.drew {w : World} {T : TypeId} {J : Nat} {j : Job} {ch : Value} (h : JB w T J j ch) : JB w.drew T J j ch := h
set_option maxRecDepth 100000 in
set_option maxHeartbeats 16000000 in
theorem twin_calls (j : Job) (chA chB : Value) (va vb : List Value) (ba bb : Nat) (w : World) (hA : Chunks w ba j.chunks chA va) (hB : Chunks w bb j.chunks chB vb) :
    Calls Tryd.prog 6 #[.agg (jobCells j chA), .agg (jobCells j chB)] w fun e w' => e = .returned (.bool true) ∧ Below w.heap.size w w' := by
  obtain ⟨Aa, ca, rfl, _⟩ := own_form hA.own
  obtain ⟨Ab, cb, rfl, _⟩ := own_form hB.own
  obtain ⟨w2, hw2⟩ : ∃ w2, w2 = (w.alloc (.cells (jobCells j (.slice Aa j.chunks.length ca)) 28)).alloc (.cells (jobCells j (.slice Ab j.chunks.length cb)) 32) := ⟨_, rfl⟩
  have hb2 : Below w.heap.size w w2 := by rw [hw2]; exact ((Below.refl _ _).alloc (Nat.le_refl _) _).alloc (by simp) _
  have hja : JB w2 28 w.heap.size j (.slice Aa j.chunks.length ca) := by rw [hw2]; exact a_past (a_at _ _ _ rfl)
  have hjb : JB w2 32 (w.heap.size + 1) j (.slice Ab j.chunks.length cb) := by rw [hw2]; exact a_at _ _ _ (by simp)
  have hA2 := hA.below hb2
  have hB2 := hB.below hb2
  have HW := Lib.hid hw2
  clear hw2 hA hB
  go_enter Tryd.func6, Tryd.ntmps6
  unfold jobCells
  go_wp2
  have e1 := HW.out
  unfold jobCells at e1
  rw [← e1]
  clear e1 HW
  go_loopg [5] j.chunks.length (fun kq v5 wr => ∃ i : Nat, v5 = .int .i64 i ∧ i + kq = j.chunks.length ∧ JB wr 28 w.heap.size j (.slice Aa j.chunks.length ca) ∧ JB wr 32 (w.heap.size + 1) j (.slice Ab j.chunks.length cb) ∧ Chunks wr ba j.chunks (.slice Aa j.chunks.length ca) va ∧ Chunks wr bb j.chunks (.slice Ab j.chunks.length cb) vb ∧ Below w.heap.size w wr)
  case atStart => exact ⟨0, rfl, by omega, hja, hjb, hA2, hB2, hb2⟩
  case round =>
    clear hja hjb hA2 hB2 hb2
    obtain ⟨i, rfl, hi, hja, hjb, hA, hB, hbw⟩ := hrel
    cases gk with
    | zero =>
      obtain rfl : i = j.chunks.length := by omega
      have c1 : wr.cell? ⟨w.heap.size, 5 + 4, none⟩ = some (.slice Aa j.chunks.length ca) := hja.cell 9
      simp only [Nat.reduceAdd] at c1
      clear hja hjb hA hB
      go_wp2
      go_ret
      exact ⟨rfl, hbw⟩
    | succ d =>
      have hlt : i < j.chunks.length := by omega
      have hmx := own_max hA.own
      have hlti : (i : Int) < (j.chunks.length : Int) := by omega
      obtain ⟨bs, hbs⟩ : ∃ bs, j.chunks[i]? = some bs := ⟨_, List.getElem?_eq_getElem hlt⟩
      have hla : i < va.length := by have := hA.own.1; omega
      have hlb : i < vb.length := by have := hB.own.1; omega
      have hva := List.getElem?_eq_getElem hla
      have hvb := List.getElem?_eq_getElem hlb
      obtain ⟨Av, cv, e1, k1⟩ := chunk_conv (hA.all i _ bs hva hbs)
      obtain ⟨Bv, dv, e2, k2⟩ := chunk_conv (hB.all i _ bs hvb hbs)
      obtain ⟨S, hS⟩ : ∃ S, strOfNums (bs.map (fun n : Nat => (n : Int))) = S := ⟨_, rfl⟩
      rw [hS] at k1 k2
      have k1' : (convert 51 9 (.slice Av bs.length cv)).run Tryd.prog wr.drew = .ok (.string S) wr.drew := by
        have := chunk_conv (W := wr.drew) ((hA.all i _ bs hva hbs).drew)
        obtain ⟨A2, c2, e3, k3⟩ := this
        rw [e1] at e3
        cases e3
        rw [hS] at k3
        exact k3
      have k2' : (convert 51 9 (.slice Bv bs.length dv)).run Tryd.prog wr.drew = .ok (.string S) wr.drew := by
        have := chunk_conv (W := wr.drew) ((hB.all i _ bs hvb hbs).drew)
        obtain ⟨A2, c2, e3, k3⟩ := this
        rw [e2] at e3
        cases e3
        rw [hS] at k3
        exact k3
      obtain ⟨n, hn⟩ : ∃ n, j.chunks.length = n + 1 := ⟨j.chunks.length - 1, by omega⟩
      have hoa := hA.own
      have hob := hB.own
      rw [hn] at hoa hob
      obtain ⟨ga, cpa, ea⟩ := own_succ hoa
      obtain ⟨gb, cpb, eb⟩ := own_succ hob
      cases ea
      cases eb
      rw [← hn] at hoa hob
      have d1 : wr.cell? ⟨ga, i, none⟩ = some (.slice Av bs.length cv) := by rw [hoa.cellAt i (by omega), hva, e1]
      have d2 : wr.cell? ⟨gb, i, none⟩ = some (.slice Bv bs.length dv) := by rw [hob.cellAt i (by omega), hvb, e2]
      have c1 : wr.cell? ⟨w.heap.size, 9, none⟩ = some (.slice (some ⟨ga, 0, none⟩) j.chunks.length ca) := hja.cell 9
      have c2 : wr.cell? ⟨w.heap.size + 1, 9, none⟩ = some (.slice (some ⟨gb, 0, none⟩) j.chunks.length cb) := hjb.cell 9
      have Hja : Hid (JB wr.drew 28 w.heap.size j _) := Lib.hid hja
      have Hjb : Hid (JB wr.drew 32 (w.heap.size + 1) j _) := Lib.hid hjb
      have HA := Lib.hid (hA.keep (w' := wr.drew) (fun _ _ _ _ _ => rfl))
      have HB := Lib.hid (hB.keep (w' := wr.drew) (fun _ _ _ _ _ => rfl))
      have Hb := Lib.hid hbw.drew
      clear hja hjb hA hB hoa hob hn hva hvb hla hlb e1 e2 k1 k2 hS hbs hbw
      go_wp2_with fail
      go_region
      all_goals
        go_wp2
        go_roundg d
        case measure => omega
        case rel => exact ⟨i + 1, by go_num, by omega, Hja.out, Hjb.out, HA.out, HB.out, Hb.out⟩
open Go.Proofs.YtmejpcfbefjjaaaDoor.Rep in
theorem rep0 : (⟨(repU outW [] 0 0).toArray⟩ : ByteArray) = ⟨#[111, 117, 116, 10, 101, 110, 100, 32, 48, 32, 48, 10]⟩ := by decide +kernel
open Go.Proofs.YtmejpcfbefjjaaaDoor.Rep in
set_option maxHeartbeats 4000000 in
set_option maxRecDepth 100000 in
theorem awake_calls (w : World) (htab : Lib.TabIs Tryd.prog w "internal/strconv.uint64pow10" .u64 Lib.pow10Tab) :
    Calls Tryd.prog 7 #[] w fun e' w' => e' = .returned (.bool true) ∧ Below w.heap.size w w' := by
  have k1 := report_calls none 0 0 outW [] none 0 0 0 w (fun j hj => by simp at hj) (fun q hq => by simp at hq) ⟨by decide, by decide⟩ ⟨by decide, by decide⟩ (.inl ⟨rfl, rfl⟩) htab (by decide +kernel) (by decide) (fun q hq => by simp at hq)
  rw [rep0] at k1
  simp only [List.length_nil] at k1
  go_enter Tryd.func7, Tryd.ntmps7
  go_wp2_with (go_at_call 13; (with_reducible refine k1.mono ?_); clear k1; rintro e1 w1 ⟨rfl, hb1⟩)
  go_ret
  exact ⟨rfl, hb1⟩
end Go.Proofs.YtmejpcfbefjjaaaDoor.Scr
