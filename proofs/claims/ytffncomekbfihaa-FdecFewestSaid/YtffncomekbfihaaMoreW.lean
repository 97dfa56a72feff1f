/- glossatorlaw06.more: the walk. -/
import Derived.Test.YtffncomekbfihaaMore
namespace Go.Proofs.Ytffncomekbfihaa.Nat
open Go.RowKit Go.Shelf
set_option linter.unusedVariables false
set_option maxHeartbeats 8000000 in
set_option maxRecDepth 100000 in
theorem more_calls (s : ByteArray) (w : World) (hs : s.size ≤ 4096) (hne : s.size ≠ 0) (hD : Dgs (bts s)) :
    Calls Try.prog 7 #[.string s] w fun e w' => ∃ t, e = .returned (.string t) ∧ Dgs (bts t) ∧ dval (bts t) = dval (bts s) + 1 ∧ t.size ≤ s.size + 1 ∧ t.size ≠ 0 ∧ Below w.heap.size w w' := by
  have kb := Lib.run_convert_string_bytes (P := Try.prog) w 9 42 5 s Try.underlying9 Try.underlying42 Try.underlying5
  have hb0 := bytes_below' (Below.refl w.heap.size w) (Nat.le_refl _) 5 s
  have hR := rb_new w 5 s
  have hlen := bts_length s
  obtain ⟨W1, hW1⟩ : ∃ W1, Lib.bytesWorld w 5 s = W1 := ⟨_, rfl⟩
  rw [hW1] at hb0 hR kb
  clear hW1
  obtain ⟨L, hL⟩ : ∃ L, bts s = L := ⟨_, rfl⟩
  rw [hL] at hR hlen hD ⊢
  clear hL
  have hst : L = L.take s.size ++ List.replicate (s.size - s.size) 57 := by rw [Nat.sub_self, List.replicate_zero, List.append_nil, List.take_of_length_le (by omega)]
  have hRs : RB W1 w.heap.size (L.take s.size ++ List.replicate (s.size - s.size) 48) := by rw [Nat.sub_self, List.replicate_zero, List.append_nil, List.take_of_length_le (by omega)]; exact hR
  go_enter Try.func7, Try.ntmps7
  go_wp2
  clear kb hR
  go_loopg [4] s.size (fun kq v4 wr => v4 = .int .i64 ((kq : Int) - 1) ∧ kq ≤ s.size ∧ Hid (L = L.take kq ++ List.replicate (s.size - kq) 57) ∧ Hid (RB wr w.heap.size (L.take kq ++ List.replicate (s.size - kq) 48)) ∧ Below w.heap.size w wr)
  case atStart => exact ⟨rfl, Nat.le_refl _, Lib.hid hst, Lib.hid hRs, hb0⟩
  case round =>
    clear hst hRs hb0
    obtain ⟨rfl, hk, HS, HR, hb⟩ := hrel
    cases gk with
    | zero =>
      have q1 : ((0 : Nat) : Int) - 1 = -1 := by decide
      rw [q1]
      have h1 := HS.out
      have h2 := HR.out
      rw [List.take_zero, List.nil_append, Nat.sub_zero, ← hlen] at h1 h2
      have kc := rb_string (P := Try.prog) (cap := grownCap w s.size 0 5) (src := 42) (dst := 9) Try.underlying42 Try.underlying5 Try.underlying9 h2 (fun c hc => by have := List.eq_of_mem_replicate hc; omega)
      rw [List.length_replicate, hlen] at kc
      rw [hlen] at h2
      have h3 := dval_more9 h1
      rw [hlen] at h3
      have hZ : bts (ofB (List.replicate s.size 48)) = List.replicate s.size 48 := bts_ofB (fun c hc => by have := List.eq_of_mem_replicate hc; omega)
      have hz : (ofB (List.replicate s.size 48)).size = s.size := by rw [size_ofB, List.length_replicate]
      generalize ofB (List.replicate s.size 48) = Z at *
      have HZ : Hid _ := Lib.hid (And.intro hZ (And.intro hz h3))
      have hZs : Z.size ≤ 4096 := by omega
      clear hZ hz h3 h1 h2
      go_wp2
      go_ret
      have hbt : bts ((⟨#[49]⟩ : ByteArray) ++ Z) = 49 :: List.replicate s.size 48 := by rw [bts_append, HZ.out.1]; rfl
      refine ⟨_, rfl, ?_, by rw [hbt]; exact HZ.out.2.2, ?_, ?_, hb⟩
      · rw [hbt]
        intro c hc
        rcases List.mem_cons.1 hc with rfl | hc
        · omega
        · have := List.eq_of_mem_replicate hc; omega
      · rw [← bts_length, hbt]; simp
      · rw [← bts_length, hbt]; simp
    | succ i =>
      have hi : i < L.length := by omega
      have q1 : ((i + 1 : Nat) : Int) - 1 = (i : Int) := by omega
      rw [q1]
      have hc : L[i]? = some L[i] := List.getElem?_eq_getElem hi
      have hcd := hD.get hc
      have hat := HR.out i _ (more_at L i (s.size - (i + 1)) hi)
      have y1 := hat.1
      have y2 := hat.2
      clear hat
      have hiI : (i : Int) < (s.size : Int) := by omega
      by_cases h9 : L[i] = 57
      · have hn : L = L.take i ++ List.replicate (s.size - i) 57 := by
          have h := HS.out
          rw [List.take_succ_eq_append_getElem hi, h9, List.append_assoc] at h
          rw [show s.size - i = (s.size - (i + 1)) + 1 by omega, List.replicate_succ]
          exact h
        have hr2 := HR.out.set (i := i) (by rw [List.length_append, List.length_take, List.length_replicate]; omega) 48
        rw [more_shift L i _ hi, show s.size - (i + 1) + 1 = s.size - i by omega] at hr2
        have HN : Hid _ := Lib.hid (And.intro hn hr2)
        rw [h9] at y1
        clear hn hr2 hc h9 HS HR q1 hcd
        go_wp2
        go_roundg i
        case rel => exact ⟨by go_num, by omega, Lib.hid HN.out.1, Lib.hid HN.out.2, hb.setCell (p := ⟨w.heap.size, i, none⟩) (Nat.le_refl _) _⟩
        case measure => omega
      · have hS2 := HS.out
        have h9' : L[i] ≤ 56 := by omega
        have h3 := dval_more hc h9' hcd.1 hS2
        have hr2 := HR.out.set (i := i) (by rw [List.length_append, List.length_take, List.length_replicate]; omega) (L[i] + 1)
        rw [more_put L i _ _ hi] at hr2
        have hNd : Dgs (L.take i ++ (L[i] + 1) :: List.replicate (s.size - (i + 1)) 48) := by
          intro c hc
          rcases List.mem_append.1 hc with hc | hc
          · exact hD.take i c hc
          · rcases List.mem_cons.1 hc with rfl | hc
            · omega
            · have := List.eq_of_mem_replicate hc; omega
        have hNl : (L.take i ++ (L[i] + 1) :: List.replicate (s.size - (i + 1)) 48).length = s.size := by
          rw [List.length_append, List.length_take, List.length_cons, List.length_replicate]; omega
        generalize L[i] = c at *
        have ew : IntKind.u8.wrap ((c : Int) + 1) = (c : Int) + 1 := by rw [IntKind.wrap_u8]; omega
        have eg : (((c + 1 : Nat) : Int)) = (c : Int) + 1 := by omega
        have h9I : ¬ (c : Int) = 57 := by omega
        generalize L.take i ++ (c + 1) :: List.replicate (s.size - (i + 1)) 48 = M at *
        have kc := rb_string (P := Try.prog) (cap := grownCap w s.size 0 5) (src := 42) (dst := 9) Try.underlying42 Try.underlying5 Try.underlying9 hr2 (fun c hc => by have := hNd c hc; omega)
        rw [hNl, eg] at kc
        have hZ : bts (ofB M) = M := bts_ofB (fun c hc => by have := hNd c hc; omega)
        have hz : (ofB M).size = s.size := by rw [size_ofB, hNl]
        generalize ofB M = Z at *
        have HZ : Hid _ := Lib.hid (And.intro hZ (And.intro hz (And.intro h3 hNd)))
        clear hZ hz h3 hNd hNl hr2 HS HR hS2 hc q1 h9 h9'
        clear eg
        go_wp2
        go_ret
        refine ⟨_, rfl, ?_, by rw [HZ.out.1]; exact HZ.out.2.2.1, ?_, ?_, hb.setCell (p := ⟨w.heap.size, i, none⟩) (Nat.le_refl _) _⟩
        · rw [HZ.out.1]; exact HZ.out.2.2.2
        · have := HZ.out.2.1; omega
        · have := HZ.out.2.1; omega
end Go.Proofs.Ytffncomekbfihaa.Nat
