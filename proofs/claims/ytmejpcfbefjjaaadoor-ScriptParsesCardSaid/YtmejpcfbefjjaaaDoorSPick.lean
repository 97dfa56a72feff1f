/- script.pick, script.number. -/
import Derived.Test.YtmejpcfbefjjaaaDoorSWords
import Derived.Laws.RangeAny
namespace Go.Proofs.YtmejpcfbefjjaaaDoor.Scr
open Go.RowKit
set_option linter.unusedVariables false
set_option linter.unusedSimpArgs false
def pickR (x : ByteArray) (L : List ByteArray) : Value := match pickF x L 0 with | some i => .tuple #[.int .i64 (i : Int), .bool true] | none => .tuple #[.int .i64 0, .bool false]
theorem tl_ne {a b : ByteArray} (h : a ≠ b) : (a.toList == b.toList) = false := by
  rw [tl_f]
  intro q
  refine h (q.trans ?_)
  rw [ByteArray.toList_eq]
theorem ret_v {a b : Value} (h : a = b) : Ending.returned a = .returned b := by rw [h]
theorem pick_hit {x n : ByteArray} {L : List ByteArray} {j : Nat} (h : L[j]? = some n) (e : n = x) : pickF x (L.drop j) j = some j := by
  obtain ⟨h1, h2⟩ := List.getElem?_eq_some_iff.1 h
  rw [List.drop_eq_getElem_cons h1, pickF, if_pos (h2.trans e)]
theorem pick_miss {x n : ByteArray} {L : List ByteArray} {j : Nat} (h : L[j]? = some n) (e : n ≠ x) : pickF x (L.drop j) j = pickF x (L.drop (j + 1)) (j + 1) := by
  obtain ⟨h1, h2⟩ := List.getElem?_eq_some_iff.1 h
  rw [List.drop_eq_getElem_cons h1, pickF, if_neg (fun q => e (h2.symm.trans q))]
set_option maxRecDepth 100000 in
set_option maxHeartbeats 8000000 in
theorem pick_calls (x : ByteArray) (L : List ByteArray) (ad : Addr) (c : Nat) (w : World) (hR : ∀ (j : Nat) (n : ByteArray), L[j]? = some n → w.cell? (ad.add j) = some (.string n)) (hl : L.length ≤ 100) :
    Calls Tryd.prog 31 #[.string x, .slice (some ad) L.length c] w fun e w' => e = .returned (pickR x L) ∧ w' = w := by
  go_enter Tryd.func31, Tryd.ntmps31
  go_wp2
  go_loopg [6, 7, 10] L.length (fun kq v6 v7 v10 wr => ∃ j : Nat, v10 = .int .i64 j ∧ j + kq = L.length ∧ Hid (pickF x (L.drop j) j = pickF x L 0) ∧ wr = w)
  case atStart => exact ⟨0, rfl, by omega, Lib.hid (by simp), rfl⟩
  case round =>
    obtain ⟨j, rfl, hj, HR, rfl⟩ := hrel
    cases gk with
    | zero =>
      obtain rfl : j = L.length := by omega
      have hr := HR.out
      rw [List.drop_length] at hr
      have hv : pickR x L = .tuple #[.int .i64 0, .bool false] := by unfold pickR; rw [← hr]; rfl
      have HV := Lib.hid hv
      clear hv hr
      go_wp2
      go_ret2
      exact ⟨ret_v HV.out.symm, rfl⟩
    | succ d =>
      have hlt : (j : Int) < (L.length : Int) := by omega
      have hn := List.getElem?_eq_getElem (l := L) (i := j) (by omega)
      obtain ⟨n, hn'⟩ : ∃ n, L[j]'(by omega) = n := ⟨_, rfl⟩
      rw [hn'] at hn
      have hcell := hR j n hn
      have hr := HR.out
      by_cases hc : n = x
      · subst hc
        rw [pick_hit hn rfl] at hr
        have hv : pickR n L = .tuple #[.int .i64 j, .bool true] := by unfold pickR; rw [← hr]
        have HV := Lib.hid hv
        clear hv hr
        go_wp2
        go_ret2
        exact ⟨ret_v HV.out.symm, rfl⟩
      · rw [pick_miss hn hc] at hr
        have HR2 := Lib.hid hr
        have hb := tl_ne hc
        clear hr
        go_wp2
        go_roundg d
        case rel => exact ⟨j + 1, by go_num, by omega, HR2, rfl⟩
        case measure => omega
def numR (L : List Nat) : Value := match numV L with | some n => .tuple #[.int .i64 (n : Int), .bool true] | none => .tuple #[.int .i64 0, .bool false]
theorem numR_none {L : List Nat} (h : numV L = none) : numR L = .tuple #[.int .i64 0, .bool false] := by unfold numR; rw [h]
theorem numR_some {L : List Nat} {n : Nat} (h : numV L = some n) : numR L = .tuple #[.int .i64 n, .bool true] := by unfold numR; rw [h]
theorem iter_below (w : World) (s : ByteArray) (p : Nat) : Below w.heap.size w (w.iter s p) := (Below.refl _ w).alloc (Nat.le_refl _) _
set_option maxRecDepth 100000 in
set_option maxHeartbeats 8000000 in
theorem number_calls (x : ByteArray) (w : World) (hx : x.size ≤ 1000000) : Calls Tryd.prog 32 #[.string x] w fun e w' => e = .returned (numR (bts x)) ∧ Below w.heap.size w w' := by
  have hbl := bts_length x
  have hat := bts_at x
  have hib := iter_below w x
  by_cases h0 : x.size = 0
  · have he := empty_of h0
    subst he
    have hend := fun ty => run_next_end (P := Tryd.prog) w ⟨#[]⟩ 0 ty (by decide)
    go_enter Tryd.func32, Tryd.ntmps32
    go_wp2
    go_loopg [4, 5, 6] 0 (fun kq v4 v5 v6 wr => kq = 0 ∧ v4 = .int .i64 0 ∧ wr = w.iter ⟨#[]⟩ 0)
    case atStart => exact ⟨rfl, rfl, rfl⟩
    case round =>
      obtain ⟨rfl, rfl, rfl⟩ := hrel
      go_wp2
      go_ret2
      exact ⟨rfl, hib 0⟩
  have hne := full_of h0
  have hx0 : 0 < x.size := by omega
  have hz0 := hat 0 hx0
  go_enter Tryd.func32, Tryd.ntmps32
  go_wp2
  go_loopg [4, 5, 6] x.size (fun kq v4 v5 v6 wr => ∃ j : Nat, v4 = .int .i64 (dval ((bts x).take j) : Nat) ∧ j + kq = x.size ∧ j ≤ 7 ∧ Hid ((∀ c ∈ (bts x).take j, 48 ≤ c ∧ c ≤ 57) ∧ (2 ≤ j → (x[0]'hx0).toNat ≠ 48)) ∧ wr = w.iter x j)
  case atStart => exact ⟨0, rfl, by omega, by omega, Lib.hid ⟨by simp, fun h => by omega⟩, rfl⟩
  case round =>
    obtain ⟨j, rfl, hj, hj7, HD, rfl⟩ := hrel
    cases gk with
    | zero =>
      obtain rfl : j = x.size := by omega
      have hend := fun ty => run_next_end (P := Tryd.prog) w x x.size ty (by omega)
      have hr : numR (bts x) = .tuple #[.int .i64 (dval ((bts x).take x.size) : Nat), .bool true] := by
        rw [← hbl, List.take_length]
        refine numR_some ?_
        obtain ⟨hd1, hd2⟩ := HD.out
        rw [← hbl, List.take_length] at hd1
        unfold numV
        rw [if_neg, if_pos hd1]
        rintro (h | h | ⟨h, h'⟩)
        · rw [h] at hbl; simp at hbl; omega
        · omega
        · rw [hz0] at h; exact hd2 (by omega) (Option.some.inj h)
      have HR := Lib.hid hr
      clear hr hat hz0
      go_wp2
      go_ret2
      exact ⟨ret_v HR.out.symm, hib _⟩
    | succ d =>
      have hj2 : j < x.size := by omega
      have hcj := hat j hj2
      have hji : (0 : Int) ≤ (j : Int) := by omega
      by_cases hc : 48 ≤ (x[j]'hj2).toNat ∧ (x[j]'hj2).toNat ≤ 57
      · have hn := fun ty => run_next_ascii (P := Tryd.prog) w x j ty hj2 (by omega)
        have hc1 : ¬ ((x[j]'hj2).toNat : Int) < 48 := by omega
        have hc2 : ¬ (57 : Int) < ((x[j]'hj2).toNat : Int) := by omega
        by_cases h7 : 6 < j
        · have h7i : (6 : Int) < (j : Int) := by omega
          have hr := Lib.hid (numR_none (show numV (bts x) = none by unfold numV; rw [if_pos (.inr (.inl (by omega)))]))
          clear hat hz0 hcj
          go_wp2
          go_ret2
          exact ⟨ret_v hr.out.symm, hib _⟩
        have h7i : ¬ (6 : Int) < (j : Int) := by omega
        by_cases hz : 0 < j ∧ (x[0]'hx0).toNat = 48
        · have hz1 : (0 : Int) < (j : Int) := by omega
          have hz2 : ((x[0]'hx0).toNat : Int) = 48 := by omega
          have hr := Lib.hid (numR_none (show numV (bts x) = none by unfold numV; rw [if_pos (.inr (.inr ⟨by rw [hz0, hz.2], by omega⟩))]))
          clear hat hz0 hcj hz
          go_wp2
          go_ret2
          exact ⟨ret_v hr.out.symm, hib _⟩
        have hs := Lib.hid (dval_succ hcj)
        have hd7 := dval_lt7 (L := (bts x).take 7) (j := j) (by omega) (by rw [List.length_take]; omega) (fun c hc => (HD.out.1 c (by rwa [List.take_take, Nat.min_eq_left (by omega)] at hc)).2)
        rw [List.take_take, Nat.min_eq_left (by omega)] at hd7
        have HD2 : Hid ((∀ c ∈ (bts x).take (j + 1), 48 ≤ c ∧ c ≤ 57) ∧ (2 ≤ j + 1 → (x[0]'hx0).toNat ≠ 48)) := Lib.hid ⟨dig_succ hcj HD.out.1 hc, fun h q => hz ⟨by omega, q⟩⟩
        have hz' : ¬ (0 : Int) < (j : Int) ∨ (0 : Int) < (j : Int) ∧ (((x[0]'hx0).toNat : Int) == 48) = false := by
          rcases Nat.eq_zero_or_pos j with q | q
          · left; omega
          · right; refine ⟨by omega, ?_⟩
            rw [beq_eq_false_iff_ne]
            intro e
            exact hz ⟨q, by omega⟩
        clear hat hz0 hcj hz
        rcases hz' with hz1 | ⟨hz1, hz2⟩
        all_goals
          go_wp2
          go_roundg d
          case rel => exact ⟨j + 1, by rw [hs.out]; go_num, by omega, by omega, HD2, rfl⟩
          case measure => omega
      · have hr := Lib.hid (numR_none (numV_bad hcj hc))
        clear hat hz0 hcj
        by_cases ha : (x[j]'hj2).toNat < 128
        · have hn := fun ty => run_next_ascii (P := Tryd.prog) w x j ty hj2 ha
          have hc' : ((x[j]'hj2).toNat : Int) < 48 ∨ ¬ ((x[j]'hj2).toNat : Int) < 48 ∧ (57 : Int) < ((x[j]'hj2).toNat : Int) := by omega
          rcases hc' with hc1 | ⟨hc1, hc2⟩
          all_goals
            go_wp2
            go_ret2
            exact ⟨ret_v hr.out.symm, hib _⟩
        · have hn := fun ty => run_next_any (P := Tryd.prog) w x j ty hj2
          obtain ⟨hh, _⟩ := decode_high x j hj2 (by omega)
          obtain ⟨D, hD⟩ : ∃ D, Utf8.decode x j = D := ⟨_, rfl⟩
          rw [hD] at hh
          have hc1 : ¬ (D.1 : Int) < 48 := by omega
          have hc2 : (57 : Int) < (D.1 : Int) := by omega
          simp only [hD] at hn
          go_wp2
          go_ret2
          exact ⟨ret_v hr.out.symm, hib _⟩
end Go.Proofs.YtmejpcfbefjjaaaDoor.Scr
