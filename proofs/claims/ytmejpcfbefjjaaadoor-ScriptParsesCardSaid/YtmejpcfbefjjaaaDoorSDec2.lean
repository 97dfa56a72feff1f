/- base.Decode at Hex. -/
import Derived.Test.YtmejpcfbefjjaaaDoorSDec1
namespace Go.Proofs.YtmejpcfbefjjaaaDoor.Scr
open Go.RowKit
set_option linter.unusedVariables false
set_option linter.unusedSimpArgs false
/-- what is answered of letters -/
def DecPost (s : ByteArray) (w : World) (e : Ending) (w' : World) : Prop :=
  (hexV (bts s) = none ∧ ∃ i : Int, e = .returned (.tuple #[.slice none 0 0, .int .i64 i, .int .i64 4]) ∧ Below w.heap.size w w') ∨
  ∃ out v, hexV (bts s) = some out ∧ e = .returned (.tuple #[v, .int .i64 s.size, .int .i64 0]) ∧ w'.ownsRow w.heap.size 5 1 v out.length (bv out) ∧ Below w.heap.size w w'
def pxN : Option Nat → Nat | none => 0 | some x => x
def pnN : Option Nat → Nat | none => 0 | some _ => 4
theorem hex_bts : bts aHex = hexL := by decide
theorem idx_calls (c : Nat) (hc : c < 256) (w : World) : Calls Tryd.prog 48 #[.string ⟨#[48, 49, 50, 51, 52, 53, 54, 55, 56, 57, 97, 98, 99, 100, 101, 102]⟩, .int .u8 c] w fun e w' => e = .returned (.int .i64 (hvI c)) ∧ w' = w := by
  have h := index_calls aHex c w (by decide)
  rw [hex_bts, idx_hex c hc] at h
  exact h
theorem hexF_bad {st : Option Nat × List Nat} {L : List Nat} {j c : Nat} (h : L[j]? = some c) (hc : hv c = none) : hexF st (L.drop j) = none := by
  obtain ⟨h1, h2⟩ := List.getElem?_eq_some_iff.1 h
  rw [List.drop_eq_getElem_cons h1, hexF, h2, hc]
theorem hexF_step {st : Option Nat × List Nat} {L : List Nat} {j c d : Nat} (h : L[j]? = some c) (hc : hv c = some d) : hexF st (L.drop j) = hexF (hstep st d) (L.drop (j + 1)) := by
  obtain ⟨h1, h2⟩ := List.getElem?_eq_some_iff.1 h
  rw [List.drop_eq_getElem_cons h1, hexF, h2, hc]
theorem hexV_none {L : List Nat} (h : hexF (none, []) L = none) : hexV L = none := by unfold hexV; rw [h]
theorem hexV_odd {L : List Nat} {x : Nat} {out : List Nat} (h : hexF (none, []) L = some (some x, out)) : hexV L = none := by unfold hexV; rw [h]
theorem hexV_even {L : List Nat} {out : List Nat} (h : hexF (none, []) L = some (none, out)) : hexV L = some out := by unfold hexV; rw [h]
theorem a_past {w : World} {o : Obj} {k : Nat} {x : Obj} (h : w.heap[k]? = some x) : (w.alloc o).heap[k]? = some x := by rw [Below.heap_alloc _ _ _ (lt_of_block h)]; exact h
theorem a_at (w : World) (o : Obj) (k : Nat) (h : k = w.heap.size) : (w.alloc o).heap[k]? = some o := by subst h; exact heap_alloc_new w o
theorem dec_start (w : World) (base : Nat) (hb : base ≤ w.heap.size) :
    Dec (((((((w.alloc (.cells #[.string ⟨#[48, 49, 50, 51, 52, 53, 54, 55, 56, 57, 97, 98, 99, 100, 101, 102]⟩, .int .i64 4, .int .i64 1] 108)).alloc (.cells #[.slice none 0 0] 51)).alloc (.cells #[.int .i64 4] 3)).alloc (.cells #[.int .i64 8] 3)).alloc (.cells #[.func (.func 49) #[] #[.pointer (some ⟨w.heap.size + 1, 0, none⟩)]] 112)).alloc (.cells #[.int .i64 0] 3)).alloc (.cells #[.int .i64 0] 3))
      (w.heap.size + 1 + 1 + 1 + 1 + 1) (w.heap.size + 1 + 1) (w.heap.size + 1 + 1 + 1 + 1 + 1 + 1) (w.heap.size + 1 + 1 + 1) (w.heap.size + 1 + 1 + 1 + 1) (w.heap.size + 1) w.heap.size base 0 0 [] (.slice none 0 0) := by
  refine ⟨?_, ?_, ?_, ?_, ?_, ?_, ?_, World.ownsRow_nil _ _ _ _⟩
  · exact a_past (a_at _ _ _ (by simp))
  · exact a_past (a_past (a_past (a_past (a_at _ _ _ (by simp)))))
  · exact a_at _ _ _ (by simp)
  · exact a_past (a_past (a_past (a_at _ _ _ (by simp))))
  · exact a_past (a_past (a_at _ _ _ (by simp)))
  · exact a_past (a_past (a_past (a_past (a_past (a_at _ _ _ (by simp))))))
  · exact a_past (a_past (a_past (a_past (a_past (a_past (a_at _ _ _ rfl))))))
theorem cell3 {w : World} {g : Nat} {a b c : Value} {t : TypeId} {f : Nat × Nat} (h : w.heap[g]? = some (.cells #[a, b, c] t f)) : w.cell? ⟨g, 0, none⟩ = some a ∧ w.cell? ⟨g, 1, none⟩ = some b ∧ w.cell? ⟨g, 2, none⟩ = some c := ⟨by simp [World.cell?, h], by simp [World.cell?, h], by simp [World.cell?, h]⟩
set_option maxRecDepth 100000 in
set_option maxHeartbeats 16000000 in
theorem decode_calls (s : ByteArray) (w : World) (hs : s.size ≤ 1000000) : Calls Tryd.prog 33 #[.int .i64 0, .string s] w (DecPost s w) := by
  have hmf : ∀ (fn : Fn) (first cap : Array Value) (w : World), (Instr.makeFunc fn first cap).run Tryd.prog w = .ok (.func fn first cap) w := fun _ _ _ _ => rfl
  have hat := bts_at s
  have hbl := bts_length s
  have hlt256 := bts_lt s
  obtain ⟨I, hI⟩ : ∃ I, idx 61 (bts s) 0 = I := ⟨_, rfl⟩
  have ki : ∀ W, Calls Tryd.prog 48 #[.string s, .int .u8 61] W fun e w' => e = .returned (.int .i64 I) ∧ w' = W := fun W => by
    have h := index_calls s 61 W (by omega)
    rw [hI] at h
    exact h
  go_enter Tryd.func33, Tryd.ntmps33
  go_wp2_with (go_at_call 41; (with_reducible refine (of_calls _).mono ?_); rintro e1 w1 ⟨rfl, hb1⟩)
  unfold aHex
  have hszw := hb1.size
  have D0 := dec_start w1 w.heap.size hszw
  have B0 : Below w.heap.size w (((((((w1.alloc (.cells #[.string ⟨#[48, 49, 50, 51, 52, 53, 54, 55, 56, 57, 97, 98, 99, 100, 101, 102]⟩, .int .i64 4, .int .i64 1] 108)).alloc (.cells #[.slice none 0 0] 51)).alloc (.cells #[.int .i64 4] 3)).alloc (.cells #[.int .i64 8] 3)).alloc (.cells #[.func (.func 49) #[] #[.pointer (some ⟨w1.heap.size + 1, 0, none⟩)]] 112)).alloc (.cells #[.int .i64 0] 3)).alloc (.cells #[.int .i64 0] 3)) :=
    ((((((hb1.alloc hszw _).alloc (by simp; omega) _).alloc (by simp; omega) _).alloc (by simp; omega) _).alloc (by simp; omega) _).alloc (by simp; omega) _).alloc (by simp; omega) _
  by_cases hI0 : 0 ≤ I
  all_goals
    go_wp2_with (first | (go_at_call 48; (with_reducible refine (ki _).mono ?_); clear ki; rintro e2 w2 ⟨rfl, rfl⟩) | (go_at_call 44; (with_reducible refine (bits_calls _ _ _ _).mono ?_); rintro e3 w3 ⟨rfl, rfl⟩))
    clear hb1 hI hI0
    go_loopg [14, 15, 46] s.size (fun kq v14 v15 v46 wr => ∃ (j : Nat) (p : Option Nat) (out : List Nat) (ov : Value), v46 = .int .i64 j ∧ j + kq = s.size ∧ Dec wr (w1.heap.size + 1 + 1 + 1 + 1 + 1) (w1.heap.size + 1 + 1) (w1.heap.size + 1 + 1 + 1 + 1 + 1 + 1) (w1.heap.size + 1 + 1 + 1) (w1.heap.size + 1 + 1 + 1 + 1) (w1.heap.size + 1) w1.heap.size w.heap.size (pxN p) (pnN p) out ov ∧ out.length ≤ j ∧ (∀ x, p = some x → x < 16) ∧ Hid (hexF (p, out) ((bts s).drop j) = hexF (none, []) (bts s)) ∧ Below w.heap.size w wr)
    case atStart => exact ⟨0, none, [], .slice none 0 0, rfl, by omega, D0, Nat.zero_le _, (fun x e => by cases e), Lib.hid rfl, B0⟩
    case round =>
      clear D0 B0
      obtain ⟨j, p, out, ov, rfl, hj, J, hol, hp16, HR, B⟩ := hrel
      obtain ⟨cA0, cA1, cA2⟩ := cell3 J.ha
      cases gk with
      | zero =>
        obtain rfl : j = s.size := by omega
        have hR := HR.out
        rw [← hbl, List.drop_length] at hR
        clear HR hat
        cases p with
        | some x =>
          have HN := Lib.hid (hexV_odd hR.symm)
          clear hR
          go_wp2_with (go_at_call 54; (with_reducible refine (left_calls _ _ x 4 _ J.hx J.hn).mono ?_); rintro e3 w3 ⟨rfl, rfl⟩)
          go_ret3
          exact .inl ⟨HN.out, _, rfl, B.drew⟩
        | none =>
          have HN := Lib.hid (hexV_even hR.symm)
          clear hR
          have J' : Dec wr (w1.heap.size + 1 + 1 + 1 + 1 + 1) (w1.heap.size + 1 + 1) (w1.heap.size + 1 + 1 + 1 + 1 + 1 + 1) (w1.heap.size + 1 + 1 + 1) (w1.heap.size + 1 + 1 + 1 + 1) (w1.heap.size + 1) w1.heap.size w.heap.size 0 0 out ov := J
          go_wp2_with (go_at_call 54; (with_reducible refine (left_calls _ _ 0 0 _ J'.hx J'.hn).mono ?_); rintro e3 w3 ⟨rfl, rfl⟩)
          go_region
          all_goals
            have J2 := J'.drew.drew
            have B2 := B.drew.drew
            go_wp2_with fail
            go_loopg [18] 0 (fun kq v18 wr2 => v18 = .int .i64 s.size ∧ Dec wr2 (w1.heap.size + 1 + 1 + 1 + 1 + 1) (w1.heap.size + 1 + 1) (w1.heap.size + 1 + 1 + 1 + 1 + 1 + 1) (w1.heap.size + 1 + 1 + 1) (w1.heap.size + 1 + 1 + 1 + 1) (w1.heap.size + 1) w1.heap.size w.heap.size 0 0 out ov ∧ Below w.heap.size w wr2)
            case atStart => exact ⟨rfl, J2, B2⟩
            case round =>
              clear J J' J2 B2 B cA0 cA1 cA2
              obtain ⟨rfl, J, B⟩ := hrel
              have cO := cell_of_one J.ho
              have hnl : ¬ (s.size : Int) < (s.size : Int) := by omega
              go_wp2
              go_ret3
              exact .inr ⟨out, ov, HN.out, rfl, J.own, B⟩
      | succ k =>
        have hlt : (j : Int) < (s.size : Int) := by omega
        have hj2 : j < s.size := by omega
        have hcj := hat j hj2
        obtain ⟨c, hc⟩ : ∃ c, (s[j]'hj2).toNat = c := ⟨_, rfl⟩
        rw [hc] at hcj
        have hc256 : c < 256 := hlt256 c (List.mem_of_getElem? hcj)
        have kx := fun W => idx_calls c hc256 W
        cases hcv : hv c with
        | none =>
          have hvi : hvI c = -1 := by unfold hvI; rw [hcv]
          simp only [hvi] at kx
          have HN := Lib.hid (hexV_none (HR.out.symm.trans (hexF_bad hcj hcv)))
          clear HR hvi hcv hcj hat
          go_wp2_with fail
          go_region_with (go_at_call 48; (with_reducible refine (kx _).mono ?_); rintro e2 w2 ⟨rfl, rfl⟩)
          all_goals
            go_wp2
            go_ret3
            exact .inl ⟨HN.out, _, rfl, B.drew⟩
        | some d =>
          have hvi : hvI c = (d : Int) := by unfold hvI; rw [hcv]
          have hd := hv_lt hcv
          simp only [hvi] at kx
          have hR := HR.out
          rw [hexF_step hcj hcv] at hR
          have HR2 := Lib.hid hR
          have hd0 : ¬ (d : Int) < 0 := by omega
          clear HR hvi hcv hcj hat hR
          cases p with
          | none =>
            have J' : Dec wr (w1.heap.size + 1 + 1 + 1 + 1 + 1) (w1.heap.size + 1 + 1) (w1.heap.size + 1 + 1 + 1 + 1 + 1 + 1) (w1.heap.size + 1 + 1 + 1) (w1.heap.size + 1 + 1 + 1 + 1) (w1.heap.size + 1) w1.heap.size w.heap.size 0 0 out ov := J
            go_wp2_with fail
            go_region_with (go_at_call 48; (with_reducible refine (kx _).mono ?_); rintro e2 w2 ⟨rfl, rfl⟩)
            all_goals
              go_wp2_with (go_at_call 53; (with_reducible refine (add_first _ _ _ _ _ _ _ _ d out ov _ J'.drew (by omega) (by omega) (by omega) (by omega) (by omega) hd (by omega) (by omega)).mono ?_); rintro e3 w3 ⟨rfl, J3, B3⟩)
              go_roundg k
              case measure => omega
              case rel => exact ⟨j + 1, some d, out, ov, by go_num, by omega, J3, by omega, (fun x e => by cases e; exact hd), HR2, B.drew.trans B3⟩
          | some x =>
            have J' : Dec wr (w1.heap.size + 1 + 1 + 1 + 1 + 1) (w1.heap.size + 1 + 1) (w1.heap.size + 1 + 1 + 1 + 1 + 1 + 1) (w1.heap.size + 1 + 1 + 1) (w1.heap.size + 1 + 1 + 1 + 1) (w1.heap.size + 1) w1.heap.size w.heap.size x 4 out ov := J
            have hx := hp16 x rfl
            go_wp2_with fail
            go_region_with (go_at_call 48; (with_reducible refine (kx _).mono ?_); rintro e2 w2 ⟨rfl, rfl⟩)
            all_goals
              go_wp2_with (go_at_call 53; (with_reducible refine (add_second _ _ _ _ _ _ _ _ x d out ov _ J'.drew (by omega) (by omega) (by omega) (by omega) (by omega) hx hd (by omega) (by omega) (by omega) B.drew.size (by omega)).mono ?_); rintro e3 w3 ⟨rfl, ov3, J3, B3⟩)
              go_roundg k
              case measure => omega
              case rel => exact ⟨j + 1, none, out ++ [16 * x + d], ov3, by go_num, by omega, J3, by simp only [List.length_append, List.length_singleton]; omega, (fun x e => by cases e), HR2, B.drew.trans B3⟩
end Go.Proofs.YtmejpcfbefjjaaaDoor.Scr
