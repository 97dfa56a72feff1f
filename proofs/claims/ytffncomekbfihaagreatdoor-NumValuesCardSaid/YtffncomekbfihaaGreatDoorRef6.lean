/- glossatorref01.FromDigits. -/
import Derived.Test.YtffncomekbfihaaGreatDoorRef5
import Derived.Test.YtffncomekbfihaaGreatDoorDigits
namespace Go.Proofs.YtffncomekbfihaaGreatDoor.Nat
open Go.RowKit Go.Shelf
set_option linter.unusedVariables false
set_option linter.unusedSimpArgs false
theorem bts_ix {s : ByteArray} {i c : Nat} (h : (bts s)[i]? = some c) : ∀ hh : i < s.size, ((s[i]'hh).toNat : Int) = (c : Int) := by
  intro hh
  unfold bts at h
  rw [List.getElem?_map, Option.map_eq_some_iff] at h
  obtain ⟨b, hb, rfl⟩ := h
  obtain ⟨hi, he⟩ := List.getElem?_eq_some_iff.1 hb
  rw [← he]
  rfl
theorem NatB.drew {w : World} {V : Value} {v : Nat} (h : NatB w V v) : NatB w.drew V v := h
theorem ownn_nil (w : World) : OwnN w (.slice none 0 0) 0 := by
  unfold OwnN
  rw [limbs_zero]
  exact World.ownsRow_nil _ _ _ _
theorem dgs_take_succ {L : List Nat} {i c : Nat} (h : Dgs (L.take i)) (hc : L[i]? = some c) (h1 : 48 ≤ c) (h2 : c ≤ 57) : Dgs (L.take (i + 1)) := by
  intro x hx
  rw [List.take_add_one, hc] at hx
  rcases List.mem_append.1 hx with hx | hx
  · exact h x hx
  · simp at hx; omega
set_option maxHeartbeats 8000000 in
set_option maxRecDepth 100000 in
theorem rfrom_calls (s : ByteArray) (w : World) (hs : s.size ≤ 2000) (hne : s.size ≠ 0) :
    Calls Tryz.prog 45 #[.string s] w fun e w' => ((Dgs (bts s) ∧ ∃ V, e = .returned (.tuple #[V, .int .i64 0]) ∧ OwnN w' V (dval (bts s))) ∨ (¬ Dgs (bts s) ∧ e = .returned (.tuple #[.slice none 0 0, .int .i64 4]))) ∧ Below w.heap.size w w' := by
  have hlen := bts_length s
  have hb0 := Below.refl w.heap.size w
  have hemp := full_of hne
  have hs1 : ¬ (4096 : Int) < (s.size : Int) := by omega
  clear hne
  go_enter Tryz.func45, Tryz.ntmps45
  go_wp2
  clear hemp hs1
  go_loopg [4, 5] s.size (fun kq v4 v5 wr => ∃ i : Nat, v5 = .int .i64 i ∧ i + kq = s.size ∧ Hid (Dgs ((bts s).take i)) ∧ OwnN wr v4 (dval ((bts s).take i)) ∧ Below w.heap.size w wr)
  case atStart => exact ⟨0, rfl, by omega, Lib.hid (fun c hc => by cases hc), ownn_nil w, hb0⟩
  case round =>
    clear hb0
    obtain ⟨i, rfl, hi, HD, hx, hb⟩ := hrel
    cases gk with
    | zero =>
      obtain rfl : i = s.size := by omega
      have hD := HD.out
      rw [List.take_of_length_le (by omega)] at hx hD
      have HD2 : Hid _ := Lib.hid hD
      clear hD HD
      go_wp2
      go_ret2
      exact ⟨.inl ⟨HD2.out, _, rfl, hx⟩, hb⟩
    | succ d =>
      obtain ⟨c, hc⟩ : ∃ c, (bts s)[i]? = some c := ⟨_, List.getElem?_eq_getElem (by omega)⟩
      have hat := bts_ix hc
      have hi1 : (i : Int) < (s.size : Int) := by omega
      have hc256 := bts_lt hc
      by_cases h1 : c < 48
      · have h1I : (c : Int) < 48 := by omega
        have hno : ¬ Dgs (bts s) := fun h => by have := h.get hc; omega
        have HNO : Hid _ := Lib.hid hno
        clear hno hc h1 hx
        go_wp2
        go_ret2
        exact ⟨.inr ⟨HNO.out, rfl⟩, hb⟩
      · have h1I : ¬ (c : Int) < 48 := by omega
        by_cases h2 : 57 < c
        · have h2I : (57 : Int) < (c : Int) := by omega
          have hno : ¬ Dgs (bts s) := fun h => by have := h.get hc; omega
          have HNO : Hid _ := Lib.hid hno
          clear hno hc h1 h2 hx
          go_wp2
          go_ret2
          exact ⟨.inr ⟨HNO.out, rfl⟩, hb⟩
        · have h2I : ¬ (57 : Int) < (c : Int) := by omega
          obtain ⟨P, hP⟩ : ∃ P, c - 48 = P := ⟨_, rfl⟩
          have hPI : (c : Int) - 48 = (P : Int) := by omega
          have hw1 : IntKind.u8.wrap (P : Int) = (P : Int) := by rw [IntKind.wrap_u8]; omega
          have hw2 : IntKind.u32.wrap (P : Int) = (P : Int) := by rw [IntKind.wrap_u32]; omega
          have hP32 : P < 4294967296 := by omega
          have hdv := dval_take_succ hc
          rw [hP] at hdv
          have HN : Hid _ := Lib.hid (And.intro (dgs_take_succ HD.out hc (by omega) (by omega)) hdv)
          have hbits : (limbs (dval ((bts s).take i))).length ≤ 1000 := limbs_pow (Nat.le_trans (Nat.le_of_lt (dval_lt HD.out)) (ten_bits _)) (by rw [List.length_take]; omega)
          generalize dval ((bts s).take i) = D at *
          go_wp2
          have hxB := hx.b (by omega)
          have bA := below_alloc wr (.cells #[.int .u32 10] 53)
          have vA := natb_one wr 10 (by decide)
          have bB := below_alloc wr (.cells #[.int .u32 (P : Int)] 53)
          have vB := natb_one wr P hP32
          have bAB := below_step bA (below_alloc (wr.alloc (.cells #[.int .u32 10] 53)) (.cells #[.int .u32 (P : Int)] 53))
          have bBA := below_step bB (below_alloc (wr.alloc (.cells #[.int .u32 (P : Int)] 53)) (.cells #[.int .u32 10] 53))
          have vBA := natb_one (wr.alloc (.cells #[.int .u32 (P : Int)] 53)) 10 (by decide)
          have vAB := natb_one (wr.alloc (.cells #[.int .u32 10] 53)) P hP32
          rw [World.size_alloc] at vBA vAB
          have kT := fun W V (hbW : Below wr.heap.size wr W) (hV : NatB W V 10) => rtimes_b (hxB.below hbW) hV
          have hten : (limbs 10).length ≤ 1 := limbs_pow (v := 10) (e := 4) (L := 1) (by decide) (by decide)
          have HL : Hid ((limbs (D * 10)).length ≤ 10000) := Lib.hid (Nat.le_trans (limbs_mul D 10) (by omega))
          clear hten hbits
          go_region_law (first
            | (go_simp; go_at_call 66; (with_reducible refine (kT _ _ bA.drew vA.drew).mono ?_); rintro e1 w1 ⟨v1, rfl, hv1, hb1⟩; have bC := below_step bA.drew hb1)
            | (go_simp; go_at_call 66; (with_reducible refine (kT _ _ bAB.drew (vA.below (below_alloc (wr.alloc (.cells #[.int .u32 10] 53)) (.cells #[.int .u32 (P : Int)] 53))).drew).mono ?_); rintro e1 w1 ⟨v1, rfl, hv1, hb1⟩; have bC := below_step bAB.drew hb1; have vC := vAB.drew.below hb1)
            | (go_simp; go_at_call 66; (with_reducible refine (kT _ _ bBA.drew vBA.drew).mono ?_); rintro e1 w1 ⟨v1, rfl, hv1, hb1⟩; have bC := below_step bBA.drew hb1; have vC := (vB.below (below_alloc (wr.alloc (.cells #[.int .u32 (P : Int)] 53)) (.cells #[.int .u32 10] 53))).drew.below hb1)
            | (go_simp; go_at_call 95; (with_reducible refine (rsum_b ((hv1.b HL.out).below (below_alloc w1 _)) (natb_one w1 P hP32)).mono ?_); rintro e2 w2 ⟨v2, rfl, hv2, hb2⟩; have bD := below_step bC (below_step (below_alloc w1 _) hb2))
            | (go_simp; go_at_call 95; (with_reducible refine (rsum_b (hv1.b HL.out) vC).mono ?_); rintro e2 w2 ⟨v2, rfl, hv2, hb2⟩; have bD := below_step bC hb2)
            | (go_simp; go_at_call 66; trace_state; fail) | (go_simp; go_at_call 95; trace_state; fail))
          all_goals
            have hdv := HN.out.2
            rw [show 10 * D + P = D * 10 + P from by omega] at hdv
            rw [← hdv] at hv2
            have hb9 := below_step hb bD
            have HD2 : Hid _ := Lib.hid HN.out.1
            clear hdv HN HL bC bD hv1 kT
            go_wp2_with fail
            go_roundg d
            case rel => exact ⟨i + 1, by go_num, by omega, HD2, hv2, hb9⟩
            case measure => omega
end Go.Proofs.YtffncomekbfihaaGreatDoor.Nat
