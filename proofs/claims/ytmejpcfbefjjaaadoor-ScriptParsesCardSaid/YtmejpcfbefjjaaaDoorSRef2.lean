/- The reference's number and words. -/
import Derived.Test.YtmejpcfbefjjaaaDoorSRef1
import Derived.Laws.AppendOwn
import Derived.Laws.AppendOwnNone
import Derived.Laws.Strings2
import Derived.Laws.Strings3
import Derived.Deep.AppendLies
namespace Go.Proofs.YtmejpcfbefjjaaaDoor.Scr
open Go.RowKit
set_option linter.unusedVariables false
set_option linter.unusedSimpArgs false
def numI (L : List Nat) : Int := match numV L with | some n => (n : Int) | none => -1
theorem numI_none {L : List Nat} (h : numV L = none) : numI L = -1 := by unfold numI; rw [h]
theorem numI_some {L : List Nat} {n : Nat} (h : numV L = some n) : numI L = n := by unfold numI; rw [h]
theorem full_of {x : ByteArray} (h : x.size ≠ 0) : (x.toList == []) = false := by
  rw [tl_f]
  rintro rfl
  exact h rfl
theorem numV_bad {L : List Nat} {j c : Nat} (h : L[j]? = some c) (hc : ¬ (48 ≤ c ∧ c ≤ 57)) : numV L = none := by
  unfold numV
  split
  · rfl
  · rw [if_neg (fun q => hc (q c (List.mem_of_getElem? h)))]
theorem dval_lt7 {L : List Nat} {j : Nat} (hj : j ≤ 7) (hL : L.length ≤ 7) (h : ∀ c ∈ L.take j, c ≤ 57) : dval (L.take j) < 10000000 := by
  have h1 := dval_bound (L.take j) h
  have h2 : (L.take j).length ≤ 7 := by rw [List.length_take]; omega
  have h3 : 10 ^ (L.take j).length ≤ 10 ^ 7 := Nat.pow_le_pow_right (by decide) h2
  have h4 : (10 : Nat) ^ 7 = 10000000 := by decide
  omega
theorem dig_succ {L : List Nat} {j c : Nat} (h : L[j]? = some c) (hd : ∀ x ∈ L.take j, 48 ≤ x ∧ x ≤ 57) (hc : 48 ≤ c ∧ c ≤ 57) : ∀ x ∈ L.take (j + 1), 48 ≤ x ∧ x ≤ 57 := by
  intro x hx
  rw [List.take_add_one, h, List.mem_append] at hx
  rcases hx with hx | hx
  · exact hd x hx
  · rw [Option.toList_some, List.mem_singleton] at hx
    omega
set_option maxHeartbeats 8000000 in
theorem rnumber_calls (x : ByteArray) (w : World) : Calls Tryd.prog 21 #[.string x] w fun e w' => e = .returned (.int .i64 (numI (bts x))) ∧ w' = w := by
  have hbl := bts_length x
  have hat := bts_at x
  by_cases h0 : x.size = 0
  · have he := empty_of h0
    subst he
    go_enter Tryd.func21, Tryd.ntmps21
    go_wp2
    go_ret
    exact ⟨ret_int rfl, rfl⟩
  have hne := full_of h0
  by_cases h7 : 7 < x.size
  · have hr : numI (bts x) = -1 := numI_none (by unfold numV; rw [if_pos (.inr (.inl (by omega)))])
    have h7i : (7 : Int) < (x.size : Int) := by omega
    rw [hr]
    clear hr hat
    go_enter Tryd.func21, Tryd.ntmps21
    go_wp2
    go_ret
    exact ⟨rfl, rfl⟩
  have h7i : ¬ (7 : Int) < (x.size : Int) := by omega
  have h0i : (0 : Int) < (x.size : Int) := by omega
  have hx0 : 0 < x.size := by omega
  have hz0 := hat 0 hx0
  by_cases hz : (x[0]'hx0).toNat = 48 ∧ 1 < x.size
  · have hr : numI (bts x) = -1 := numI_none (by unfold numV; rw [if_pos (.inr (.inr ⟨by rw [hz0, hz.1], by omega⟩))])
    have hz1 : ((x[0]'hx0).toNat : Int) = 48 := by omega
    have hz2 : (1 : Int) < (x.size : Int) := by omega
    rw [hr]
    clear hr hat hz hz0
    go_enter Tryd.func21, Tryd.ntmps21
    go_wp2
    go_ret
    exact ⟨rfl, rfl⟩
  have hnv : numV (bts x) = if ∀ c ∈ bts x, 48 ≤ c ∧ c ≤ 57 then some (dval (bts x)) else none := by
    unfold numV
    rw [if_neg]
    rintro (h | h | ⟨h, h'⟩)
    · rw [h] at hbl; simp at hbl; omega
    · omega
    · rw [hz0] at h; exact hz ⟨Option.some.inj h, by omega⟩
  suffices hs : ∀ b : Bool, ((x[0]'hx0).toNat : Int) = 48 ∧ ¬ (1 : Int) < (x.size : Int) ∨ ¬ ((x[0]'hx0).toNat : Int) = 48 → Calls Tryd.prog 21 #[.string x] w fun e w' => e = .returned (.int .i64 (numI (bts x))) ∧ w' = w from hs true (by omega)
  rintro - (⟨q1, q2⟩ | q1)
  all_goals
    have HN := Lib.hid hnv
    clear hnv hz hz0
    go_enter Tryd.func21, Tryd.ntmps21
    go_wp2
    go_loopg [3, 4] x.size (fun kq v3 v4 wr => ∃ j : Nat, v3 = .int .i64 (dval ((bts x).take j) : Nat) ∧ v4 = .int .i64 j ∧ j + kq = x.size ∧ Hid (∀ c ∈ (bts x).take j, 48 ≤ c ∧ c ≤ 57) ∧ wr = w)
    case atStart => exact ⟨0, rfl, rfl, by omega, Lib.hid (by simp), rfl⟩
    case round =>
      obtain ⟨j, rfl, rfl, hj, HD, rfl⟩ := hrel
      have hd7 := dval_lt7 (L := bts x) (j := j) (by omega) (by omega) (fun c hc => (HD.out c hc).2)
      cases gk with
      | zero =>
        obtain rfl : j = x.size := by omega
        have hr : numI (bts x) = (dval ((bts x).take x.size) : Nat) := by
          rw [← hbl, List.take_length]
          refine numI_some ?_
          rw [HN.out, if_pos]
          have := HD.out
          rw [← hbl, List.take_length] at this
          exact this
        have HR := Lib.hid hr
        clear hr hat
        go_wp2
        go_ret
        exact ⟨ret_int HR.out.symm, rfl⟩
      | succ d =>
        have hlt : (j : Int) < (x.size : Int) := by omega
        have hj2 : j < x.size := by omega
        have hcj := hat j hj2
        have hji : (0 : Int) ≤ (j : Int) := by omega
        have hj7 : (j : Int) ≤ 6 := by omega
        by_cases hc : 48 ≤ (x[j]'hj2).toNat ∧ (x[j]'hj2).toNat ≤ 57
        · have hc1 : ¬ ((x[j]'hj2).toNat : Int) < 48 := by omega
          have hc2 : ¬ (57 : Int) < ((x[j]'hj2).toNat : Int) := by omega
          have hs := dval_succ hcj
          have HD2 := Lib.hid (dig_succ hcj HD.out hc)
          have HS := Lib.hid hs
          clear hs hcj hat
          go_wp2
          go_roundg d
          case rel => exact ⟨j + 1, by rw [HS.out]; go_num, by go_num, by omega, HD2, rfl⟩
          case measure => omega
        · have hr := Lib.hid (numI_none (numV_bad hcj hc))
          have hc' : ((x[j]'hj2).toNat : Int) < 48 ∨ (57 : Int) < ((x[j]'hj2).toNat : Int) ∧ ¬ ((x[j]'hj2).toNat : Int) < 48 := by omega
          clear hcj hat hc
          rcases hc' with hc1 | ⟨hc1, hc2⟩
          · go_wp2
            go_ret
            exact ⟨ret_int hr.out.symm, rfl⟩
          · go_wp2
            go_ret
            exact ⟨ret_int hr.out.symm, rfl⟩
end Go.Proofs.YtmejpcfbefjjaaaDoor.Scr
