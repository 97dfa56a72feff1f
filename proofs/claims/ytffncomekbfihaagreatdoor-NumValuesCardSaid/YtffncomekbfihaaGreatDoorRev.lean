/- slices.Reverse at bytes. -/
import Derived.Test.YtffncomekbfihaaGreatDoorMore
import Derived.Shelf.RegionOpenPlain
namespace Go.Proofs.YtffncomekbfihaaGreatDoor.Nat
open Go.RowKit Go.Shelf
set_option linter.unusedVariables false
/-- a list that is turned round from both ends up to place i -/
def Rvd (L M : List Nat) (i : Nat) : Prop := M.length = L.length ∧ ∀ j, j < L.length → M[j]? = if j < i ∨ L.length ≤ i + j then L[L.length - 1 - j]? else L[j]?
theorem rvd_start (L : List Nat) : Rvd L L 0 := ⟨rfl, fun j hj => (if_neg (by omega)).symm⟩
theorem rvd_end {L M : List Nat} {i : Nat} (h : Rvd L M i) (hi : L.length ≤ 2 * i + 1) : M = L.reverse := by
  apply List.ext_getElem?
  intro j
  rcases Nat.lt_or_ge j L.length with hj | hj
  · rw [h.2 j hj, List.getElem?_reverse hj]
    by_cases hc : j < i ∨ L.length ≤ i + j
    · rw [if_pos hc]
    · rw [if_neg hc, show L.length - 1 - j = j from by omega]
  · rw [List.getElem?_eq_none (by rw [h.1]; exact hj), List.getElem?_eq_none (by rw [List.length_reverse]; exact hj)]
theorem rvd_step {L M : List Nat} {i x y : Nat} (h : Rvd L M i) (hi : 2 * i + 1 < L.length) (hx : M[i]? = some x) (hy : M[L.length - 1 - i]? = some y) : Rvd L ((M.set i y).set (L.length - 1 - i) x) (i + 1) := by
  have hl := h.1
  have h1 := h.2 i (by omega)
  have h2 := h.2 (L.length - 1 - i) (by omega)
  rw [if_neg (by omega), hx] at h1
  rw [if_neg (by omega), hy] at h2
  refine ⟨by rw [List.length_set, List.length_set, hl], fun j hj => ?_⟩
  by_cases e1 : j = L.length - 1 - i
  · subst e1
    rw [List.getElem?_set_self (by rw [List.length_set]; omega), if_pos (by omega), show L.length - 1 - (L.length - 1 - i) = i from by omega]
    exact h1
  · rw [List.getElem?_set_ne (fun q => e1 q.symm)]
    by_cases e2 : j = i
    · subst e2
      rw [List.getElem?_set_self (by omega), if_pos (by omega)]
      exact h2
    · rw [List.getElem?_set_ne (fun q => e2 q.symm), h.2 j hj]
      by_cases hc : j < i ∨ L.length ≤ i + j
      · rw [if_pos hc, if_pos (by omega)]
      · rw [if_neg hc, if_neg (by omega)]
set_option maxHeartbeats 4000000 in
set_option maxRecDepth 100000 in
theorem rev_calls (g cap B : Nat) (L : List Nat) (w : World) (hB : B ≤ g) (hR : RB w g L) (hsz : L.length ≤ 1099511627776) :
    Calls Tryz.prog 60 #[.slice (some ⟨g, 0, none⟩) L.length cap] w fun e w' => e = .returned (.tuple #[]) ∧ RB w' g L.reverse ∧ Below B w w' := by
  have hb0 := Below.refl B w
  have mixed : Tryz.prog.follows Departure.mixedOrders = true := by kernel_rfl
  go_enter Tryz.func60, Tryz.ntmps60
  go_wp2
  go_loopg [2, 3] L.length (fun k s2 s3 wr => ∃ (i : Nat) (M : List Nat), s2 = .int .i64 i ∧ s3 = .int .i64 ((L.length : Int) - 1 - i) ∧ i + k = L.length ∧ Rvd L M i ∧ RB wr g M ∧ Below B w wr)
  case atStart => exact ⟨0, L, rfl, by go_num, by omega, rvd_start L, hR, hb0⟩
  case round =>
    clear hR hb0
    obtain ⟨i, M, rfl, rfl, hk, hr, hR, hb⟩ := hrel
    by_cases hlt : 2 * i + 1 < L.length
    · have hl := hr.1
      obtain ⟨x, hx⟩ : ∃ x, M[i]? = some x := ⟨_, List.getElem?_eq_getElem (by omega)⟩
      obtain ⟨y, hy⟩ : ∃ y, M[L.length - 1 - i]? = some y := ⟨_, List.getElem?_eq_getElem (by omega)⟩
      obtain ⟨ci, fi⟩ := hR i x hx
      obtain ⟨cj, fj⟩ := hR _ y hy
      have hr2 := rvd_step hr hlt hx hy
      have hR2 : RB ((wr.setCell ⟨g, i, none⟩ (.int .u8 (y : Int))).setCell ⟨g, L.length - 1 - i, none⟩ (.int .u8 (x : Int))).drew g ((M.set i y).set (L.length - 1 - i) x) := RB.set (RB.set (w := wr) hR (by omega) y) (by rw [List.length_set]; omega) x
      have hb2 := ((hb.setCell (p := ⟨g, i, none⟩) hB (.int .u8 (y : Int))).setCell (p := ⟨g, L.length - 1 - i, none⟩) hB (.int .u8 (x : Int))).drew
      obtain ⟨jn, hjn⟩ : ∃ jn, L.length - 1 - i = jn := ⟨_, rfl⟩
      have ej : (L.length : Int) - 1 - (i : Int) = (jn : Int) := by omega
      rw [hjn] at cj fj hR2 hb2 hr2
      rw [ej]
      have H : Hid _ := Lib.hid (And.intro hr2 hR2)
      have HB : Hid _ := Lib.hid hb2
      have hij : (i : Int) < (jn : Int) := by omega
      have hL : (jn : Int) < (L.length : Int) := by omega
      have hL2 : (i : Int) < (L.length : Int) := by omega
      have hw1 : IntKind.i64.wrap ((jn : Int) - 1) = (jn : Int) - 1 := by rw [IntKind.wrap_i64]; omega
      have hej : Hid _ := Lib.hid ej
      clear hr hR hb hx hy hr2 hR2 hb2 ej
      go_wp2_with fail
      go_region_o
      go_wp2
      go_roundg (gk - 1)
      case measure => omega
      case rel => exact ⟨i + 1, _, by go_num, by have := hej.out; go_num, by omega, H.out.1, H.out.2, HB.out⟩
    · have hlt2 : ¬ (i : Int) < (L.length : Int) - 1 - (i : Int) := by omega
      have he := rvd_end hr (by omega)
      subst he
      go_wp2
      go_end0
      exact ⟨rfl, hR, hb⟩
end Go.Proofs.YtffncomekbfihaaGreatDoor.Nat
