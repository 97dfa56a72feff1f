import Derived.Test.YtfcfnnkepjoncaaDoorBase2
namespace Go.Proofs.YtfcfnnkepjoncaaDoor.Base
open Go.RowKit Go.Proofs.YtfcfnnkepjoncaaDoorW.PrintWords Go.Proofs.YtfcfnnkepjoncaaDoorW.PrintLast
set_option linter.unusedVariables false
set_option linter.unusedSimpArgs false

/-- the letters of a kind -/
def aHex : ByteArray := ⟨#[48, 49, 50, 51, 52, 53, 54, 55, 56, 57, 97, 98, 99, 100, 101, 102]⟩
def aB64 : ByteArray := ⟨#[65, 66, 67, 68, 69, 70, 71, 72, 73, 74, 75, 76, 77, 78, 79, 80, 81, 82, 83, 84, 85, 86, 87, 88, 89, 90, 97, 98, 99, 100, 101, 102, 103, 104, 105, 106, 107, 108, 109, 110, 111, 112, 113, 114, 115, 116, 117, 118, 119, 120, 121, 122, 48, 49, 50, 51, 52, 53, 54, 55, 56, 57, 43, 47]⟩
def aU64 : ByteArray := ⟨#[65, 66, 67, 68, 69, 70, 71, 72, 73, 74, 75, 76, 77, 78, 79, 80, 81, 82, 83, 84, 85, 86, 87, 88, 89, 90, 97, 98, 99, 100, 101, 102, 103, 104, 105, 106, 107, 108, 109, 110, 111, 112, 113, 114, 115, 116, 117, 118, 119, 120, 121, 122, 48, 49, 50, 51, 52, 53, 54, 55, 56, 57, 45, 95]⟩
def aB32 : ByteArray := ⟨#[65, 66, 67, 68, 69, 70, 71, 72, 73, 74, 75, 76, 77, 78, 79, 80, 81, 82, 83, 84, 85, 86, 87, 88, 89, 90, 50, 51, 52, 53, 54, 55]⟩
def alphas : Value := .agg #[.string aHex, .int .i64 4, .int .i64 1, .string aB64, .int .i64 6, .int .i64 4, .string aU64, .int .i64 6, .int .i64 1, .string aB32, .int .i64 5, .int .i64 8]

set_option maxRecDepth 100000 in
set_option maxHeartbeats 3200000 in
theorem alphabets_any (w : World) : Calls Tryd.prog 24 #[] w fun e w' => e = .returned alphas ∧ Below w.heap.size w w' := by
  go_enter Tryd.func24, Tryd.ntmps24
  go_wp2
  refine bodyPost_ret (v := alphas) (by simp [results, Tryd.results24, go_sem, alphas, aHex, aB64, aU64, aB32]) rfl ⟨rfl, ?_⟩
  repeat (first | exact Below.refl _ _ | apply Below.drew | refine Below.alloc ?_ (Nat.le_refl _) _ | refine Below.setCell ?_ (Nat.le_refl _) _)

/-- a kind's letters, how many bits each has, to a multiple of what they are filled up -/
def ofK (kind : Int) : ByteArray × Int × Int × Bool :=
  if kind = 0 then (aHex, 4, 1, true) else if kind = 1 then (aB64, 6, 4, true) else if kind = 2 then (aU64, 6, 1, true) else if kind = 3 then (aB32, 5, 8, true) else (⟨#[]⟩, 0, 0, false)
def base_of.f (a0 : Int) : Option (ByteArray × Int × Int × Bool) := some (ofK a0)

set_option maxRecDepth 100000 in
set_option maxHeartbeats 3200000 in
theorem of_gen (k : Int) (L : ByteArray) (b f : Int) (w : World) (h0 : 0 ≤ k) (h3 : k ≤ 3)
    (i0 : ∀ w, (Instr.index 64 alphas (.int .i64 k)).run Tryd.prog w = .ok (.agg #[.string L, .int .i64 b, .int .i64 f]) w) :
    Calls Tryd.prog 16 #[.int .i64 k] w fun e w' => e = .returned (.tuple #[.agg #[.string L, .int .i64 b, .int .i64 f], .bool true]) ∧ Below w.heap.size w w' := by
  rcases (show k = 0 ∨ k = 1 ∨ k = 2 ∨ k = 3 by omega) with rfl | rfl | rfl | rfl
  all_goals
    go_enter Tryd.func16, Tryd.ntmps16
    go_wp2_with fail
    refine (alphabets_any _).mono ?_
    rintro e w' ⟨rfl, hb⟩
    have kb : w'.heap[w.heap.size]? = some (.cells #[.string ⟨#[]⟩, .int .i64 0, .int .i64 0] 48 (0, 0)) := (hb.block _ (by simp)).trans (heap_alloc_new w _)
    have B : Below w.heap.size w w' := ((Below.refl w.heap.size w).alloc (Nat.le_refl _) _).trans (hb.mono (by simp))
    clear hb
    have c0 : w'.cell? ⟨w.heap.size, 0, none⟩ = some (.string ⟨#[]⟩) := by simp [World.cell?, kb]
    have c1 : w'.cell? ⟨w.heap.size, 1, none⟩ = some (.int .i64 0) := by simp [World.cell?, kb]
    have c2 : w'.cell? ⟨w.heap.size, 2, none⟩ = some (.int .i64 0) := by simp [World.cell?, kb]
    have f0 : w'.frozen? ⟨w.heap.size, 0, none⟩ = false := by simp [World.frozen?, kb]
    have f1 : w'.frozen? ⟨w.heap.size, 1, none⟩ = false := by simp [World.frozen?, kb]
    have f2 : w'.frozen? ⟨w.heap.size, 2, none⟩ = false := by simp [World.frozen?, kb]
    go_wp2
    refine bodyPost_ret (v := .tuple #[.agg #[.string L, .int .i64 b, .int .i64 f], .bool true]) (by simp [results, Tryd.results16, go_sem, c0, c1, c2]) rfl ⟨rfl, ?_⟩
    exact ((B.setCell (Nat.le_refl _) _).setCell (Nat.le_refl _) _).setCell (Nat.le_refl _) _

set_option maxRecDepth 100000 in
set_option maxHeartbeats 3200000 in
theorem of_out (k : Int) (w : World) (h : ¬ (0 ≤ k ∧ k ≤ 3)) :
    Calls Tryd.prog 16 #[.int .i64 k] w fun e w' => e = .returned (.tuple #[.agg #[.string ⟨#[]⟩, .int .i64 0, .int .i64 0], .bool false]) ∧ Below w.heap.size w w' := by
  have q : k < 0 ∨ 3 < k := by omega
  clear h
  rcases q with q | q
  · go_enter Tryd.func16, Tryd.ntmps16
    go_wp2
    refine bodyPost_ret (v := .tuple #[.agg #[.string ⟨#[]⟩, .int .i64 0, .int .i64 0], .bool false]) (by simp [results, Tryd.results16, go_sem]) rfl ⟨rfl, ?_⟩
    repeat (first | exact Below.refl _ _ | apply Below.drew | refine Below.alloc ?_ (Nat.le_refl _) _ | refine Below.setCell ?_ (Nat.le_refl _) _)
  · have q0 : ¬ k < 0 := by omega
    go_enter Tryd.func16, Tryd.ntmps16
    go_wp2
    refine bodyPost_ret (v := .tuple #[.agg #[.string ⟨#[]⟩, .int .i64 0, .int .i64 0], .bool false]) (by simp [results, Tryd.results16, go_sem]) rfl ⟨rfl, ?_⟩
    repeat (first | exact Below.refl _ _ | apply Below.drew | refine Below.alloc ?_ (Nat.le_refl _) _ | refine Below.setCell ?_ (Nat.le_refl _) _)

theorem base_of.calls (a0 : Int) (r1 : ByteArray) (r2 r3 : Int) (r4 : Bool) (w : World) (h : base_of.f a0 = some (r1, r2, r3, r4)) :
    Calls Tryd.prog 16 #[.int .i64 a0] w fun e w' => e = .returned (.tuple #[.agg #[.string r1, .int .i64 r2, .int .i64 r3], .bool r4]) ∧ Below w.heap.size w w' := by
  have h' := Option.some.inj h
  unfold ofK at h'
  by_cases k0 : a0 = 0
  · subst k0; rw [if_pos rfl] at h'; simp only [Prod.mk.injEq] at h'; obtain ⟨rfl, rfl, rfl, rfl⟩ := h'
    exact of_gen 0 _ _ _ w (by decide) (by decide) (fun _ => by kernel_rfl)
  rw [if_neg k0] at h'
  by_cases k1 : a0 = 1
  · subst k1; rw [if_pos rfl] at h'; simp only [Prod.mk.injEq] at h'; obtain ⟨rfl, rfl, rfl, rfl⟩ := h'
    exact of_gen 1 _ _ _ w (by decide) (by decide) (fun _ => by kernel_rfl)
  rw [if_neg k1] at h'
  by_cases k2 : a0 = 2
  · subst k2; rw [if_pos rfl] at h'; simp only [Prod.mk.injEq] at h'; obtain ⟨rfl, rfl, rfl, rfl⟩ := h'
    exact of_gen 2 _ _ _ w (by decide) (by decide) (fun _ => by kernel_rfl)
  rw [if_neg k2] at h'
  by_cases k3 : a0 = 3
  · subst k3; rw [if_pos rfl] at h'; simp only [Prod.mk.injEq] at h'; obtain ⟨rfl, rfl, rfl, rfl⟩ := h'
    exact of_gen 3 _ _ _ w (by decide) (by decide) (fun _ => by kernel_rfl)
  rw [if_neg k3] at h'
  simp only [Prod.mk.injEq] at h'; obtain ⟨rfl, rfl, rfl, rfl⟩ := h'
  exact of_out a0 w (by omega)
end Go.Proofs.YtfcfnnkepjoncaaDoor.Base
