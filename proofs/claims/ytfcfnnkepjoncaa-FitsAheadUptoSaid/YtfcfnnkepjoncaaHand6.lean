import Derived.Test.YtfcfnnkepjoncaaProg
import Derived.WalkKit
import Derived.WalkSpells
import Derived.OwnWalk
import Derived.LoopN
import Derived.KernelRfl
import Derived.Outline
import Derived.BigQuiet
import Derived.Test.YtfcfnnkepjoncaaWWords
import Derived.Test.YtfcfnnkepjoncaaWMore
import Derived.Test.YtfcfnnkepjoncaaWKept
namespace Go.Proofs.Ytfcfnnkepjoncaa.Hand
open Go.RowKit Go.Proofs.YtfcfnnkepjoncaaW.PrintWords Go.Proofs.YtfcfnnkepjoncaaW.PrintLast Go.Proofs.YtfcfnnkepjoncaaW.PrintMore
set_option linter.unusedVariables false
set_option linter.unusedSimpArgs false

def wids : Value := .agg #[.int .i64 16, .int .i64 5, .int .i64 10, .int .i64 32, .int .i64 8, .int .i64 23, .int .i64 64, .int .i64 11, .int .i64 52]
set_option maxRecDepth 100000 in
set_option maxHeartbeats 3200000 in
theorem widths_any (w : World) : Calls Try.prog 61 #[] w fun e w' => e = .returned wids ∧ Below w.heap.size w w' := by
  go_enter Try.func61, Try.ntmps61
  go_wp2
  refine bodyPost_ret (v := wids) (by simp [results, Try.results61, go_sem, wids]) rfl ⟨rfl, ?_⟩
  repeat (first | exact Below.refl _ _ | apply Below.drew | refine Below.alloc ?_ (Nat.le_refl _) _ | refine Below.setCell ?_ (Nat.le_refl _) _)

/-- a width's bits, of the exponent, of the fraction; have bits no more? -/
def fbits_of.f (a0 a1 : Int) : Option (Int × Int × Int × Bool) :=
  if a0 = 16 then some (16, 5, 10, shr .u64 a1 16 == 0) else if a0 = 32 then some (32, 8, 23, shr .u64 a1 32 == 0) else if a0 = 64 then some (64, 11, 52, true) else some (0, 0, 0, false)

set_option maxRecDepth 100000 in
set_option maxHeartbeats 3200000 in
theorem fof16 (a1 : Int) (w : World) :
    Calls Try.prog 57 #[.int .i64 16, .int .u64 a1] w fun e w' => e = .returned (.tuple #[.agg #[.int .i64 16, .int .i64 5, .int .i64 10], .bool (shr .u64 a1 16 == 0)]) ∧ Below w.heap.size w w' := by
  have i0 : ∀ w, (Instr.index 103 wids (.int .i64 0)).run Try.prog w = .ok (.agg #[.int .i64 16, .int .i64 5, .int .i64 10]) w := fun _ => by kernel_rfl
  go_enter Try.func57, Try.ntmps57
  go_wp2_with fail
  refine (widths_any _).mono ?_
  rintro e w' ⟨rfl, hb⟩
  have kb : w'.heap[w.heap.size]? = some (.cells #[.int .i64 0, .int .i64 0, .int .i64 0] 92 (0, 0)) := (hb.block _ (by simp)).trans (heap_alloc_new w _)
  have B : Below w.heap.size w w' := ((Below.refl w.heap.size w).alloc (Nat.le_refl _) _).trans (hb.mono (by simp))
  have hlt : w.heap.size < w'.heap.size := by have := hb.size; simp at this; omega
  have hlt1 : w.heap.size < w'.heap.size + 1 := by omega
  have hlt2 : w.heap.size < w'.heap.size + 1 + 1 := by omega
  have hlt3 : w.heap.size < w'.heap.size + 1 + 1 + 1 := by omega
  have c0 : w'.cell? ⟨w.heap.size, 0, none⟩ = some (.int .i64 0) := by simp [World.cell?, kb]
  have c1 : w'.cell? ⟨w.heap.size, 1, none⟩ = some (.int .i64 0) := by simp [World.cell?, kb]
  have c2 : w'.cell? ⟨w.heap.size, 2, none⟩ = some (.int .i64 0) := by simp [World.cell?, kb]
  have f0 : w'.frozen? ⟨w.heap.size, 0, none⟩ = false := by simp [World.frozen?, kb]
  have f1 : w'.frozen? ⟨w.heap.size, 1, none⟩ = false := by simp [World.frozen?, kb]
  have f2 : w'.frozen? ⟨w.heap.size, 2, none⟩ = false := by simp [World.frozen?, kb]
  clear hb kb
  go_wp2_with fail
  refine wp_loop_rounds 1 ?_
  rw [rounds_succ]
  go_wp2
  go_region
  all_goals (try go_wp2)
  all_goals
    refine bodyPost_ret (v := .tuple #[.agg #[.int .i64 16, .int .i64 5, .int .i64 10], .bool (shr .u64 a1 16 == 0)]) (by simp [results, Try.results57, go_sem, c0, c1, c2, shr, hlt, hlt1, hlt2, hlt3]) rfl ⟨rfl, ?_⟩
    repeat (first | exact B | apply Below.drew | refine Below.setCell ?_ (by exact Nat.le_refl _) _ | refine Below.alloc ?_ (by first | exact B.size | (have := B.size; simp [World.setCell]; omega)) _)

set_option maxRecDepth 100000 in
set_option maxHeartbeats 3200000 in
theorem fof32 (a1 : Int) (w : World) :
    Calls Try.prog 57 #[.int .i64 32, .int .u64 a1] w fun e w' => e = .returned (.tuple #[.agg #[.int .i64 32, .int .i64 8, .int .i64 23], .bool (shr .u64 a1 32 == 0)]) ∧ Below w.heap.size w w' := by
  have i0 : ∀ w, (Instr.index 103 wids (.int .i64 0)).run Try.prog w = .ok (.agg #[.int .i64 16, .int .i64 5, .int .i64 10]) w := fun _ => by kernel_rfl
  have i1 : ∀ w, (Instr.index 103 wids (.int .i64 1)).run Try.prog w = .ok (.agg #[.int .i64 32, .int .i64 8, .int .i64 23]) w := fun _ => by kernel_rfl
  go_enter Try.func57, Try.ntmps57
  go_wp2_with fail
  refine (widths_any _).mono ?_
  rintro e w' ⟨rfl, hb⟩
  have kb : w'.heap[w.heap.size]? = some (.cells #[.int .i64 0, .int .i64 0, .int .i64 0] 92 (0, 0)) := (hb.block _ (by simp)).trans (heap_alloc_new w _)
  have B : Below w.heap.size w w' := ((Below.refl w.heap.size w).alloc (Nat.le_refl _) _).trans (hb.mono (by simp))
  have hlt : w.heap.size < w'.heap.size := by have := hb.size; simp at this; omega
  have hlt1 : w.heap.size < w'.heap.size + 1 := by omega
  have hlt2 : w.heap.size < w'.heap.size + 1 + 1 := by omega
  have hlt3 : w.heap.size < w'.heap.size + 1 + 1 + 1 := by omega
  have c0 : w'.cell? ⟨w.heap.size, 0, none⟩ = some (.int .i64 0) := by simp [World.cell?, kb]
  have c1 : w'.cell? ⟨w.heap.size, 1, none⟩ = some (.int .i64 0) := by simp [World.cell?, kb]
  have c2 : w'.cell? ⟨w.heap.size, 2, none⟩ = some (.int .i64 0) := by simp [World.cell?, kb]
  have f0 : w'.frozen? ⟨w.heap.size, 0, none⟩ = false := by simp [World.frozen?, kb]
  have f1 : w'.frozen? ⟨w.heap.size, 1, none⟩ = false := by simp [World.frozen?, kb]
  have f2 : w'.frozen? ⟨w.heap.size, 2, none⟩ = false := by simp [World.frozen?, kb]
  clear hb kb
  go_wp2_with fail
  refine wp_loop_rounds 2 ?_
  rw [rounds_succ]
  go_wp2
  rw [rounds_succ]
  go_wp2
  go_region
  all_goals (try go_wp2)
  all_goals
    refine bodyPost_ret (v := .tuple #[.agg #[.int .i64 32, .int .i64 8, .int .i64 23], .bool (shr .u64 a1 32 == 0)]) (by simp [results, Try.results57, go_sem, c0, c1, c2, shr, hlt, hlt1, hlt2, hlt3]) rfl ⟨rfl, ?_⟩
    repeat (first | exact B | apply Below.drew | refine Below.setCell ?_ (by exact Nat.le_refl _) _ | refine Below.alloc ?_ (by first | exact B.size | (have := B.size; simp [World.setCell]; omega)) _)

set_option maxRecDepth 100000 in
set_option maxHeartbeats 3200000 in
theorem fof64 (a1 : Int) (w : World) :
    Calls Try.prog 57 #[.int .i64 64, .int .u64 a1] w fun e w' => e = .returned (.tuple #[.agg #[.int .i64 64, .int .i64 11, .int .i64 52], .bool true]) ∧ Below w.heap.size w w' := by
  have i0 : ∀ w, (Instr.index 103 wids (.int .i64 0)).run Try.prog w = .ok (.agg #[.int .i64 16, .int .i64 5, .int .i64 10]) w := fun _ => by kernel_rfl
  have i1 : ∀ w, (Instr.index 103 wids (.int .i64 1)).run Try.prog w = .ok (.agg #[.int .i64 32, .int .i64 8, .int .i64 23]) w := fun _ => by kernel_rfl
  have i2 : ∀ w, (Instr.index 103 wids (.int .i64 2)).run Try.prog w = .ok (.agg #[.int .i64 64, .int .i64 11, .int .i64 52]) w := fun _ => by kernel_rfl
  go_enter Try.func57, Try.ntmps57
  go_wp2_with fail
  refine (widths_any _).mono ?_
  rintro e w' ⟨rfl, hb⟩
  have kb : w'.heap[w.heap.size]? = some (.cells #[.int .i64 0, .int .i64 0, .int .i64 0] 92 (0, 0)) := (hb.block _ (by simp)).trans (heap_alloc_new w _)
  have B : Below w.heap.size w w' := ((Below.refl w.heap.size w).alloc (Nat.le_refl _) _).trans (hb.mono (by simp))
  have hlt : w.heap.size < w'.heap.size := by have := hb.size; simp at this; omega
  have hlt1 : w.heap.size < w'.heap.size + 1 := by omega
  have hlt2 : w.heap.size < w'.heap.size + 1 + 1 := by omega
  have hlt3 : w.heap.size < w'.heap.size + 1 + 1 + 1 := by omega
  have c0 : w'.cell? ⟨w.heap.size, 0, none⟩ = some (.int .i64 0) := by simp [World.cell?, kb]
  have c1 : w'.cell? ⟨w.heap.size, 1, none⟩ = some (.int .i64 0) := by simp [World.cell?, kb]
  have c2 : w'.cell? ⟨w.heap.size, 2, none⟩ = some (.int .i64 0) := by simp [World.cell?, kb]
  have f0 : w'.frozen? ⟨w.heap.size, 0, none⟩ = false := by simp [World.frozen?, kb]
  have f1 : w'.frozen? ⟨w.heap.size, 1, none⟩ = false := by simp [World.frozen?, kb]
  have f2 : w'.frozen? ⟨w.heap.size, 2, none⟩ = false := by simp [World.frozen?, kb]
  clear hb kb
  go_wp2_with fail
  refine wp_loop_rounds 3 ?_
  rw [rounds_succ]
  go_wp2
  rw [rounds_succ]
  go_wp2
  rw [rounds_succ]
  go_wp2
  go_region
  all_goals (try go_wp2)
  all_goals
    refine bodyPost_ret (v := .tuple #[.agg #[.int .i64 64, .int .i64 11, .int .i64 52], .bool true]) (by simp [results, Try.results57, go_sem, c0, c1, c2, shr, hlt, hlt1, hlt2, hlt3]) rfl ⟨rfl, ?_⟩
    repeat (first | exact B | apply Below.drew | refine Below.setCell ?_ (by exact Nat.le_refl _) _ | refine Below.alloc ?_ (by first | exact B.size | (have := B.size; simp [World.setCell]; omega)) _)

set_option maxRecDepth 100000 in
set_option maxHeartbeats 3200000 in
theorem fofno (a0 a1 : Int) (w : World) (h0 : (16 == a0) = false) (h1 : (32 == a0) = false) (h2 : (64 == a0) = false) :
    Calls Try.prog 57 #[.int .i64 a0, .int .u64 a1] w fun e w' => e = .returned (.tuple #[.agg #[.int .i64 0, .int .i64 0, .int .i64 0], .bool false]) ∧ Below w.heap.size w w' := by
  have i0 : ∀ w, (Instr.index 103 wids (.int .i64 0)).run Try.prog w = .ok (.agg #[.int .i64 16, .int .i64 5, .int .i64 10]) w := fun _ => by kernel_rfl
  have i1 : ∀ w, (Instr.index 103 wids (.int .i64 1)).run Try.prog w = .ok (.agg #[.int .i64 32, .int .i64 8, .int .i64 23]) w := fun _ => by kernel_rfl
  have i2 : ∀ w, (Instr.index 103 wids (.int .i64 2)).run Try.prog w = .ok (.agg #[.int .i64 64, .int .i64 11, .int .i64 52]) w := fun _ => by kernel_rfl
  go_enter Try.func57, Try.ntmps57
  go_wp2_with fail
  refine (widths_any _).mono ?_
  rintro e w' ⟨rfl, hb⟩
  have kb : w'.heap[w.heap.size]? = some (.cells #[.int .i64 0, .int .i64 0, .int .i64 0] 92 (0, 0)) := (hb.block _ (by simp)).trans (heap_alloc_new w _)
  have B : Below w.heap.size w w' := ((Below.refl w.heap.size w).alloc (Nat.le_refl _) _).trans (hb.mono (by simp))
  have hlt : w.heap.size < w'.heap.size := by have := hb.size; simp at this; omega
  have hlt1 : w.heap.size < w'.heap.size + 1 := by omega
  have hlt2 : w.heap.size < w'.heap.size + 1 + 1 := by omega
  have hlt3 : w.heap.size < w'.heap.size + 1 + 1 + 1 := by omega
  have c0 : w'.cell? ⟨w.heap.size, 0, none⟩ = some (.int .i64 0) := by simp [World.cell?, kb]
  have c1 : w'.cell? ⟨w.heap.size, 1, none⟩ = some (.int .i64 0) := by simp [World.cell?, kb]
  have c2 : w'.cell? ⟨w.heap.size, 2, none⟩ = some (.int .i64 0) := by simp [World.cell?, kb]
  have f0 : w'.frozen? ⟨w.heap.size, 0, none⟩ = false := by simp [World.frozen?, kb]
  have f1 : w'.frozen? ⟨w.heap.size, 1, none⟩ = false := by simp [World.frozen?, kb]
  have f2 : w'.frozen? ⟨w.heap.size, 2, none⟩ = false := by simp [World.frozen?, kb]
  clear hb kb
  go_wp2_with fail
  refine wp_loop_rounds 4 ?_
  rw [rounds_succ]
  go_wp2
  rw [rounds_succ]
  go_wp2
  rw [rounds_succ]
  go_wp2
  rw [rounds_succ]
  go_wp2
  refine bodyPost_ret (v := .tuple #[.agg #[.int .i64 0, .int .i64 0, .int .i64 0], .bool false]) (by simp [results, Try.results57, go_sem, c0, c1, c2, hlt, hlt1, hlt2, hlt3]) rfl ⟨rfl, ?_⟩
  repeat (first | exact B | apply Below.drew | refine Below.setCell ?_ (by exact Nat.le_refl _) _ | refine Below.alloc ?_ (by first | exact B.size | (have := B.size; simp [World.setCell]; omega)) _)

theorem fbits_of.calls (a0 a1 : Int) (r1 r2 r3 : Int) (r4 : Bool) (w : World) (h : fbits_of.f a0 a1 = some (r1, r2, r3, r4)) :
    Calls Try.prog 57 #[.int .i64 a0, .int .u64 a1] w fun e w' => e = .returned (.tuple #[.agg #[.int .i64 r1, .int .i64 r2, .int .i64 r3], .bool r4]) ∧ Below w.heap.size w w' := by
  unfold fbits_of.f at h
  by_cases k0 : a0 = 16
  · subst k0; rw [if_pos rfl] at h; simp only [Option.some.injEq, Prod.mk.injEq] at h; obtain ⟨rfl, rfl, rfl, rfl⟩ := h; exact fof16 a1 w
  rw [if_neg k0] at h
  by_cases k1 : a0 = 32
  · subst k1; rw [if_pos rfl] at h; simp only [Option.some.injEq, Prod.mk.injEq] at h; obtain ⟨rfl, rfl, rfl, rfl⟩ := h; exact fof32 a1 w
  rw [if_neg k1] at h
  by_cases k2 : a0 = 64
  · subst k2; rw [if_pos rfl] at h; simp only [Option.some.injEq, Prod.mk.injEq] at h; obtain ⟨rfl, rfl, rfl, rfl⟩ := h; exact fof64 a1 w
  rw [if_neg k2] at h
  simp only [Option.some.injEq, Prod.mk.injEq] at h; obtain ⟨rfl, rfl, rfl, rfl⟩ := h
  exact fofno a0 a1 w (beq_eq_false_iff_ne.2 (Ne.symm k0)) (beq_eq_false_iff_ne.2 (Ne.symm k1)) (beq_eq_false_iff_ne.2 (Ne.symm k2))
end Go.Proofs.Ytfcfnnkepjoncaa.Hand
