import Derived.Test.YtfcfnnkepjoncaaHand6
import Derived.Deep.LoopGhost
import Derived.Laws.Rows
import Derived.Lib.Hide
import Derived.Deep.CutBlock
import Derived.Deep.DeepCutAuto
import Derived.Laws.Tables
import Derived.Deep.WholeRow
namespace Go.Proofs.Ytfcfnnkepjoncaa.Hand
open Go.RowKit Go.Proofs.YtfcfnnkepjoncaaW.PrintWords Go.Proofs.YtfcfnnkepjoncaaW.PrintLast Go.Proofs.YtfcfnnkepjoncaaW.PrintMore
set_option linter.unusedVariables false
set_option linter.unusedSimpArgs false

def leadsA : Array Value := #[.int .u8 0, .int .u8 127, .int .i64 1, .int .u8 0, .int .u8 0, .int .u8 194, .int .u8 223, .int .i64 2, .int .u8 128, .int .u8 191, .int .u8 224, .int .u8 224, .int .i64 3, .int .u8 160, .int .u8 191, .int .u8 225, .int .u8 236, .int .i64 3, .int .u8 128, .int .u8 191, .int .u8 237, .int .u8 237, .int .i64 3, .int .u8 128, .int .u8 159, .int .u8 238, .int .u8 239, .int .i64 3, .int .u8 128, .int .u8 191, .int .u8 240, .int .u8 240, .int .i64 4, .int .u8 144, .int .u8 191, .int .u8 241, .int .u8 243, .int .i64 4, .int .u8 128, .int .u8 191, .int .u8 244, .int .u8 244, .int .i64 4, .int .u8 128, .int .u8 143]
def leads : Value := .agg leadsA
theorem build_at {P : Program} {ops : Array Oper} {rest : List Oper} {o : Oper} {tm : Array Value} {ds : List Deferred} {w : World} {Q : Exit → Act → World → Prop} (hg : o.guard = none) (t : TypeId) (parts : Array (Nat × Operand)) (ho : o.op = .build t parts) (row : Array Value) (tm' : Array Value)
    (hf : P.built t (parts.map fun (i, x) => (i, (⟨tm, ds⟩ : Act).eval x)).toList = some row) (hp : (⟨tm, ds⟩ : Act).put o.dst (.agg row) = ⟨tm', ds⟩)
    (h : wpList P ops Q rest ⟨tm', ds⟩ w) : wpList P ops Q (o :: rest) ⟨tm, ds⟩ w :=
  wpList_build hg t parts ho (by rw [hf]; rfl) (by rw [hf]; show wpList P ops Q rest ((⟨tm, ds⟩ : Act).put o.dst (.agg row)) w; rw [hp]; exact h)
set_option maxRecDepth 100000 in
set_option maxHeartbeats 3200000 in
theorem leads_any (w : World) : Calls Try.prog 63 #[] w fun e w' => e = .returned leads ∧ Below w.heap.size w w' := by
  go_enter Try.func63, Try.ntmps63
  go_upto_region 1 with (fail)
  refine wp_region_list ?_
  refine build_at rfl 101 _ rfl #[.int .u8 0, .int .u8 127, .int .i64 1, .int .u8 0, .int .u8 0] #[.pointer (some ⟨w.heap.size, 0, none⟩), .agg #[.int .u8 0, .int .u8 127, .int .i64 1, .int .u8 0, .int .u8 0], undef, undef, undef, undef, undef, undef, undef, undef, undef] (by kernel_rfl) (by kernel_rfl) ?_
  refine build_at rfl 101 _ rfl #[.int .u8 194, .int .u8 223, .int .i64 2, .int .u8 128, .int .u8 191] #[.pointer (some ⟨w.heap.size, 0, none⟩), .agg #[.int .u8 0, .int .u8 127, .int .i64 1, .int .u8 0, .int .u8 0], .agg #[.int .u8 194, .int .u8 223, .int .i64 2, .int .u8 128, .int .u8 191], undef, undef, undef, undef, undef, undef, undef, undef] (by kernel_rfl) (by kernel_rfl) ?_
  refine build_at rfl 101 _ rfl #[.int .u8 224, .int .u8 224, .int .i64 3, .int .u8 160, .int .u8 191] #[.pointer (some ⟨w.heap.size, 0, none⟩), .agg #[.int .u8 0, .int .u8 127, .int .i64 1, .int .u8 0, .int .u8 0], .agg #[.int .u8 194, .int .u8 223, .int .i64 2, .int .u8 128, .int .u8 191], .agg #[.int .u8 224, .int .u8 224, .int .i64 3, .int .u8 160, .int .u8 191], undef, undef, undef, undef, undef, undef, undef] (by kernel_rfl) (by kernel_rfl) ?_
  refine build_at rfl 101 _ rfl #[.int .u8 225, .int .u8 236, .int .i64 3, .int .u8 128, .int .u8 191] #[.pointer (some ⟨w.heap.size, 0, none⟩), .agg #[.int .u8 0, .int .u8 127, .int .i64 1, .int .u8 0, .int .u8 0], .agg #[.int .u8 194, .int .u8 223, .int .i64 2, .int .u8 128, .int .u8 191], .agg #[.int .u8 224, .int .u8 224, .int .i64 3, .int .u8 160, .int .u8 191], .agg #[.int .u8 225, .int .u8 236, .int .i64 3, .int .u8 128, .int .u8 191], undef, undef, undef, undef, undef, undef] (by kernel_rfl) (by kernel_rfl) ?_
  refine build_at rfl 101 _ rfl #[.int .u8 237, .int .u8 237, .int .i64 3, .int .u8 128, .int .u8 159] #[.pointer (some ⟨w.heap.size, 0, none⟩), .agg #[.int .u8 0, .int .u8 127, .int .i64 1, .int .u8 0, .int .u8 0], .agg #[.int .u8 194, .int .u8 223, .int .i64 2, .int .u8 128, .int .u8 191], .agg #[.int .u8 224, .int .u8 224, .int .i64 3, .int .u8 160, .int .u8 191], .agg #[.int .u8 225, .int .u8 236, .int .i64 3, .int .u8 128, .int .u8 191], .agg #[.int .u8 237, .int .u8 237, .int .i64 3, .int .u8 128, .int .u8 159], undef, undef, undef, undef, undef] (by kernel_rfl) (by kernel_rfl) ?_
  refine build_at rfl 101 _ rfl #[.int .u8 238, .int .u8 239, .int .i64 3, .int .u8 128, .int .u8 191] #[.pointer (some ⟨w.heap.size, 0, none⟩), .agg #[.int .u8 0, .int .u8 127, .int .i64 1, .int .u8 0, .int .u8 0], .agg #[.int .u8 194, .int .u8 223, .int .i64 2, .int .u8 128, .int .u8 191], .agg #[.int .u8 224, .int .u8 224, .int .i64 3, .int .u8 160, .int .u8 191], .agg #[.int .u8 225, .int .u8 236, .int .i64 3, .int .u8 128, .int .u8 191], .agg #[.int .u8 237, .int .u8 237, .int .i64 3, .int .u8 128, .int .u8 159], .agg #[.int .u8 238, .int .u8 239, .int .i64 3, .int .u8 128, .int .u8 191], undef, undef, undef, undef] (by kernel_rfl) (by kernel_rfl) ?_
  refine build_at rfl 101 _ rfl #[.int .u8 240, .int .u8 240, .int .i64 4, .int .u8 144, .int .u8 191] #[.pointer (some ⟨w.heap.size, 0, none⟩), .agg #[.int .u8 0, .int .u8 127, .int .i64 1, .int .u8 0, .int .u8 0], .agg #[.int .u8 194, .int .u8 223, .int .i64 2, .int .u8 128, .int .u8 191], .agg #[.int .u8 224, .int .u8 224, .int .i64 3, .int .u8 160, .int .u8 191], .agg #[.int .u8 225, .int .u8 236, .int .i64 3, .int .u8 128, .int .u8 191], .agg #[.int .u8 237, .int .u8 237, .int .i64 3, .int .u8 128, .int .u8 159], .agg #[.int .u8 238, .int .u8 239, .int .i64 3, .int .u8 128, .int .u8 191], .agg #[.int .u8 240, .int .u8 240, .int .i64 4, .int .u8 144, .int .u8 191], undef, undef, undef] (by kernel_rfl) (by kernel_rfl) ?_
  refine build_at rfl 101 _ rfl #[.int .u8 241, .int .u8 243, .int .i64 4, .int .u8 128, .int .u8 191] #[.pointer (some ⟨w.heap.size, 0, none⟩), .agg #[.int .u8 0, .int .u8 127, .int .i64 1, .int .u8 0, .int .u8 0], .agg #[.int .u8 194, .int .u8 223, .int .i64 2, .int .u8 128, .int .u8 191], .agg #[.int .u8 224, .int .u8 224, .int .i64 3, .int .u8 160, .int .u8 191], .agg #[.int .u8 225, .int .u8 236, .int .i64 3, .int .u8 128, .int .u8 191], .agg #[.int .u8 237, .int .u8 237, .int .i64 3, .int .u8 128, .int .u8 159], .agg #[.int .u8 238, .int .u8 239, .int .i64 3, .int .u8 128, .int .u8 191], .agg #[.int .u8 240, .int .u8 240, .int .i64 4, .int .u8 144, .int .u8 191], .agg #[.int .u8 241, .int .u8 243, .int .i64 4, .int .u8 128, .int .u8 191], undef, undef] (by kernel_rfl) (by kernel_rfl) ?_
  refine build_at rfl 101 _ rfl #[.int .u8 244, .int .u8 244, .int .i64 4, .int .u8 128, .int .u8 143] #[.pointer (some ⟨w.heap.size, 0, none⟩), .agg #[.int .u8 0, .int .u8 127, .int .i64 1, .int .u8 0, .int .u8 0], .agg #[.int .u8 194, .int .u8 223, .int .i64 2, .int .u8 128, .int .u8 191], .agg #[.int .u8 224, .int .u8 224, .int .i64 3, .int .u8 160, .int .u8 191], .agg #[.int .u8 225, .int .u8 236, .int .i64 3, .int .u8 128, .int .u8 191], .agg #[.int .u8 237, .int .u8 237, .int .i64 3, .int .u8 128, .int .u8 159], .agg #[.int .u8 238, .int .u8 239, .int .i64 3, .int .u8 128, .int .u8 191], .agg #[.int .u8 240, .int .u8 240, .int .i64 4, .int .u8 144, .int .u8 191], .agg #[.int .u8 241, .int .u8 243, .int .i64 4, .int .u8 128, .int .u8 191], .agg #[.int .u8 244, .int .u8 244, .int .i64 4, .int .u8 128, .int .u8 143], undef] (by kernel_rfl) (by kernel_rfl) ?_
  refine build_at rfl 106 _ rfl leadsA #[.pointer (some ⟨w.heap.size, 0, none⟩), .agg #[.int .u8 0, .int .u8 127, .int .i64 1, .int .u8 0, .int .u8 0], .agg #[.int .u8 194, .int .u8 223, .int .i64 2, .int .u8 128, .int .u8 191], .agg #[.int .u8 224, .int .u8 224, .int .i64 3, .int .u8 160, .int .u8 191], .agg #[.int .u8 225, .int .u8 236, .int .i64 3, .int .u8 128, .int .u8 191], .agg #[.int .u8 237, .int .u8 237, .int .i64 3, .int .u8 128, .int .u8 159], .agg #[.int .u8 238, .int .u8 239, .int .i64 3, .int .u8 128, .int .u8 191], .agg #[.int .u8 240, .int .u8 240, .int .i64 4, .int .u8 144, .int .u8 191], .agg #[.int .u8 241, .int .u8 243, .int .i64 4, .int .u8 128, .int .u8 191], .agg #[.int .u8 244, .int .u8 244, .int .i64 4, .int .u8 128, .int .u8 143], .agg leadsA] (by kernel_rfl) (by kernel_rfl) ?_
  refine wpList_store_row rfl 106 (.tmp 0) (.tmp 10) rfl w.heap.size leadsA rfl rfl 106 _ (heap_alloc_new _ _) (by kernel_rfl) rfl (by kernel_rfl) ?_
  rw [World.setRow_alloc_new]
  refine wpList_nil ?_
  rename_i K hK
  refine hK _ _ ?_
  refine wp_ret ?_
  refine bodyPost_ret (v := leads) (results_cell_row Try.results63 _ _ w.heap.size 106 leadsA (0, 0) _ rfl (heap_alloc_new _ _) Try.underlying106 rfl (by kernel_rfl)) rfl ⟨rfl, ?_⟩
  exact (Below.refl _ _).alloc (Nat.le_refl _) _

theorem lead0 : ∀ w, (Instr.index 106 leads (.int .i64 0)).run Try.prog w = .ok (.agg #[.int .u8 0, .int .u8 127, .int .i64 1, .int .u8 0, .int .u8 0]) w := fun _ => by kernel_rfl
theorem lead1 : ∀ w, (Instr.index 106 leads (.int .i64 1)).run Try.prog w = .ok (.agg #[.int .u8 194, .int .u8 223, .int .i64 2, .int .u8 128, .int .u8 191]) w := fun _ => by kernel_rfl
theorem lead2 : ∀ w, (Instr.index 106 leads (.int .i64 2)).run Try.prog w = .ok (.agg #[.int .u8 224, .int .u8 224, .int .i64 3, .int .u8 160, .int .u8 191]) w := fun _ => by kernel_rfl
theorem lead3 : ∀ w, (Instr.index 106 leads (.int .i64 3)).run Try.prog w = .ok (.agg #[.int .u8 225, .int .u8 236, .int .i64 3, .int .u8 128, .int .u8 191]) w := fun _ => by kernel_rfl
theorem lead4 : ∀ w, (Instr.index 106 leads (.int .i64 4)).run Try.prog w = .ok (.agg #[.int .u8 237, .int .u8 237, .int .i64 3, .int .u8 128, .int .u8 159]) w := fun _ => by kernel_rfl
theorem lead5 : ∀ w, (Instr.index 106 leads (.int .i64 5)).run Try.prog w = .ok (.agg #[.int .u8 238, .int .u8 239, .int .i64 3, .int .u8 128, .int .u8 191]) w := fun _ => by kernel_rfl
theorem lead6 : ∀ w, (Instr.index 106 leads (.int .i64 6)).run Try.prog w = .ok (.agg #[.int .u8 240, .int .u8 240, .int .i64 4, .int .u8 144, .int .u8 191]) w := fun _ => by kernel_rfl
theorem lead7 : ∀ w, (Instr.index 106 leads (.int .i64 7)).run Try.prog w = .ok (.agg #[.int .u8 241, .int .u8 243, .int .i64 4, .int .u8 128, .int .u8 191]) w := fun _ => by kernel_rfl
theorem lead8 : ∀ w, (Instr.index 106 leads (.int .i64 8)).run Try.prog w = .ok (.agg #[.int .u8 244, .int .u8 244, .int .i64 4, .int .u8 128, .int .u8 143]) w := fun _ => by kernel_rfl
/-- the row of a first byte -/
def rowK (c : Int) : Int × Int × Int × Int × Int :=
  if 0 ≤ c ∧ c ≤ 127 then (0, 127, 1, 0, 0) else if 194 ≤ c ∧ c ≤ 223 then (194, 223, 2, 128, 191) else if 224 ≤ c ∧ c ≤ 224 then (224, 224, 3, 160, 191) else if 225 ≤ c ∧ c ≤ 236 then (225, 236, 3, 128, 191) else if 237 ≤ c ∧ c ≤ 237 then (237, 237, 3, 128, 159) else if 238 ≤ c ∧ c ≤ 239 then (238, 239, 3, 128, 191) else if 240 ≤ c ∧ c ≤ 240 then (240, 240, 4, 144, 191) else if 241 ≤ c ∧ c ≤ 243 then (241, 243, 4, 128, 191) else if 244 ≤ c ∧ c ≤ 244 then (244, 244, 4, 128, 143) else (0, 0, 0, 0, 0)
def utf_row.f (a0 : Int) : Option (Int × Int × Int × Int × Int) := some (rowK a0)
/-- no row of the first j has the byte -/
def NoRow (j : Nat) (c : Int) : Prop := (0 < j → ¬ (0 ≤ c ∧ c ≤ 127)) ∧ (1 < j → ¬ (194 ≤ c ∧ c ≤ 223)) ∧ (2 < j → ¬ (224 ≤ c ∧ c ≤ 224)) ∧ (3 < j → ¬ (225 ≤ c ∧ c ≤ 236)) ∧ (4 < j → ¬ (237 ≤ c ∧ c ≤ 237)) ∧ (5 < j → ¬ (238 ≤ c ∧ c ≤ 239)) ∧ (6 < j → ¬ (240 ≤ c ∧ c ≤ 240)) ∧ (7 < j → ¬ (241 ≤ c ∧ c ≤ 243)) ∧ (8 < j → ¬ (244 ≤ c ∧ c ≤ 244))
def RowPost (c : Int) (w : World) (e : Ending) (w' : World) : Prop := e = .returned (.agg #[.int .u8 (rowK c).1, .int .u8 (rowK c).2.1, .int .i64 (rowK c).2.2.1, .int .u8 (rowK c).2.2.2.1, .int .u8 (rowK c).2.2.2.2]) ∧ Below w.heap.size w w'
theorem rowEnd {c : Int} {w W : World} {r1 r2 r3 r4 r5 : Int} (h : rowK c = (r1, r2, r3, r4, r5)) (B : Below w.heap.size w W) : RowPost c w (.returned (.agg #[.int .u8 r1, .int .u8 r2, .int .i64 r3, .int .u8 r4, .int .u8 r5])) W := by
  unfold RowPost; rw [h]; exact ⟨rfl, B⟩
theorem rowK0 {c : Int} (hn : NoRow 0 c) (h : 0 ≤ c ∧ c ≤ 127) : rowK c = (0, 127, 1, 0, 0) := by
  unfold NoRow at hn; unfold rowK
  rw [if_pos h]
theorem noRow0 {c : Int} (hn : NoRow 0 c) (h : ¬ (0 ≤ c ∧ c ≤ 127)) : NoRow 1 c := by unfold NoRow at *; omega
theorem rowK1 {c : Int} (hn : NoRow 1 c) (h : 194 ≤ c ∧ c ≤ 223) : rowK c = (194, 223, 2, 128, 191) := by
  unfold NoRow at hn; unfold rowK
  rw [if_neg (by omega)]; rw [if_pos h]
theorem noRow1 {c : Int} (hn : NoRow 1 c) (h : ¬ (194 ≤ c ∧ c ≤ 223)) : NoRow 2 c := by unfold NoRow at *; omega
theorem rowK2 {c : Int} (hn : NoRow 2 c) (h : 224 ≤ c ∧ c ≤ 224) : rowK c = (224, 224, 3, 160, 191) := by
  unfold NoRow at hn; unfold rowK
  rw [if_neg (by omega)]; rw [if_neg (by omega)]; rw [if_pos h]
theorem noRow2 {c : Int} (hn : NoRow 2 c) (h : ¬ (224 ≤ c ∧ c ≤ 224)) : NoRow 3 c := by unfold NoRow at *; omega
theorem rowK3 {c : Int} (hn : NoRow 3 c) (h : 225 ≤ c ∧ c ≤ 236) : rowK c = (225, 236, 3, 128, 191) := by
  unfold NoRow at hn; unfold rowK
  rw [if_neg (by omega)]; rw [if_neg (by omega)]; rw [if_neg (by omega)]; rw [if_pos h]
theorem noRow3 {c : Int} (hn : NoRow 3 c) (h : ¬ (225 ≤ c ∧ c ≤ 236)) : NoRow 4 c := by unfold NoRow at *; omega
theorem rowK4 {c : Int} (hn : NoRow 4 c) (h : 237 ≤ c ∧ c ≤ 237) : rowK c = (237, 237, 3, 128, 159) := by
  unfold NoRow at hn; unfold rowK
  rw [if_neg (by omega)]; rw [if_neg (by omega)]; rw [if_neg (by omega)]; rw [if_neg (by omega)]; rw [if_pos h]
theorem noRow4 {c : Int} (hn : NoRow 4 c) (h : ¬ (237 ≤ c ∧ c ≤ 237)) : NoRow 5 c := by unfold NoRow at *; omega
theorem rowK5 {c : Int} (hn : NoRow 5 c) (h : 238 ≤ c ∧ c ≤ 239) : rowK c = (238, 239, 3, 128, 191) := by
  unfold NoRow at hn; unfold rowK
  rw [if_neg (by omega)]; rw [if_neg (by omega)]; rw [if_neg (by omega)]; rw [if_neg (by omega)]; rw [if_neg (by omega)]; rw [if_pos h]
theorem noRow5 {c : Int} (hn : NoRow 5 c) (h : ¬ (238 ≤ c ∧ c ≤ 239)) : NoRow 6 c := by unfold NoRow at *; omega
theorem rowK6 {c : Int} (hn : NoRow 6 c) (h : 240 ≤ c ∧ c ≤ 240) : rowK c = (240, 240, 4, 144, 191) := by
  unfold NoRow at hn; unfold rowK
  rw [if_neg (by omega)]; rw [if_neg (by omega)]; rw [if_neg (by omega)]; rw [if_neg (by omega)]; rw [if_neg (by omega)]; rw [if_neg (by omega)]; rw [if_pos h]
theorem noRow6 {c : Int} (hn : NoRow 6 c) (h : ¬ (240 ≤ c ∧ c ≤ 240)) : NoRow 7 c := by unfold NoRow at *; omega
theorem rowK7 {c : Int} (hn : NoRow 7 c) (h : 241 ≤ c ∧ c ≤ 243) : rowK c = (241, 243, 4, 128, 191) := by
  unfold NoRow at hn; unfold rowK
  rw [if_neg (by omega)]; rw [if_neg (by omega)]; rw [if_neg (by omega)]; rw [if_neg (by omega)]; rw [if_neg (by omega)]; rw [if_neg (by omega)]; rw [if_neg (by omega)]; rw [if_pos h]
theorem noRow7 {c : Int} (hn : NoRow 7 c) (h : ¬ (241 ≤ c ∧ c ≤ 243)) : NoRow 8 c := by unfold NoRow at *; omega
theorem rowK8 {c : Int} (hn : NoRow 8 c) (h : 244 ≤ c ∧ c ≤ 244) : rowK c = (244, 244, 4, 128, 143) := by
  unfold NoRow at hn; unfold rowK
  rw [if_neg (by omega)]; rw [if_neg (by omega)]; rw [if_neg (by omega)]; rw [if_neg (by omega)]; rw [if_neg (by omega)]; rw [if_neg (by omega)]; rw [if_neg (by omega)]; rw [if_neg (by omega)]; rw [if_pos h]
theorem noRow8 {c : Int} (hn : NoRow 8 c) (h : ¬ (244 ≤ c ∧ c ≤ 244)) : NoRow 9 c := by unfold NoRow at *; omega
theorem rowK9 {c : Int} (hn : NoRow 9 c) : rowK c = (0, 0, 0, 0, 0) := by
  unfold NoRow at hn; unfold rowK
  rw [if_neg (by omega)]; rw [if_neg (by omega)]; rw [if_neg (by omega)]; rw [if_neg (by omega)]; rw [if_neg (by omega)]; rw [if_neg (by omega)]; rw [if_neg (by omega)]; rw [if_neg (by omega)]; rw [if_neg (by omega)]
theorem lt_of_block' {w : World} {b : Nat} {o : Obj} (h : w.heap[b]? = some o) : b < w.heap.size := lt_of_block h
theorem alloc_keep {w : World} {k : Nat} {x : Obj} (h : w.heap[k]? = some x) (o : Obj) : (w.alloc o).heap[k]? = some x := by rw [Below.heap_alloc _ _ _ (lt_of_block h)]; exact h
theorem row_block {w : World} {g : Nat} {a b c d e : Value} {t : TypeId} (h : w.heap[g]? = some (.cells #[a, b, c, d, e] t (0, 0))) (x0 x1 x2 x3 x4 : Value) :
    (((((w.setCell ⟨g, 0, none⟩ x0).setCell ⟨g, 1, none⟩ x1).setCell ⟨g, 2, none⟩ x2).setCell ⟨g, 3, none⟩ x3).setCell ⟨g, 4, none⟩ x4).heap[g]? = some (.cells #[x0, x1, x2, x3, x4] t (0, 0)) := by
  have h0 := heap_setCell_same w g 0 _ t x0 h
  have h1 := heap_setCell_same _ g 1 _ t x1 h0
  have h2 := heap_setCell_same _ g 2 _ t x2 h1
  have h3 := heap_setCell_same _ g 3 _ t x3 h2
  have h4 := heap_setCell_same _ g 4 _ t x4 h3
  simpa using h4

set_option maxRecDepth 100000 in
set_option maxHeartbeats 16000000 in
theorem row_any (c : Int) (w : World) : Calls Try.prog 60 #[.int .u8 c] w (RowPost c w) := by
  go_enter Try.func60, Try.ntmps60
  go_wp2_with fail
  refine (leads_any _).mono ?_
  rintro e w' ⟨rfl, hb⟩
  have kb : w'.heap[w.heap.size]? = some (.cells #[.int .u8 0, .int .u8 0, .int .i64 0, .int .u8 0, .int .u8 0] 101 (0, 0)) := (hb.block _ (by simp)).trans (heap_alloc_new w _)
  have B : Below w.heap.size w w' := ((Below.refl w.heap.size w).alloc (Nat.le_refl _) _).trans (hb.mono (by simp))
  clear hb
  go_wp2_with fail
  go_loopg [4, 6] 9 (fun kq v4 v6 wr => ∃ j : Nat, v6 = .int .i64 j ∧ j + kq = 9 ∧ NoRow j c ∧ wr.heap[w.heap.size]? = some (.cells #[.int .u8 0, .int .u8 0, .int .i64 0, .int .u8 0, .int .u8 0] 101 (0, 0)) ∧ Below w.heap.size w wr)
  case atStart => exact ⟨0, rfl, rfl, by unfold NoRow; omega, kb, B⟩
  case round =>
    clear kb B
    obtain ⟨j, rfl, hj, hn, kb, B⟩ := hrel
    have hlt := lt_of_block kb
    have c0 : wr.cell? ⟨w.heap.size, 0, none⟩ = some (.int .u8 0) := by simp [World.cell?, kb]
    have c1 : wr.cell? ⟨w.heap.size, 1, none⟩ = some (.int .u8 0) := by simp [World.cell?, kb]
    have c2 : wr.cell? ⟨w.heap.size, 2, none⟩ = some (.int .i64 0) := by simp [World.cell?, kb]
    have c3 : wr.cell? ⟨w.heap.size, 3, none⟩ = some (.int .u8 0) := by simp [World.cell?, kb]
    have c4 : wr.cell? ⟨w.heap.size, 4, none⟩ = some (.int .u8 0) := by simp [World.cell?, kb]
    have f0 : wr.frozen? ⟨w.heap.size, 0, none⟩ = false := by simp [World.frozen?, kb]
    have f1 : wr.frozen? ⟨w.heap.size, 1, none⟩ = false := by simp [World.frozen?, kb]
    have f2 : wr.frozen? ⟨w.heap.size, 2, none⟩ = false := by simp [World.frozen?, kb]
    have f3 : wr.frozen? ⟨w.heap.size, 3, none⟩ = false := by simp [World.frozen?, kb]
    have f4 : wr.frozen? ⟨w.heap.size, 4, none⟩ = false := by simp [World.frozen?, kb]
    have hB := B.size
    rcases (show j = 0 ∨ j = 1 ∨ j = 2 ∨ j = 3 ∨ j = 4 ∨ j = 5 ∨ j = 6 ∨ j = 7 ∨ j = 8 ∨ j = 9 by omega) with rfl | rfl | rfl | rfl | rfl | rfl | rfl | rfl | rfl | rfl
    · obtain rfl : gk = 9 := by omega
      have i0 := lead0
      have HN := Lib.hid hn
      clear hn hj
      by_cases hm : 0 ≤ c ∧ c ≤ 127
      · have HF := Lib.hid (rowK0 HN.out hm)
        obtain ⟨m1, m2⟩ := hm
        clear HN
        go_wp2
        refine bodyPost_ret (v := .agg #[.int .u8 0, .int .u8 127, .int .i64 1, .int .u8 0, .int .u8 0]) (results_cell_row Try.results60 _ _ w.heap.size 101 _ (0, 0) _ rfl (alloc_keep (row_block kb _ _ _ _ _) _) Try.underlying101 rfl (by kernel_rfl)) rfl (rowEnd HF.out ?_)
        exact (((((B.setCell (by exact Nat.le_refl _) _).setCell (by exact Nat.le_refl _) _).setCell (by exact Nat.le_refl _) _).setCell (by exact Nat.le_refl _) _).setCell (by exact Nat.le_refl _) _).alloc (by simpa [World.setCell] using hB) _
      · have HF := Lib.hid (noRow0 HN.out hm)
        clear HN
        have hm2 : c < 0 ∨ (0 ≤ c ∧ 127 < c) := by omega
        clear hm
        have kb2 := alloc_keep kb (.cells #[.int .u8 0, .int .u8 127, .int .i64 1, .int .u8 0, .int .u8 0] 101)
        have B2 := B.alloc hB (.cells #[.int .u8 0, .int .u8 127, .int .i64 1, .int .u8 0, .int .u8 0] 101)
        clear kb B
        rcases hm2 with m1 | ⟨m1, m2⟩
        all_goals
          go_wp2
          go_roundg 8
          case measure => omega
          case rel => exact ⟨1, rfl, rfl, HF.out, kb2, B2⟩
    · obtain rfl : gk = 8 := by omega
      have i0 := lead1
      have HN := Lib.hid hn
      clear hn hj
      by_cases hm : 194 ≤ c ∧ c ≤ 223
      · have HF := Lib.hid (rowK1 HN.out hm)
        obtain ⟨m1, m2⟩ := hm
        clear HN
        go_wp2
        refine bodyPost_ret (v := .agg #[.int .u8 194, .int .u8 223, .int .i64 2, .int .u8 128, .int .u8 191]) (results_cell_row Try.results60 _ _ w.heap.size 101 _ (0, 0) _ rfl (alloc_keep (row_block kb _ _ _ _ _) _) Try.underlying101 rfl (by kernel_rfl)) rfl (rowEnd HF.out ?_)
        exact (((((B.setCell (by exact Nat.le_refl _) _).setCell (by exact Nat.le_refl _) _).setCell (by exact Nat.le_refl _) _).setCell (by exact Nat.le_refl _) _).setCell (by exact Nat.le_refl _) _).alloc (by simpa [World.setCell] using hB) _
      · have HF := Lib.hid (noRow1 HN.out hm)
        clear HN
        have hm2 : c < 194 ∨ (194 ≤ c ∧ 223 < c) := by omega
        clear hm
        have kb2 := alloc_keep kb (.cells #[.int .u8 194, .int .u8 223, .int .i64 2, .int .u8 128, .int .u8 191] 101)
        have B2 := B.alloc hB (.cells #[.int .u8 194, .int .u8 223, .int .i64 2, .int .u8 128, .int .u8 191] 101)
        clear kb B
        rcases hm2 with m1 | ⟨m1, m2⟩
        all_goals
          go_wp2
          go_roundg 7
          case measure => omega
          case rel => exact ⟨2, rfl, rfl, HF.out, kb2, B2⟩
    · obtain rfl : gk = 7 := by omega
      have i0 := lead2
      have HN := Lib.hid hn
      clear hn hj
      by_cases hm : 224 ≤ c ∧ c ≤ 224
      · have HF := Lib.hid (rowK2 HN.out hm)
        obtain ⟨m1, m2⟩ := hm
        clear HN
        go_wp2
        refine bodyPost_ret (v := .agg #[.int .u8 224, .int .u8 224, .int .i64 3, .int .u8 160, .int .u8 191]) (results_cell_row Try.results60 _ _ w.heap.size 101 _ (0, 0) _ rfl (alloc_keep (row_block kb _ _ _ _ _) _) Try.underlying101 rfl (by kernel_rfl)) rfl (rowEnd HF.out ?_)
        exact (((((B.setCell (by exact Nat.le_refl _) _).setCell (by exact Nat.le_refl _) _).setCell (by exact Nat.le_refl _) _).setCell (by exact Nat.le_refl _) _).setCell (by exact Nat.le_refl _) _).alloc (by simpa [World.setCell] using hB) _
      · have HF := Lib.hid (noRow2 HN.out hm)
        clear HN
        have hm2 : c < 224 ∨ (224 ≤ c ∧ 224 < c) := by omega
        clear hm
        have kb2 := alloc_keep kb (.cells #[.int .u8 224, .int .u8 224, .int .i64 3, .int .u8 160, .int .u8 191] 101)
        have B2 := B.alloc hB (.cells #[.int .u8 224, .int .u8 224, .int .i64 3, .int .u8 160, .int .u8 191] 101)
        clear kb B
        rcases hm2 with m1 | ⟨m1, m2⟩
        all_goals
          go_wp2
          go_roundg 6
          case measure => omega
          case rel => exact ⟨3, rfl, rfl, HF.out, kb2, B2⟩
    · obtain rfl : gk = 6 := by omega
      have i0 := lead3
      have HN := Lib.hid hn
      clear hn hj
      by_cases hm : 225 ≤ c ∧ c ≤ 236
      · have HF := Lib.hid (rowK3 HN.out hm)
        obtain ⟨m1, m2⟩ := hm
        clear HN
        go_wp2
        refine bodyPost_ret (v := .agg #[.int .u8 225, .int .u8 236, .int .i64 3, .int .u8 128, .int .u8 191]) (results_cell_row Try.results60 _ _ w.heap.size 101 _ (0, 0) _ rfl (alloc_keep (row_block kb _ _ _ _ _) _) Try.underlying101 rfl (by kernel_rfl)) rfl (rowEnd HF.out ?_)
        exact (((((B.setCell (by exact Nat.le_refl _) _).setCell (by exact Nat.le_refl _) _).setCell (by exact Nat.le_refl _) _).setCell (by exact Nat.le_refl _) _).setCell (by exact Nat.le_refl _) _).alloc (by simpa [World.setCell] using hB) _
      · have HF := Lib.hid (noRow3 HN.out hm)
        clear HN
        have hm2 : c < 225 ∨ (225 ≤ c ∧ 236 < c) := by omega
        clear hm
        have kb2 := alloc_keep kb (.cells #[.int .u8 225, .int .u8 236, .int .i64 3, .int .u8 128, .int .u8 191] 101)
        have B2 := B.alloc hB (.cells #[.int .u8 225, .int .u8 236, .int .i64 3, .int .u8 128, .int .u8 191] 101)
        clear kb B
        rcases hm2 with m1 | ⟨m1, m2⟩
        all_goals
          go_wp2
          go_roundg 5
          case measure => omega
          case rel => exact ⟨4, rfl, rfl, HF.out, kb2, B2⟩
    · obtain rfl : gk = 5 := by omega
      have i0 := lead4
      have HN := Lib.hid hn
      clear hn hj
      by_cases hm : 237 ≤ c ∧ c ≤ 237
      · have HF := Lib.hid (rowK4 HN.out hm)
        obtain ⟨m1, m2⟩ := hm
        clear HN
        go_wp2
        refine bodyPost_ret (v := .agg #[.int .u8 237, .int .u8 237, .int .i64 3, .int .u8 128, .int .u8 159]) (results_cell_row Try.results60 _ _ w.heap.size 101 _ (0, 0) _ rfl (alloc_keep (row_block kb _ _ _ _ _) _) Try.underlying101 rfl (by kernel_rfl)) rfl (rowEnd HF.out ?_)
        exact (((((B.setCell (by exact Nat.le_refl _) _).setCell (by exact Nat.le_refl _) _).setCell (by exact Nat.le_refl _) _).setCell (by exact Nat.le_refl _) _).setCell (by exact Nat.le_refl _) _).alloc (by simpa [World.setCell] using hB) _
      · have HF := Lib.hid (noRow4 HN.out hm)
        clear HN
        have hm2 : c < 237 ∨ (237 ≤ c ∧ 237 < c) := by omega
        clear hm
        have kb2 := alloc_keep kb (.cells #[.int .u8 237, .int .u8 237, .int .i64 3, .int .u8 128, .int .u8 159] 101)
        have B2 := B.alloc hB (.cells #[.int .u8 237, .int .u8 237, .int .i64 3, .int .u8 128, .int .u8 159] 101)
        clear kb B
        rcases hm2 with m1 | ⟨m1, m2⟩
        all_goals
          go_wp2
          go_roundg 4
          case measure => omega
          case rel => exact ⟨5, rfl, rfl, HF.out, kb2, B2⟩
    · obtain rfl : gk = 4 := by omega
      have i0 := lead5
      have HN := Lib.hid hn
      clear hn hj
      by_cases hm : 238 ≤ c ∧ c ≤ 239
      · have HF := Lib.hid (rowK5 HN.out hm)
        obtain ⟨m1, m2⟩ := hm
        clear HN
        go_wp2
        refine bodyPost_ret (v := .agg #[.int .u8 238, .int .u8 239, .int .i64 3, .int .u8 128, .int .u8 191]) (results_cell_row Try.results60 _ _ w.heap.size 101 _ (0, 0) _ rfl (alloc_keep (row_block kb _ _ _ _ _) _) Try.underlying101 rfl (by kernel_rfl)) rfl (rowEnd HF.out ?_)
        exact (((((B.setCell (by exact Nat.le_refl _) _).setCell (by exact Nat.le_refl _) _).setCell (by exact Nat.le_refl _) _).setCell (by exact Nat.le_refl _) _).setCell (by exact Nat.le_refl _) _).alloc (by simpa [World.setCell] using hB) _
      · have HF := Lib.hid (noRow5 HN.out hm)
        clear HN
        have hm2 : c < 238 ∨ (238 ≤ c ∧ 239 < c) := by omega
        clear hm
        have kb2 := alloc_keep kb (.cells #[.int .u8 238, .int .u8 239, .int .i64 3, .int .u8 128, .int .u8 191] 101)
        have B2 := B.alloc hB (.cells #[.int .u8 238, .int .u8 239, .int .i64 3, .int .u8 128, .int .u8 191] 101)
        clear kb B
        rcases hm2 with m1 | ⟨m1, m2⟩
        all_goals
          go_wp2
          go_roundg 3
          case measure => omega
          case rel => exact ⟨6, rfl, rfl, HF.out, kb2, B2⟩
    · obtain rfl : gk = 3 := by omega
      have i0 := lead6
      have HN := Lib.hid hn
      clear hn hj
      by_cases hm : 240 ≤ c ∧ c ≤ 240
      · have HF := Lib.hid (rowK6 HN.out hm)
        obtain ⟨m1, m2⟩ := hm
        clear HN
        go_wp2
        refine bodyPost_ret (v := .agg #[.int .u8 240, .int .u8 240, .int .i64 4, .int .u8 144, .int .u8 191]) (results_cell_row Try.results60 _ _ w.heap.size 101 _ (0, 0) _ rfl (alloc_keep (row_block kb _ _ _ _ _) _) Try.underlying101 rfl (by kernel_rfl)) rfl (rowEnd HF.out ?_)
        exact (((((B.setCell (by exact Nat.le_refl _) _).setCell (by exact Nat.le_refl _) _).setCell (by exact Nat.le_refl _) _).setCell (by exact Nat.le_refl _) _).setCell (by exact Nat.le_refl _) _).alloc (by simpa [World.setCell] using hB) _
      · have HF := Lib.hid (noRow6 HN.out hm)
        clear HN
        have hm2 : c < 240 ∨ (240 ≤ c ∧ 240 < c) := by omega
        clear hm
        have kb2 := alloc_keep kb (.cells #[.int .u8 240, .int .u8 240, .int .i64 4, .int .u8 144, .int .u8 191] 101)
        have B2 := B.alloc hB (.cells #[.int .u8 240, .int .u8 240, .int .i64 4, .int .u8 144, .int .u8 191] 101)
        clear kb B
        rcases hm2 with m1 | ⟨m1, m2⟩
        all_goals
          go_wp2
          go_roundg 2
          case measure => omega
          case rel => exact ⟨7, rfl, rfl, HF.out, kb2, B2⟩
    · obtain rfl : gk = 2 := by omega
      have i0 := lead7
      have HN := Lib.hid hn
      clear hn hj
      by_cases hm : 241 ≤ c ∧ c ≤ 243
      · have HF := Lib.hid (rowK7 HN.out hm)
        obtain ⟨m1, m2⟩ := hm
        clear HN
        go_wp2
        refine bodyPost_ret (v := .agg #[.int .u8 241, .int .u8 243, .int .i64 4, .int .u8 128, .int .u8 191]) (results_cell_row Try.results60 _ _ w.heap.size 101 _ (0, 0) _ rfl (alloc_keep (row_block kb _ _ _ _ _) _) Try.underlying101 rfl (by kernel_rfl)) rfl (rowEnd HF.out ?_)
        exact (((((B.setCell (by exact Nat.le_refl _) _).setCell (by exact Nat.le_refl _) _).setCell (by exact Nat.le_refl _) _).setCell (by exact Nat.le_refl _) _).setCell (by exact Nat.le_refl _) _).alloc (by simpa [World.setCell] using hB) _
      · have HF := Lib.hid (noRow7 HN.out hm)
        clear HN
        have hm2 : c < 241 ∨ (241 ≤ c ∧ 243 < c) := by omega
        clear hm
        have kb2 := alloc_keep kb (.cells #[.int .u8 241, .int .u8 243, .int .i64 4, .int .u8 128, .int .u8 191] 101)
        have B2 := B.alloc hB (.cells #[.int .u8 241, .int .u8 243, .int .i64 4, .int .u8 128, .int .u8 191] 101)
        clear kb B
        rcases hm2 with m1 | ⟨m1, m2⟩
        all_goals
          go_wp2
          go_roundg 1
          case measure => omega
          case rel => exact ⟨8, rfl, rfl, HF.out, kb2, B2⟩
    · obtain rfl : gk = 1 := by omega
      have i0 := lead8
      have HN := Lib.hid hn
      clear hn hj
      by_cases hm : 244 ≤ c ∧ c ≤ 244
      · have HF := Lib.hid (rowK8 HN.out hm)
        obtain ⟨m1, m2⟩ := hm
        clear HN
        go_wp2
        refine bodyPost_ret (v := .agg #[.int .u8 244, .int .u8 244, .int .i64 4, .int .u8 128, .int .u8 143]) (results_cell_row Try.results60 _ _ w.heap.size 101 _ (0, 0) _ rfl (alloc_keep (row_block kb _ _ _ _ _) _) Try.underlying101 rfl (by kernel_rfl)) rfl (rowEnd HF.out ?_)
        exact (((((B.setCell (by exact Nat.le_refl _) _).setCell (by exact Nat.le_refl _) _).setCell (by exact Nat.le_refl _) _).setCell (by exact Nat.le_refl _) _).setCell (by exact Nat.le_refl _) _).alloc (by simpa [World.setCell] using hB) _
      · have HF := Lib.hid (noRow8 HN.out hm)
        clear HN
        have hm2 : c < 244 ∨ (244 ≤ c ∧ 244 < c) := by omega
        clear hm
        have kb2 := alloc_keep kb (.cells #[.int .u8 244, .int .u8 244, .int .i64 4, .int .u8 128, .int .u8 143] 101)
        have B2 := B.alloc hB (.cells #[.int .u8 244, .int .u8 244, .int .i64 4, .int .u8 128, .int .u8 143] 101)
        clear kb B
        rcases hm2 with m1 | ⟨m1, m2⟩
        all_goals
          go_wp2
          go_roundg 0
          case measure => omega
          case rel => exact ⟨9, rfl, rfl, HF.out, kb2, B2⟩
    · obtain rfl : gk = 0 := by omega
      have HF := Lib.hid (rowK9 hn)
      clear hn hj
      go_wp2
      refine bodyPost_ret (v := .agg #[.int .u8 0, .int .u8 0, .int .i64 0, .int .u8 0, .int .u8 0]) (results_cell_row Try.results60 _ _ w.heap.size 101 _ (0, 0) _ rfl (row_block kb _ _ _ _ _) Try.underlying101 rfl (by kernel_rfl)) rfl (rowEnd HF.out ?_)
      exact (((((B.setCell (by exact Nat.le_refl _) _).setCell (by exact Nat.le_refl _) _).setCell (by exact Nat.le_refl _) _).setCell (by exact Nat.le_refl _) _).setCell (by exact Nat.le_refl _) _)

theorem utf_row.calls (a0 : Int) (r1 r2 r3 r4 r5 : Int) (w : World) (h : utf_row.f a0 = some (r1, r2, r3, r4, r5)) :
    Calls Try.prog 60 #[.int .u8 a0] w fun e w' => e = .returned (.agg #[.int .u8 r1, .int .u8 r2, .int .i64 r3, .int .u8 r4, .int .u8 r5]) ∧ Below w.heap.size w w' := by
  have h' := Option.some.inj h
  refine (row_any a0 w).mono fun e w' hp => ?_
  unfold RowPost at hp
  rw [h'] at hp
  exact hp
end Go.Proofs.Ytfcfnnkepjoncaa.Hand
