/- The law FitsWithin is true of every input whose arguments are of bulk at most 1048576 (the Upto form). -/
import Derived.Test.YtfcfnnkepjoncaaRows
import Derived.Test.YtfcfnnkepjoncaaBulk
import Derived.Test.YtfcfnnkepjoncaaHand20
import Derived.JoinedCond
import Derived.Deep.CondSized
import Derived.WalkKit
import Derived.ProofKit
import Derived.OpenShut
import Derived.ShutString
import Derived.ChangeOld
import Derived.Below
import Derived.SizedLaws
import Derived.Lib.SmallJoins
namespace Go.Proofs.Ytfcfnnkepjoncaa.fitsWithinUpto
open Go.ChangeShapes Go.WideShapes Go.ChangeAt Go.RowKit
open Go.ChangeMaps (open_string shut_string)
set_option linter.unusedVariables false
open Go.Proofs.YtfcfnnkepjoncaaW.PrintWords Go.Proofs.Ytfcfnnkepjoncaa.Hand Go.Proofs.Ytfcfnnkepjoncaa.PC
theorem own : ownKnob Try.prog.godebug = none := by kernel_rfl
theorem laidOut : laidOutB Try.prog = true := by kernel_rfl
set_option maxRecDepth 100000 in
theorem lifted (os : Os) (started : os.Started) (H : Type) (enc : TypeId × Value → H) (F : Stop.Interp) :
    ReturnsInHanded {} Try.checked os 8 .any ((Rows.OpenSpec.upto Rows.fitsWithinSpec).pre6 enc Try.prog Try.f8 Rows.fitsWithinUptoRow.domain false) (((Rows.OpenSpec.upto Rows.fitsWithinSpec).at F).post enc Try.prog Try.f8 false true false false) := by
  refine returnsInHanded_of_cond_sized (C := Try.checked) (s := Rows.OpenSpec.upto Rows.fitsWithinSpec) (k := Rows.uptoSmall) rfl own started (by kernel_rfl) Try.func8
    (OpenSpec.witness (enc := enc) (C := Try.checked) (s := Rows.OpenSpec.upto Rows.fitsWithinSpec) (k := Rows.uptoSmall) rfl false ⟨#[], #[.int .i64 0, .slice none 0 0], []⟩ 8 (by kernel_rfl) (by kernel_rfl) (by kernel_rfl)
      (x := ([.lit (.int .i64 0), .nil], [], [])) (by kernel_rfl) rfl (by kernel_rfl)) ?_
  intro W base args ds gs before hval0 hW hcnd hk hsz0 _
  have hbulk := bulks.bound hk
  have hsz : (DataW.weightsEach Try.prog (Try.f8.params.toList ++ Rows.fitsWithinSpec.plain.varTypes Try.prog) (ds ++ gs)).all (· ≤ reachBytes) = true := hsz0
  have hval : ∀ (j : Nat) t v, Try.f8.params[j]? = some t → args[j]? = some v → Value.okWide Try.prog W .any base t v := hval0
  have hW' := hW
  obtain ⟨p, q, hA0, hV, rfl, hfz, hnd⟩ := hW
  have hA : DataW.TrodAll enc Try.prog W 0 (fun _ => true) true Try.f8.params.toList args.toList ds p := hA0
  rw [Try.params8] at hA hval hsz
  obtain ⟨v0, vs0, d0, ds0, p0, q0, hargs, rfl, rfl, h0, r0⟩ := trodAll_cons hA
  obtain ⟨v1, vs1, d1, ds1, p1, q1, rfl, rfl, rfl, h1, r1⟩ := trodAll_cons r0
  obtain ⟨rfl, rfl, rfl⟩ := trodAll_nil r1
  obtain rfl : args = #[v0, v1] := by cases args; simp_all
  obtain ⟨rfl, rfl⟩ := trodVars_none hV
  obtain ⟨a0, rfl, rfl, rfl, w0⟩ := open_int Try.underlying3 (hval 0 3 v0 rfl rfl) h0
  have k1 := h1
  have lt1 : ∀ x ∈ p1, x.block < W.heap.size := by obtain ⟨m, hm⟩ := k1; exact DataW.trod_lt m _ _ _ hm
  have u1 : Rows.uptoBulk d1 ≤ 1048576 := Nat.le_trans (bulks.part_le (d := d1) (by simp)) hbulk
  obtain ⟨a1, len1, cap1, rfl⟩ := okWide_slice Try.underlying39 (hval 1 39 v1 rfl rfl)
  obtain ⟨l1, A1, c1, lc1, lC1, lo1, b1, hcs1⟩ : ∃ l A c, l.length ≤ c ∧ Kd.C k44 W A l.length l ∧ (∀ t ∈ preL l, TOk t) ∧ bulkL (preL l) + 1 ≤ 1048576 ∧ (Value.slice a1 len1 cap1) = .slice A l.length c := by
    obtain ⟨fuel, hf⟩ := h1
    obtain ⟨l, A, c, he, h1, h2, h3, hb⟩ := list_open (fun m hm => tree_open m) _ _ hf
    exact ⟨l, A, c, h1, h2, h3, Nat.le_trans hb u1, by simpa [Value.cells] using he⟩
  simp only [Value.slice.injEq] at hcs1
  obtain ⟨rfl, rfl, rfl⟩ := hcs1
  clear hA0 hval0 hsz0 hsz
  refine (within_calls a0 l1 a1 cap1 W (small_list b1) lc1 lC1).mono fun e W' ⟨he, bel⟩ => ?_
  subst he
  exact ⟨_, rfl, _, _, _, [], _, [], hW', trodAll_mk1 (shut_bool Try.underlying4 _), (trodAll_cons_mk (shut_int Try.underlying3 w0) (trodAll_cons_mk (Below.trod laidOut (by kernel_rfl) (of_decide_eq_true (by kernel_rfl)) k1 bel lt1) trodAll_mk0)), rfl, bel.frame _, fun h => by cases h⟩
theorem over : Rows.fitsWithinUptoRow.holds Try.pinned (Rows.OpenSpec.upto Rows.fitsWithinSpec) :=
  OpenClaim.holds_of_cond 8 Try.f8 rfl rfl rfl rfl rfl rfl rfl ⟨rfl, rfl, rfl, rfl, rfl⟩ rfl rfl rfl rfl rfl (by kernel_rfl) Try.func8 (by kernel_rfl)
    (of_decide_eq_true (by kernel_rfl)) (by unfold Func.isWrapper; first | (rw [if_pos (by decide +kernel)]; kernel_rfl) | (rw [if_neg (by decide +kernel)]; exact ⟨rfl, rfl⟩))
    (fun os started H enc _ F => lifted os started H enc F)
theorem proved : Rows.FitsWithinUptoSaid := over
#print axioms proved
end Go.Proofs.Ytfcfnnkepjoncaa.fitsWithinUpto
namespace Go.Proofs.Ytfcfnnkepjoncaa
/-- The row, under a short name, for the claim. -/
theorem fitsWithinUpto_holds : Rows.FitsWithinUptoSaid := fitsWithinUpto.proved
end Go.Proofs.Ytfcfnnkepjoncaa
