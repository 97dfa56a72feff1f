/- The law FitsAll is true of every input whose arguments are of bulk at most 1048576 (the Upto form). -/
import Derived.Test.YtfcfnnkepjoncaaRows
import Derived.Test.YtfcfnnkepjoncaaBulk
import Derived.Test.YtfcfnnkepjoncaaHand20
import Derived.JoinedCond
import Derived.Deep.CondSized
import Derived.WalkKit
import Derived.ProofKit
import Derived.OpenShut
import Derived.ShutString
import Derived.ChangeOld
import Derived.Below
import Derived.SizedLaws
import Derived.Lib.SmallJoins
namespace Go.Proofs.Ytfcfnnkepjoncaa.fitsAllUpto
open Go.ChangeShapes Go.WideShapes Go.ChangeAt Go.RowKit
open Go.ChangeMaps (open_string shut_string)
set_option linter.unusedVariables false
open Go.Proofs.YtfcfnnkepjoncaaW.PrintWords Go.Proofs.Ytfcfnnkepjoncaa.Hand Go.Proofs.Ytfcfnnkepjoncaa.PC
theorem own : ownKnob Try.prog.godebug = none := by kernel_rfl
theorem laidOut : laidOutB Try.prog = true := by kernel_rfl
set_option maxRecDepth 100000 in
theorem lifted (os : Os) (started : os.Started) (H : Type) (enc : TypeId × Value → H) (F : Stop.Interp) :
    ReturnsInHanded {} Try.checked os 9 .any ((Rows.OpenSpec.upto Rows.fitsAllSpec).pre6 enc Try.prog Try.f9 Rows.fitsAllUptoRow.domain false) (((Rows.OpenSpec.upto Rows.fitsAllSpec).at F).post enc Try.prog Try.f9 false true false false) := by
  refine returnsInHanded_of_cond_sized (C := Try.checked) (s := Rows.OpenSpec.upto Rows.fitsAllSpec) (k := Rows.uptoSmall) rfl own started (by kernel_rfl) Try.func9
    (OpenSpec.witness (enc := enc) (C := Try.checked) (s := Rows.OpenSpec.upto Rows.fitsAllSpec) (k := Rows.uptoSmall) rfl false ⟨#[], #[.agg #[.int .i64 0, .bool false, .int .u64 0, .string ByteArray.empty, .slice none 0 0]], []⟩ 8 (by kernel_rfl) (by kernel_rfl) (by kernel_rfl)
      (x := ([.agg [.lit (.int .i64 0), .lit (.bool false), .lit (.int .u64 0), .lit (.string []), .nil]], [], [])) (by kernel_rfl) rfl (by kernel_rfl)) ?_
  intro W base args ds gs before hval0 hW hcnd hk hsz0 _
  have hbulk := bulks.bound hk
  have hsz : (DataW.weightsEach Try.prog (Try.f9.params.toList ++ Rows.fitsAllSpec.plain.varTypes Try.prog) (ds ++ gs)).all (· ≤ reachBytes) = true := hsz0
  have hval : ∀ (j : Nat) t v, Try.f9.params[j]? = some t → args[j]? = some v → Value.okWide Try.prog W .any base t v := hval0
  have hW' := hW
  obtain ⟨p, q, hA0, hV, rfl, hfz, hnd⟩ := hW
  have hA : DataW.TrodAll enc Try.prog W 0 (fun _ => true) true Try.f9.params.toList args.toList ds p := hA0
  rw [Try.params9] at hA hval hsz
  obtain ⟨v0, vs0, d0, ds0, p0, q0, hargs, rfl, rfl, h0, r0⟩ := trodAll_cons hA
  obtain ⟨rfl, rfl, rfl⟩ := trodAll_nil r0
  obtain rfl : args = #[v0] := by cases args; simp_all
  obtain ⟨rfl, rfl⟩ := trodVars_none hV
  have k0 := h0
  have lt0 : ∀ x ∈ p0, x.block < W.heap.size := by obtain ⟨m, hm⟩ := k0; exact DataW.trod_lt m _ _ _ hm
  have u0 : Rows.uptoBulk d0 ≤ 1048576 := Nat.le_trans (bulks.part_le (d := d0) (by simp)) hbulk
  obtain ⟨cs0, rfl, _⟩ := okWide_struct Try.underlying44 (hval 0 44 v0 rfl rfl)
  obtain ⟨x0, A0, c0, t0, b0, hcs0⟩ : ∃ x A c, TreeAt W x A c ∧ bulkL (preT x) ≤ 1048576 ∧ cs0 = #[.int .i64 x.f0, .bool x.f1, .int .u64 x.f2, .string x.f3, .slice A x.f4.length c] := by
    obtain ⟨fuel, hf⟩ := h0
    obtain ⟨x, A, c, he, ht, hb⟩ := tree_open fuel _ _ hf
    exact ⟨x, A, c, ht, Nat.le_trans hb u0, by rw [show cs0 = cs0.toList.toArray from (Array.toArray_toList).symm, show cs0.toList = _ from he]⟩
  subst hcs0
  clear hA0 hval0 hsz0 hsz
  refine (all_calls x0 A0 c0 W (small_of b0) t0.1 t0.2.1).mono fun e W' ⟨he, bel⟩ => ?_
  subst he
  exact ⟨_, rfl, _, _, _, [], _, [], hW', trodAll_mk1 (shut_bool Try.underlying4 _), (trodAll_cons_mk (Below.trod laidOut (by kernel_rfl) (of_decide_eq_true (by kernel_rfl)) k0 bel lt0) trodAll_mk0), rfl, bel.frame _, fun h => by cases h⟩
theorem over : Rows.fitsAllUptoRow.holds Try.pinned (Rows.OpenSpec.upto Rows.fitsAllSpec) :=
  OpenClaim.holds_of_cond 9 Try.f9 rfl rfl rfl rfl rfl rfl rfl ⟨rfl, rfl, rfl, rfl, rfl⟩ rfl rfl rfl rfl rfl (by kernel_rfl) Try.func9 (by kernel_rfl)
    (of_decide_eq_true (by kernel_rfl)) (by unfold Func.isWrapper; first | (rw [if_pos (by decide +kernel)]; kernel_rfl) | (rw [if_neg (by decide +kernel)]; exact ⟨rfl, rfl⟩))
    (fun os started H enc _ F => lifted os started H enc F)
theorem proved : Rows.FitsAllUptoSaid := over
#print axioms proved
end Go.Proofs.Ytfcfnnkepjoncaa.fitsAllUpto
namespace Go.Proofs.Ytfcfnnkepjoncaa
/-- The row, under a short name, for the claim. -/
theorem fitsAllUpto_holds : Rows.FitsAllUptoSaid := fitsAllUpto.proved
end Go.Proofs.Ytfcfnnkepjoncaa
