/- The law ScriptReports: its walk. -/
import Derived.Test.YtfcfnnkepjoncaaDoorRef
import Derived.Test.YtfcfnnkepjoncaaDoorPureBase
namespace Go.Proofs.YtfcfnnkepjoncaaDoor.Hand
open Go.RowKit Go.Shelf Go.Proofs.YtfcfnnkepjoncaaDoorW.PrintWords
set_option linter.unusedVariables false
/-- the letters of bytes, two each -/
def hexU (l : List Int) : ByteArray := strOfNums (Base.encL Base.aHex 4 1 (l.map Int.toNat))
theorem hex_size (l : List Int) (hl : ∀ x ∈ l, 0 ≤ x ∧ x < 256) : (hexU l).size = 2 * l.length := by
  unfold hexU
  rw [strOfNums_size, Pure.encL_len, Pure.digits_len 4 (by decide) _ (Pure.nums_lt hl), List.length_map]
  unfold Base.fillN
  rw [if_neg (by omega)]
  omega
theorem enc_hex (Ao : Option Addr) (co : Nat) (l : List Int) (W : World) (hl : ∀ x ∈ l, 0 ≤ x ∧ x < 256) (hn : l.length ≤ 1048576) (hc : l.length ≤ co) (hr : Kd.C (Kd.int .u8) W Ao l.length l) :
    Calls Tryd.prog 10 #[.int .i64 0, .slice Ao l.length co] W fun e' w' => e' = .returned (.tuple #[.string (hexU l), .int .i64 0]) ∧ Below W.heap.size W w' :=
  Base.base_Encode.calls 0 Ao co l (hexU l) 0 W hr hc (Pure.enc_f 0 Base.aHex 4 1 Pure.of0' l hl (by omega))
theorem ref_hex (Ao : Option Addr) (co : Nat) (l : List Int) (W : World) (hl : ∀ x ∈ l, 0 ≤ x ∧ x < 256) (hn : l.length ≤ 1048576) (hc : l.length ≤ co) (hr : Kd.C (Kd.int .u8) W Ao l.length l) :
    Calls Tryd.prog 12 #[.int .i64 0, .slice Ao l.length co] W fun e' w' => e' = .returned (.tuple #[.string (hexU l), .int .i64 0]) ∧ Below W.heap.size W w' := by
  obtain ⟨k, hk⟩ := (Pure.ref_enc Base.aHex 4 1 l (by decide) (by decide) (by decide) (by decide) (by decide) hl hn 0 Pure.al0).rounds
  exact PScriptReports.glossatorref04_Encode.calls k 0 Ao co l (hexU l) 0 W hr hc hk
theorem rep0 : (⟨(repU outW [] 0 0).toArray⟩ : ByteArray) = ⟨#[111, 117, 116, 10, 101, 110, 100, 32, 48, 32, 48, 10]⟩ := by decide +kernel
set_option maxHeartbeats 4000000 in
set_option maxRecDepth 100000 in
theorem awake_calls (w : World) (htab : Lib.TabIs Tryd.prog w "internal/strconv.uint64pow10" .u64 Lib.pow10Tab) :
    Calls Tryd.prog 6 #[] w fun e' w' => e' = .returned (.bool true) ∧ Below w.heap.size w w' := by
  have k1 := report_calls none 0 0 outW [] none 0 0 0 w (fun j hj => by simp at hj) (fun q hq => by simp at hq) ⟨by decide, by decide⟩ ⟨by decide, by decide⟩ (.inl ⟨rfl, rfl⟩) htab (by decide +kernel) (by decide) (fun q hq => by simp at hq)
  rw [rep0] at k1
  simp only [List.length_nil] at k1
  go_enter Tryd.func6, Tryd.ntmps6
  go_wp2_with (go_at_call 4; (with_reducible refine k1.mono ?_); clear k1; rintro e1 w1 ⟨rfl, hb1⟩)
  go_ret
  exact ⟨rfl, hb1⟩
set_option maxHeartbeats 4000000 in
set_option maxRecDepth 100000 in
theorem law_gen (v0 v1 : Value) (at_ e : Int) (R : ByteArray) (w : World) (he : -32768 ≤ e ∧ e ≤ 32767)
    (k4 : ∀ W, Below w.heap.size w W → Calls Tryd.prog 4 #[v0, v1, .int .i64 at_, .int .i64 e] W fun e' w' => e' = .returned (.string R) ∧ Below W.heap.size W w')
    (k5 : ∀ W, Below w.heap.size w W → Calls Tryd.prog 5 #[v0, v1, .int .i64 at_, .int .i64 e] W fun e' w' => e' = .returned (.string R) ∧ Below W.heap.size W w')
    (k6 : ∀ W, Below w.heap.size w W → Calls Tryd.prog 6 #[] W fun e' w' => e' = .returned (.bool true) ∧ Below W.heap.size W w') :
    Calls Tryd.prog 3 #[v0, v1, .int .i64 at_, .int .i16 e] w fun e' w' => e' = .returned (.bool true) ∧ Below w.heap.size w w' := by
  go_enter Tryd.func3, Tryd.ntmps3
  go_wp2_with (first | (go_at_call 4; (with_reducible refine (k4 _ (Below.refl _ _)).mono ?_); clear k4; rintro e1 w1 ⟨rfl, hb1⟩) | (go_at_call 5; (with_reducible refine (k5 _ hb1).mono ?_); clear k5; rintro e2 w2 ⟨rfl, hb2⟩; have hb3 := hb1.trans (hb2.mono hb1.size)) | (go_at_call 6; (with_reducible refine (k6 _ hb3).mono ?_); clear k6; rintro e3 w3 ⟨rfl, hb4⟩; have hb5 := hb3.trans (hb4.mono hb3.size)))

  go_ret
  exact ⟨rfl, hb5⟩
end Go.Proofs.YtfcfnnkepjoncaaDoor.Hand
