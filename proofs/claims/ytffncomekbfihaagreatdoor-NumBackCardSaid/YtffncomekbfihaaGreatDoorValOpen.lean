/- A value that came in: its fields. -/
import Derived.Test.YtffncomekbfihaaGreatDoorNatPure
import Derived.Test.YtffncomekbfihaaGreatDoorShelf
import Derived.OpenShut
import Derived.DataElems
import Derived.Deep.Slices
namespace Go.Proofs.YtffncomekbfihaaGreatDoor.Nat
open Go.RowKit Go.Shelf
set_option linter.unusedVariables false
set_option linter.unusedSimpArgs false
theorem cV : Tryz.prog.cellsOf 36 = 5 := by kernel_rfl
theorem cI : Tryz.prog.cellsOf 3 = 1 := by kernel_rfl
theorem cB : Tryz.prog.cellsOf 4 = 1 := by kernel_rfl
theorem cU : Tryz.prog.cellsOf 22 = 1 := by kernel_rfl
theorem cS : Tryz.prog.cellsOf 9 = 1 := by kernel_rfl
theorem cL : Tryz.prog.cellsOf 34 = 1 := by kernel_rfl
theorem fiveL {α : Type} {l : List α} (h : l.length = 5) : ∃ a b c d e, l = [a, b, c, d, e] := by
  match l, h with
  | [a, b, c, d, e], _ => exact ⟨a, b, c, d, e, rfl⟩
set_option maxRecDepth 100000 in
theorem val_open {H : Type} {enc : TypeId × Value → H} {W : World} {held : Bool} {sp : Nat → Bool} (fuel : Nat) (cs : List Value) (y : DataW H × List MemPlace) (h : DataW.trod enc Tryz.prog W 0 sp held fuel 36 cs = some y) :
    ∃ (K : Int) (g : Bool) (N : Int) (S : ByteArray) (A : Option Addr) (l c : Nat), cs = [.int .i64 K, .bool g, .int .u64 N, .string S, .slice A l c] ∧ (Lit.int .i64 K).wf = true ∧ (Lit.int .u64 N).wf = true ∧ S.size ≤ maxLen := by
  obtain ⟨xs, n, rfl, rfl, hlen, hxs, hel⟩ := DataW.trod_struct Tryz.underlying36 h
  rw [cV] at hlen
  have hxs' : xs.length = 5 := hxs
  clear hxs
  obtain ⟨v0, v1, v2, v3, v4, rfl⟩ : ∃ v0 v1 v2 v3 v4, cs = [v0, v1, v2, v3, v4] := fiveL hlen
  obtain ⟨x0, x1, x2, x3, x4, rfl⟩ : ∃ v0 v1 v2 v3 v4, xs = [v0, v1, v2, v3, v4] := fiveL hxs'
  have h0 := hel 0 { name := "K", type := 3, offset := 0, embedded := false, tag := "", pkgPath := "", byteOffset := 0 } rfl
  simp only [cI, List.drop_zero, List.drop_succ_cons, List.take_succ_cons, List.take_zero, List.getElem?_cons_zero, List.getElem?_cons_succ] at h0
  have h1 := hel 1 { name := "Neg", type := 4, offset := 1, embedded := false, tag := "", pkgPath := "", byteOffset := 8 } rfl
  simp only [cB, List.drop_zero, List.drop_succ_cons, List.take_succ_cons, List.take_zero, List.getElem?_cons_zero, List.getElem?_cons_succ] at h1
  have h2 := hel 2 { name := "N", type := 22, offset := 2, embedded := false, tag := "", pkgPath := "", byteOffset := 16 } rfl
  simp only [cU, List.drop_zero, List.drop_succ_cons, List.take_succ_cons, List.take_zero, List.getElem?_cons_zero, List.getElem?_cons_succ] at h2
  have h3 := hel 3 { name := "S", type := 9, offset := 3, embedded := false, tag := "", pkgPath := "", byteOffset := 24 } rfl
  simp only [cS, List.drop_zero, List.drop_succ_cons, List.take_succ_cons, List.take_zero, List.getElem?_cons_zero, List.getElem?_cons_succ] at h3
  have h4 := hel 4 { name := "L", type := 34, offset := 4, embedded := false, tag := "", pkgPath := "", byteOffset := 40 } rfl
  simp only [cL, List.drop_zero, List.drop_succ_cons, List.take_succ_cons, List.take_zero, List.getElem?_cons_zero, List.getElem?_cons_succ] at h4
  obtain ⟨a0, e0, _, w0⟩ := DataW.trod_int Tryz.underlying3 h0
  obtain ⟨a1, e1, _⟩ := DataW.trod_bool Tryz.underlying4 h1
  obtain ⟨a2, e2, _, w2⟩ := DataW.trod_int Tryz.underlying22 h2
  obtain ⟨a3, e3, _, w3⟩ := DataW.trod_string Tryz.underlying9 h3
  obtain ⟨A, l, c, e4⟩ : ∃ (A : Option Addr) (l c : Nat), [v4] = [Value.slice A l c] := by
    rcases DataW.trod_slice Tryz.underlying34 h4 with ⟨e, _⟩ | ⟨a, len, cap, elems, rest, n, _, e, _⟩
    · exact ⟨_, _, _, e⟩
    · exact ⟨_, _, _, e⟩
  simp only [List.cons.injEq, and_true] at e0 e1 e2 e3 e4
  subst e0 e1 e2 e3 e4
  exact ⟨_, _, _, _, _, _, _, rfl, w0, w2, w3⟩
end Go.Proofs.YtffncomekbfihaaGreatDoor.Nat
