import Derived.Test.YtfcfnnkepjoncaaHand11
import Derived.Test.YtfcfnnkepjoncaaPCx8
namespace Go.Proofs.Ytfcfnnkepjoncaa.Hand
open Go.RowKit Go.Shelf Go.Proofs.YtfcfnnkepjoncaaW.PrintWords Go.Proofs.YtfcfnnkepjoncaaW.PrintLast Go.Proofs.YtfcfnnkepjoncaaW.PrintMore Go.Proofs.Ytfcfnnkepjoncaa.PC
set_option linter.unusedVariables false
set_option linter.unusedSimpArgs false

theorem big_some (s : ByteArray) : ∃ b, value_big.f s = some b := by
  unfold value_big.f
  split
  · split
    · split
      · exact ⟨_, rfl⟩
      · exfalso; omega
    · exact ⟨_, rfl⟩
  · exact ⟨_, rfl⟩
theorem bits_some (k : Nat) (a : Int) : ∃ b, value_bits.f (k + 1) a = some b ∧ 0 ≤ b := by
  simp only [value_bits.f, value_bits.j0]
  repeat' split
  all_goals first | exact ⟨1, rfl, by decide⟩ | exact ⟨16, rfl, by decide⟩ | exact ⟨32, rfl, by decide⟩ | exact ⟨64, rfl, by decide⟩ | exact ⟨8, rfl, by decide⟩ | exact ⟨0, rfl, by decide⟩
theorem one2_some (k : Nat) (x41 : Int) (x52 : Bool) (a : Int) (b : Bool) (c : Int) (d : ByteArray) (l : List S44) : ∃ r, value_One.j2 (k + 1) x41 x52 a b c d l = some r := by
  obtain ⟨g, hg⟩ := big_some d
  simp only [value_One.j2]
  rw [hg]
  obtain ⟨g2, hg2⟩ := big_some (rd_T44 l 0).f3
  rw [hg2]
  simp only [Option.bind_some]
  repeat' split
  all_goals first | exact ⟨_, rfl⟩ | (exfalso; omega)
theorem one1_some (k : Nat) (x39 : Bool) (a : Int) (b : Bool) (c : Int) (d : ByteArray) (l : List S44) (hd : d.size < 9223372036854775807) : ∃ r, value_One.j1 (k + 2) x39 a b c d l = some r := by
  simp only [value_One.j1, utf_Check.f]
  rw [if_pos hd]
  simp only [Option.bind_some]
  split
  · exact ⟨_, rfl⟩
  · split
    · exact ⟨_, rfl⟩
    · split <;> exact one2_some _ _ _ _ _ _ _ _
theorem one0_some (k : Nat) (x27 : Bool) (a : Int) (b : Bool) (c : Int) (d : ByteArray) (l : List S44) (hd : d.size < 9223372036854775807) : ∃ r, value_One.j0 (k + 3) x27 a b c d l = some r := by
  obtain ⟨t, ht, h0⟩ := bits_some (k + 1) a
  simp only [value_One.j0]
  rw [ht]
  simp only [Option.bind_some]
  split
  · exact ⟨_, rfl⟩
  · split
    · exact one1_some _ _ _ _ _ _ _ hd
    · exact one1_some _ _ _ _ _ _ _ hd
/-- value.One, as a plain function -/
def oneK (t : S44) : Bool := (value_One.f 3 t.f0 t.f1 t.f2 t.f3 t.f4).getD false
theorem oneK_eq (t : S44) (hd : t.f3.size < 9223372036854775807) : value_One.f 3 t.f0 t.f1 t.f2 t.f3 t.f4 = some (oneK t) := by
  have h : ∃ r, value_One.f 3 t.f0 t.f1 t.f2 t.f3 t.f4 = some r := by
    unfold value_One.f
    repeat' split
    all_goals exact one0_some 0 _ _ _ _ _ _ hd
  obtain ⟨r, hr⟩ := h
  unfold oneK
  rw [hr]
  rfl
end Go.Proofs.Ytfcfnnkepjoncaa.Hand
