/- What fdec.Scan says, as plain arithmetic over bytes. -/
import Derived.Test.YtffncomekbfihaaGreatDoorDecimal
import Derived.Lib.Atoi
import Derived.Lib.Bytealg
namespace Go.Proofs.YtffncomekbfihaaGreatDoor.Nat
open Go.RowKit Go.Shelf
set_option linter.unusedVariables false
set_option linter.unusedSimpArgs false
def dg (c : Nat) : Bool := decide (48 ≤ c ∧ c ≤ 57)
/-- one of some bytes at the head, and what is behind it; 0: none -/
def sgc (S : List Nat) : List Nat → Nat × List Nat
  | [] => (0, [])
  | c :: r => if c ∈ S then (c, r) else (0, c :: r)
def scB (r : List Nat) : Bool × List Nat × List Nat :=
  if (sgc [46] r).1 ≠ 0 then (((sgc [46] r).2.takeWhile dg).length ≠ 0, (sgc [46] r).2.takeWhile dg, (sgc [46] r).2.dropWhile dg) else (true, [], (sgc [46] r).2)
def scC (r : List Nat) : Bool × List Nat × Bool × List Nat :=
  if (sgc [101, 69] r).1 ≠ 0 then
    (((sgc [43, 45] (sgc [101, 69] r).2).2.takeWhile dg).length ≠ 0, (sgc [43, 45] (sgc [101, 69] r).2).2.takeWhile dg, (sgc [43, 45] (sgc [101, 69] r).2).1 = 45, (sgc [43, 45] (sgc [101, 69] r).2).2.dropWhile dg)
  else (true, [], false, (sgc [101, 69] r).2)
def scT (neg : Bool) (D : List Nat) (pl : Nat) (exp : List Nat) (low good : Bool) : Nat × Nat :=
  if good = false then (0, 4)
  else if 800 < D.length ∨ 4 < exp.length then (0, 2)
  else if (if low then -(dval exp : Int) else dval exp) - pl < -2000 then (sgn neg 0, 0)
  else if 2000 < (if low then -(dval exp : Int) else dval exp) - pl then (if D.all (fun c => c = 48) then (sgn neg 0, 0) else (0, 8))
  else rnd neg D ((if low then -(dval exp : Int) else dval exp) - pl)
/-- the float of a text: its bits, and what is wrong -/
def sc (s : List Nat) : Nat × Nat :=
  scT (decide ((sgc [45] s).1 ≠ 0)) ((sgc [45] s).2.takeWhile dg ++ (scB ((sgc [45] s).2.dropWhile dg)).2.1) (scB ((sgc [45] s).2.dropWhile dg)).2.1.length
    (scC (scB ((sgc [45] s).2.dropWhile dg)).2.2).2.1 (scC (scB ((sgc [45] s).2.dropWhile dg)).2.2).2.2.1
    (decide (((sgc [45] s).2.takeWhile dg).length ≠ 0) && (scB ((sgc [45] s).2.dropWhile dg)).1 && (scC (scB ((sgc [45] s).2.dropWhile dg)).2.2).1 && decide ((scC (scB ((sgc [45] s).2.dropWhile dg)).2.2).2.2.2.length = 0))
theorem index_neg (l : List UInt8) (c : UInt8) : Lib.indexByte l c < 0 ↔ c ∉ l := by
  induction l with
  | nil => simp [Lib.indexByte]
  | cons b l ih =>
    unfold Lib.indexByte
    by_cases h : b == c
    · rw [if_pos h]
      have : b = c := by simpa using h
      subst this
      simp
    · rw [if_neg h]
      have hne : ¬ c = b := fun q => h (by simp [q])
      have hg := Lib.indexByte_ge l c
      by_cases h2 : (Lib.indexByte l c == -1) = true
      · rw [if_pos h2]
        have h3 : Lib.indexByte l c = -1 := by simpa using h2
        have h4 := ih.1 (by omega)
        simp [hne, h4]
      · rw [if_neg h2]
        have h3 : ¬ Lib.indexByte l c = -1 := by simpa using h2
        have h4 : ¬ (c ∉ l) := fun q => by have := ih.2 q; omega
        simp only [List.mem_cons, not_or, not_and]
        constructor
        · intro q; omega
        · intro q; exact absurd q.2 h4
theorem mem_bts {s : ByteArray} {c : UInt8} : c ∈ s.data.toList ↔ c.toNat ∈ bts s := by
  unfold bts
  rw [List.mem_map]
  constructor
  · intro h; exact ⟨c, h, rfl⟩
  · rintro ⟨d, hd, e⟩
    have : d = c := UInt8.toNat.inj e
    exact this ▸ hd
theorem takeWhile_take {p : Nat → Bool} {L : List Nat} {n : Nat} (h : ∀ (i c : Nat), i < n → L[i]? = some c → p c = true) (hn : n ≤ L.length) (he : ∀ c, L[n]? = some c → p c = false) : L.takeWhile p = L.take n ∧ L.dropWhile p = L.drop n := by
  induction L generalizing n with
  | nil => simp at hn; subst hn; exact ⟨rfl, rfl⟩
  | cons x L ih =>
    cases n with
    | zero =>
      have := he x rfl
      simp [this]
    | succ n =>
      have h0 := h 0 x (by omega) rfl
      obtain ⟨h1, h2⟩ := ih (n := n) (fun i c hi hc => h (i + 1) c (by omega) hc) (by simpa using hn) (fun c hc => he c hc)
      simp [h0, h1, h2]
theorem takeWhile_dgs (L : List Nat) : Dgs (L.takeWhile dg) := by
  induction L with
  | nil => intro c hc; cases hc
  | cons x L ih =>
    intro c hc
    rw [List.takeWhile_cons] at hc
    cases hx : dg x with
    | true =>
      rw [hx] at hc
      rcases List.mem_cons.1 hc with rfl | hc
      · simpa [dg] using hx
      · exact ih c hc
    | false => rw [hx] at hc; cases hc
theorem decFrom_bts (l : List UInt8) : ∀ acc, Dgs (l.map UInt8.toNat) → Lib.decFrom acc l = some ((l.map UInt8.toNat).foldl (fun v c => 10 * v + (c - 48)) acc) := by
  induction l with
  | nil => intro acc _; rfl
  | cons b l ih =>
    intro acc h
    have hb := h b.toNat (by simp)
    unfold Lib.decFrom Lib.digitVal
    rw [if_pos hb]
    simp only [List.map_cons, List.foldl_cons]
    rw [ih _ (fun c hc => h c (by simp [hc]))]
    congr 2
    omega
/-- what strconv.Atoi says of a 0 and digits -/
theorem atoi_zero {t : ByteArray} (h : Dgs (bts t)) : Lib.atoi ((⟨#[48]⟩ : ByteArray) ++ t).data.toList = some (dval (bts t) : Int) := by
  have e : ((⟨#[48]⟩ : ByteArray) ++ t).data.toList = (48 : UInt8) :: t.data.toList := by
    rw [ByteArray.data_append, Array.toList_append]; rfl
  rw [e, show Lib.atoi ((48 : UInt8) :: t.data.toList) = (Lib.decNat ((48 : UInt8) :: t.data.toList)).map (fun (m : Nat) => (m : Int)) from rfl]
  unfold Lib.decNat
  rw [if_neg (by simp)]
  have hd : Dgs (((48 : UInt8) :: t.data.toList).map UInt8.toNat) := fun c hc => by
    rw [List.map_cons] at hc
    rcases List.mem_cons.1 hc with rfl | hc
    · decide
    · exact h c hc
  rw [decFrom_bts _ 0 hd]
  rfl
end Go.Proofs.YtffncomekbfihaaGreatDoor.Nat
