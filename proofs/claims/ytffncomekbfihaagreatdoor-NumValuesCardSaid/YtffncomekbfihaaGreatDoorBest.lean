/- What fdec.Text says, as plain arithmetic over bytes; that fdec.Scan reads it back. A float's text says the float. fdec.Text. The shortest digits are one and the same, whoever finds them; the guess of the highest digit's place. -/
import Derived.Test.YtffncomekbfihaaGreatDoorScan
import Derived.Test.YtffncomekbfihaaGreatDoorShortMore
import Derived.Lib.ItoaNum
import Derived.Lib.Repeat
import Derived.Lib.AppendIntMem
import Derived.Deep.CutBlock
import Derived.Deep.DeepCutAuto
namespace Go.Proofs.YtffncomekbfihaaGreatDoor.Nat
open Go.RowKit Go.Shelf
set_option linter.unusedVariables false
def itoN (n : Int) : List Nat := if n < 0 then 45 :: dec n.natAbs else dec n.toNat
theorem dec_lib (u : Nat) : (Lib.decDigits u).map UInt8.toNat = dec u := by
  induction u using Nat.strongRecOn with
  | _ u ih =>
    rw [Lib.decDigits]
    by_cases h : u < 10
    · rw [dif_pos h, dec_small h, List.map_singleton, UInt8.toNat_ofNat']
      congr 1
      omega
    · rw [dif_neg h, List.map_append, ih (u / 10) (by omega), dec_snoc (v := u) (by omega)]
      congr 1
      rw [List.map_singleton, UInt8.toNat_ofNat']
      congr 1
      omega
theorem bts_mk (l : List UInt8) : bts ⟨l.toArray⟩ = l.map UInt8.toNat := rfl
theorem bts_itoa (n : Int) : bts ⟨(Lib.itoa n).toArray⟩ = itoN n := by
  rw [bts_mk]
  unfold Lib.itoa itoN
  split
  · rw [List.map_cons, dec_lib]; rfl
  · rw [dec_lib]
theorem repeat_map (c : Nat) : (Lib.repeatL [48] c).map UInt8.toNat = List.replicate c 48 := by
  induction c with
  | zero => rfl
  | succ c ih => rw [Lib.repeatL, List.map_append, ih, List.replicate_succ]; rfl
/-- the layout of digits and an exponent -/
def lay (d : List Nat) (e : Int) : List Nat :=
  if d.length + e < -5 ∨ 21 < d.length + e then d.take 1 ++ (if 1 < d.length then [46] ++ d.drop 1 else []) ++ [101] ++ itoN (d.length + e - 1)
  else if d.length + e ≤ 0 then [48, 46] ++ List.replicate (-(d.length + e)).toNat 48 ++ d
  else if d.length + e < d.length then d.take (d.length + e).toNat ++ [46] ++ d.drop (d.length + e).toNat
  else d ++ List.replicate (d.length + e - d.length).toNat 48 ++ [46, 48]
/-- the sign of bits -/
def sgl (x : Nat) : List Nat := if x / 9223372036854775808 = 1 then [45] else []
theorem and_sign {x : Nat} (hx : x < 18446744073709551616) : Go.bits BinOp.and IntKind.u64 (x : Int) 9223372036854775808 = ((x / 9223372036854775808 * 9223372036854775808 : Nat) : Int) := by
  have h := (bits_nat .u64 64 (by decide) (fun n h0 h1 => by rw [IntKind.wrap_u64]; omega) x 9223372036854775808 (by omega) (by decide)).1
  have h2 : x &&& 9223372036854775808 = x / 9223372036854775808 * 9223372036854775808 := by
    apply Nat.eq_of_testBit_eq
    intro i
    rw [Nat.testBit_and, show (9223372036854775808 : Nat) = 2 ^ 63 from rfl, Nat.testBit_two_pow, Nat.testBit_mul_two_pow, Nat.testBit_div_two_pow]
    by_cases hi : 63 = i
    · subst hi; simp
    · rcases Nat.lt_or_ge i 63 with q | q
      · simp [hi]; omega
      · have hf : x.testBit i = false := Nat.testBit_lt_two_pow (Nat.lt_of_lt_of_le hx (Nat.pow_le_pow_right (n := 2) (i := 64) (by decide) (by omega)))
        rw [show i - 63 + 63 = i from by omega, hf]
        simp
  rw [h2] at h
  exact h
end Go.Proofs.YtffncomekbfihaaGreatDoor.Nat
namespace Go.Proofs.YtffncomekbfihaaGreatDoor.Nat
open Go.RowKit Go.Shelf
set_option linter.unusedVariables false
/-- no digit stands at the head -/
def Nd (r : List Nat) : Prop := ∀ c t, r = c :: t → dg c = false
theorem nd_nil : Nd [] := fun c t h => by cases h
theorem nd_cons {c : Nat} {t : List Nat} (h : dg c = false) : Nd (c :: t) := fun c' t' e => by cases e; exact h
theorem take_app {D r : List Nat} (hD : Dgs D) (hr : Nd r) : (D ++ r).takeWhile dg = D ∧ (D ++ r).dropWhile dg = r := by
  induction D with
  | nil =>
    cases r with
    | nil => exact ⟨rfl, rfl⟩
    | cons c t => have := hr c t rfl; simp [this]
  | cons c D ih =>
    obtain ⟨h1, h2⟩ := ih (fun c' hc' => hD c' (List.mem_cons_of_mem _ hc'))
    have hc : dg c = true := by have := hD c (by simp); simpa [dg] using this
    simp [hc, h1, h2]
theorem sgc_skip {S D r : List Nat} (hD : Dgs D) (hne : D.length ≠ 0) (hS : ∀ c ∈ S, dg c = false) : sgc S (D ++ r) = (0, D ++ r) := by
  cases D with
  | nil => exact absurd rfl hne
  | cons c D =>
    have hc := hD c (by simp)
    exact sgc_neg (fun q => by have h := hS c q; have h2 : dg c = true := by simpa [dg] using hc
                               rw [h2] at h; cases h)
def sgn45 (neg : Bool) : List Nat := if neg then [45] else []
theorem sgc_head {D r : List Nat} (neg : Bool) (hD : Dgs D) (hne : D.length ≠ 0) : (decide ((sgc [45] (sgn45 neg ++ (D ++ r))).1 ≠ 0) = neg) ∧ (sgc [45] (sgn45 neg ++ (D ++ r))).2 = D ++ r := by
  cases neg with
  | true => exact ⟨rfl, rfl⟩
  | false =>
    have h : sgc [45] (D ++ r) = (0, D ++ r) := sgc_skip hD hne (by decide)
    show decide ((sgc [45] (D ++ r)).1 ≠ 0) = false ∧ (sgc [45] (D ++ r)).2 = D ++ r
    rw [h]
    exact ⟨rfl, rfl⟩
theorem scT_round {neg : Bool} {D exp : List Nat} {pl : Nat} {low : Bool} {e : Int} (h1 : D.length ≤ 800) (h2 : exp.length ≤ 4) (he : (if low then -(dval exp : Int) else dval exp) - pl = e) (e1 : -2000 ≤ e) (e2 : e ≤ 2000) : scT neg D pl exp low true = rnd neg D e := by
  unfold scT
  rw [if_neg (by decide), if_neg (by omega), he, if_neg (by omega), if_neg (by omega)]
theorem sc_of {neg : Bool} {D0 r P r2 exp : List Nat} {low : Bool} {e : Int} (hD : Dgs D0) (hne : D0.length ≠ 0) (hr : Nd r) (hB : scB r = (true, P, r2)) (hC : scC r2 = (true, exp, low, []))
    (h1 : (D0 ++ P).length ≤ 800) (h2 : exp.length ≤ 4) (he : (if low then -(dval exp : Int) else dval exp) - P.length = e) (e1 : -2000 ≤ e) (e2 : e ≤ 2000) : sc (sgn45 neg ++ (D0 ++ r)) = rnd neg (D0 ++ P) e := by
  obtain ⟨a1, a2⟩ := sgc_head (r := r) neg hD hne
  obtain ⟨b1, b2⟩ := take_app hD hr
  unfold sc
  rw [a1, a2, b1, b2, hB]
  dsimp only
  rw [hC]
  dsimp only
  rw [decide_eq_true hne]
  exact scT_round h1 h2 he e1 e2
theorem scB_dot {P r2 : List Nat} (hP : Dgs P) (hne : P.length ≠ 0) (hr : Nd r2) : scB (46 :: (P ++ r2)) = (true, P, r2) := by
  have h : sgc [46] (46 :: (P ++ r2)) = (46, P ++ r2) := rfl
  obtain ⟨b1, b2⟩ := take_app hP hr
  rw [scB_pos (by rw [h]; exact Nat.succ_ne_zero 45), h]
  dsimp only
  rw [b1, b2, decide_eq_true hne]
theorem scB_no {r : List Nat} (h : ∀ c t, r = c :: t → c ≠ 46) : scB r = (true, [], r) := by
  have h2 : sgc [46] r = (0, r) := by
    cases r with
    | nil => rfl
    | cons c t => exact sgc_neg (by have := h c t rfl; simpa using this)
  rw [scB_neg (by rw [h2]), h2]
theorem scC_none : scC [] = (true, [], false, []) := rfl
theorem scC_exp (k : Int) : scC (101 :: itoN k) = (true, dec k.natAbs, decide (k < 0), []) := by
  have h : sgc [101, 69] (101 :: itoN k) = (101, itoN k) := rfl
  rw [scC_pos (by rw [h]; exact Nat.succ_ne_zero 100), h]
  dsimp only
  have hd := dgs_dec k.natAbs
  have hn := dec_ne k.natAbs
  obtain ⟨b1, b2⟩ := take_app hd nd_nil
  rw [List.append_nil] at b1 b2
  by_cases hk : k < 0
  · have h2 : sgc [43, 45] (itoN k) = (45, dec k.natAbs) := by
      unfold itoN
      rw [if_pos hk]
      rfl
    rw [h2]
    dsimp only
    rw [b1, b2, decide_eq_true hn, decide_eq_true hk]
    rfl
  · have h2 : sgc [43, 45] (itoN k) = (0, dec k.natAbs) := by
      unfold itoN
      rw [if_neg hk, show k.toNat = k.natAbs from by omega]
      have := sgc_skip (S := [43, 45]) (r := []) hd hn (by decide)
      rwa [List.append_nil] at this
    rw [h2]
    dsimp only
    rw [b1, b2, decide_eq_true hn, decide_eq_false hk]
    rfl
theorem exp_val {k : Int} (h1 : -1999 ≤ k) (h2 : k ≤ 1999) : (dec k.natAbs).length ≤ 4 ∧ (if decide (k < 0) = true then -(dval (dec k.natAbs) : Int) else dval (dec k.natAbs)) = k := by
  refine ⟨dec_le (n := 4) (by omega) (by decide), ?_⟩
  rw [dval_dec]
  by_cases hk : k < 0
  · rw [if_pos (decide_eq_true hk)]; omega
  · rw [if_neg (by simpa using hk)]; omega
theorem dval_zeros2 (m : Nat) : Dgs (List.replicate m 48) := fun c hc => by have := List.eq_of_mem_replicate hc; omega
/-- bits with their sign again -/
theorem rnd_unsign {x : Nat} {L : List Nat} {e : Int} (hx : x < 18446744073709551616) (h : rnd false L e = (x % 9223372036854775808, 0)) : rnd (decide (x / 9223372036854775808 = 1)) L e = (x, 0) := by
  have hs : ∀ y, y = x % 9223372036854775808 → sgn (decide (x / 9223372036854775808 = 1)) y = x := fun y hy => by
    unfold sgn
    by_cases q : x / 9223372036854775808 = 1
    · rw [if_pos (decide_eq_true q)]; omega
    · rw [if_neg (by simpa using q)]; omega
  unfold rnd at *
  split at h
  · exact absurd (Prod.mk.inj h).2 (by decide)
  rename_i h1
  rw [if_neg h1]
  split at h
  · exact absurd (Prod.mk.inj h).2 (by decide)
  rename_i h2
  rw [if_neg h2]
  split at h
  · exact absurd (Prod.mk.inj h).2 (by decide)
  rename_i h3
  rw [if_neg h3]
  split at h
  · exact absurd (Prod.mk.inj h).2 (by decide)
  rename_i h4
  rw [if_neg h4]
  split at h
  · rename_i h5
    rw [if_pos h5, hs 0 (Prod.mk.inj h).1]
  rename_i h5
  rw [if_neg h5]
  split at h
  · rename_i h6
    rw [if_pos h6, hs (near (dval L * tp e) (tp (-e))) (Prod.mk.inj h).1]
  · exact absurd (Prod.mk.inj h).2 (by decide)
/-- what a float's layout says is the float -/
theorem lay_back {x p : Nat} {e : Int} {neg : Bool} (hx : x < 18446744073709551616) (hneg : neg = decide (x / 9223372036854775808 = 1)) (b1 : x % 9223372036854775808 < 9218868437227405312) (b2 : x % 9223372036854775808 ≠ 0) (hS : Short x p e) :
    sc (sgn45 neg ++ lay (dec p) e) = (x, 0) := by
  obtain ⟨hp0, hp1, hp2, he1, he2, hh, _⟩ := hS
  have hd := dgs_dec p
  have hn := dec_ne p
  have hl : (dec p).length ≤ 17 := dec_le hp2 (by decide)
  have hr : rnd neg (dec p) e = (x, 0) := by rw [hneg]; exact rnd_unsign hx hh
  unfold lay
  by_cases c1 : (dec p).length + e < -5 ∨ 21 < (dec p).length + e
  · rw [if_pos c1]
    obtain ⟨x1, x2⟩ := exp_val (k := (dec p).length + e - 1) (by omega) (by omega)
    by_cases c2 : 1 < (dec p).length
    · rw [if_pos c2]
      have t1 : Dgs ((dec p).take 1) := hd.take 1
      have t2 : ((dec p).take 1).length ≠ 0 := by rw [List.length_take]; omega
      have t3 : Dgs ((dec p).drop 1) := hd.drop 1
      have t4 : ((dec p).drop 1).length = (dec p).length - 1 := List.length_drop
      have e1 : sgn45 neg ++ ((dec p).take 1 ++ ([46] ++ (dec p).drop 1) ++ [101] ++ itoN ((dec p).length + e - 1)) = sgn45 neg ++ ((dec p).take 1 ++ (46 :: ((dec p).drop 1 ++ (101 :: itoN ((dec p).length + e - 1))))) := by simp
      rw [e1, sc_of (e := e) t1 t2 (nd_cons (by decide)) (scB_dot t3 (by omega) (nd_cons (by decide))) (scC_exp _) (by rw [List.take_append_drop]; omega) x1 (by rw [x2, t4]; omega) (by omega) (by omega), List.take_append_drop]
      exact hr
    · rw [if_neg c2]
      have t1 : (dec p).take 1 = dec p := List.take_of_length_le (by omega)
      have e1 : sgn45 neg ++ ((dec p).take 1 ++ [] ++ [101] ++ itoN ((dec p).length + e - 1)) = sgn45 neg ++ (dec p ++ (101 :: itoN ((dec p).length + e - 1))) := by rw [t1]; simp
      rw [e1, sc_of (e := e) hd hn (nd_cons (by decide)) (scB_no (fun c t q => by cases q; decide)) (scC_exp _) (by rw [List.append_nil]; omega) x1 (by rw [x2]; simp; omega) (by omega) (by omega), List.append_nil]
      exact hr
  rw [if_neg c1]
  by_cases c3 : (dec p).length + e ≤ 0
  · rw [if_pos c3]
    obtain ⟨z, hz⟩ : ∃ z : Nat, (-((dec p).length + e)).toNat = z := ⟨_, rfl⟩
    rw [hz]
    have t3 : Dgs (List.replicate z 48 ++ dec p) := Dgs.append (dval_zeros2 z) hd
    have t4 : (List.replicate z 48 ++ dec p).length = z + (dec p).length := by rw [List.length_append, List.length_replicate]
    have e1 : sgn45 neg ++ ([48, 46] ++ List.replicate z 48 ++ dec p) = sgn45 neg ++ ([48] ++ (46 :: ((List.replicate z 48 ++ dec p) ++ []))) := by simp
    rw [e1, sc_of (e := e) (D0 := [48]) (by intro c hc; simp at hc; omega) (by decide) (nd_cons (by decide)) (scB_dot t3 (by omega) nd_nil) scC_none (by rw [List.length_append, t4]; simp; omega) (by decide) (by rw [t4]; show (0 : Int) - _ = _; omega) (by omega) (by omega)]
    rw [rnd_congr (M := dec p) (Dgs.append (by intro c hc; simp at hc; omega) t3) hd (by rw [List.length_append, t4]; simp; omega) (by omega) (by simp) hn (by rw [dval_append, dval_append, dval_zeros]; simp [dval])]
    exact hr
  rw [if_neg c3]
  by_cases c4 : (dec p).length + e < (dec p).length
  · rw [if_pos c4]
    obtain ⟨z, hz⟩ : ∃ z : Nat, ((dec p).length + e).toNat = z := ⟨_, rfl⟩
    rw [hz]
    have t4 : ((dec p).drop z).length = (dec p).length - z := List.length_drop
    have t5 : ((dec p).take z).length ≠ 0 := by rw [List.length_take]; omega
    have e1 : sgn45 neg ++ ((dec p).take z ++ [46] ++ (dec p).drop z) = sgn45 neg ++ ((dec p).take z ++ (46 :: ((dec p).drop z ++ []))) := by simp
    rw [e1, sc_of (e := e) (hd.take z) t5 (nd_cons (by decide)) (scB_dot (hd.drop z) (by omega) nd_nil) scC_none (by rw [List.take_append_drop]; omega) (by decide) (by rw [t4]; show (0 : Int) - _ = _; omega) (by omega) (by omega), List.take_append_drop]
    exact hr
  · rw [if_neg c4]
    obtain ⟨z, hz⟩ : ∃ z : Nat, ((dec p).length + e - (dec p).length).toNat = z := ⟨_, rfl⟩
    rw [hz]
    have hez : e = z := by omega
    have t1 : Dgs (dec p ++ List.replicate z 48) := Dgs.append hd (dval_zeros2 z)
    have t2 : (dec p ++ List.replicate z 48).length = (dec p).length + z := by rw [List.length_append, List.length_replicate]
    have t48 : Dgs [48] := by intro c hc; simp at hc; omega
    have e1 : sgn45 neg ++ (dec p ++ List.replicate z 48 ++ [46, 48]) = sgn45 neg ++ ((dec p ++ List.replicate z 48) ++ (46 :: ([48] ++ []))) := by simp
    have hz3 : p * 10 ^ (z + 1) < 10 ^ 200 := by
      have q1 : 10 ^ (z + 1) ≤ 10 ^ 100 := Nat.pow_le_pow_right (by decide) (by omega)
      have q2 : p * 10 ^ (z + 1) ≤ 10 ^ 17 * 10 ^ 100 := Nat.mul_le_mul (Nat.le_of_lt hp2) q1
      have q3 : (10 : Nat) ^ 17 * 10 ^ 100 < 10 ^ 200 := by decide
      omega
    have hq := (hit_tens b1 b2 hp0 (z + 1) (-1) hz3 (by omega) (by omega)).2 (by rw [show (-1 : Int) + ((z + 1 : Nat) : Int) = e from by omega]; exact hh)
    rw [e1, sc_of (e := -1) t1 (by omega) (nd_cons (by decide)) (scB_dot t48 (by decide) nd_nil) scC_none (by rw [List.length_append, t2]; simp; omega) (by decide) rfl (by omega) (by omega)]
    have hr2 : rnd neg (dec (p * 10 ^ (z + 1))) (-1) = (x, 0) := by rw [hneg]; exact rnd_unsign hx hq
    have hl2 : (dec (p * 10 ^ (z + 1))).length ≤ 200 := dec_le hz3 (by decide)
    rw [rnd_congr (M := dec (p * 10 ^ (z + 1))) (Dgs.append t1 t48) (dgs_dec _) (by rw [List.length_append, t2]; simp; omega) (by omega) (by simp) (dec_ne _) (by
      rw [dval_append, dval_append, dval_zeros, dval_dec, dval_dec, List.length_replicate]
      show (p * 10 ^ z + 0) * 10 ^ 1 + 0 = _
      rw [Nat.add_zero, Nat.add_zero, Nat.pow_one, Nat.mul_assoc, ← Nat.pow_succ])]
    exact hr2
/-- zero -/
theorem lay_zero {x : Nat} {neg : Bool} (hx : x < 18446744073709551616) (hneg : neg = decide (x / 9223372036854775808 = 1)) (h0 : x % 9223372036854775808 = 0) : sc (sgn45 neg ++ lay [48] 0) = (x, 0) := by
  have e1 : lay [48] 0 = [48] ++ (46 :: ([48] ++ [])) := by decide
  rw [e1, sc_of (e := -1) (by intro c hc; simp at hc; omega) (by decide) (nd_cons (by decide)) (scB_dot (by intro c hc; simp at hc; omega) (by decide) nd_nil) scC_none (by decide) (by decide) rfl (by omega) (by omega), hneg]
  apply rnd_unsign hx
  rw [h0]
  decide +kernel
end Go.Proofs.YtffncomekbfihaaGreatDoor.Nat
namespace Go.Proofs.YtffncomekbfihaaGreatDoor.Nat
open Go.RowKit Go.Shelf
set_option linter.unusedVariables false
/-- digits and an exponent that some finite bits have -/
def Digs (x : Nat) (d : List Nat) (e : Int) : Prop := (exM x = 0 ∧ d = [48] ∧ e = 0) ∨ (exM x ≠ 0 ∧ ∃ (p z n t : Nat) (hi : Int), d = dec p ∧ Short x p e ∧ e = hi - n + z ∧ t = p * 10 ^ z ∧ p % 10 ≠ 0 ∧ Found x (xM x * up (xX x)) (up (-(xX x))) hi n t)
theorem digs_len {x : Nat} {d : List Nat} {e : Int} (h : Digs x d e) : 1 ≤ d.length ∧ d.length ≤ 17 ∧ -1000 ≤ e ∧ e ≤ 1000 := by
  rcases h with ⟨_, rfl, rfl⟩ | ⟨_, p, z, n, t, hi, rfl, hS, _⟩
  · exact ⟨by decide, by decide, by decide, by decide⟩
  · obtain ⟨_, _, hp, h1, h2, _⟩ := hS
    have := dec_ne p
    exact ⟨by omega, dec_le hp (by decide), h1, h2⟩
theorem short_any (x : Nat) (w : World) (hx : x < 18446744073709551616) (h : fe x ≠ 2047) :
    Calls Tryz.prog 7 #[.int .u64 (x : Int)] w fun en w' => ∃ (s : ByteArray) (e : Int), en = .returned (.tuple #[.string s, .int .i64 e, .int .i64 0]) ∧ Digs x (bts s) e ∧ Below w.heap.size w w' := by
  by_cases h0 : exM x = 0
  · refine (shortest_zero x w hx h h0).mono ?_
    rintro e w' ⟨rfl, hb⟩
    exact ⟨_, _, rfl, .inl ⟨h0, rfl, rfl⟩, hb⟩
  · refine (shortest_calls x w hx h h0).mono ?_
    rintro en w' ⟨s, p, z, n, t, hi, rfl, hs, ht, hp, hz, hf, h1, h2, hb⟩
    exact ⟨_, _, rfl, .inr ⟨h0, p, z, n, t, hi, hs, found_short h h0 hf h1 h2 ht hp hz, rfl, ht, hp, hf⟩, hb⟩
theorem digs_back {x : Nat} {d : List Nat} {e : Int} (hx : x < 18446744073709551616) (h : fe x ≠ 2047) (hd : Digs x d e) : sc (sgl x ++ lay d e) = (x, 0) := by
  have hs : sgl x = sgn45 (decide (x / 9223372036854775808 = 1)) := by
    unfold sgl sgn45
    simp
  rw [hs]
  rcases hd with ⟨h0, rfl, rfl⟩ | ⟨h0, p, z, n, t, hi, rfl, hS, _⟩
  · refine lay_zero hx rfl ?_
    unfold exM fe ff at h0
    unfold fe at h
    split at h0 <;> omega
  · obtain ⟨b1, b2⟩ := bits_fin h h0
    exact lay_back hx rfl b1 b2 hS
theorem digs_round {x : Nat} {d : List Nat} {e : Int} (hx : x < 18446744073709551616) (h : fe x ≠ 2047) (hd : Digs x d e) : rnd (decide (x / 9223372036854775808 = 1)) d e = (x, 0) := by
  rcases hd with ⟨h0, rfl, rfl⟩ | ⟨h0, p, z, n, t, hi, rfl, hS, _⟩
  · apply rnd_unsign hx
    have : x % 9223372036854775808 = 0 := by
      unfold exM fe ff at h0
      unfold fe at h
      split at h0 <;> omega
    rw [this]
    decide +kernel
  · obtain ⟨_, _, _, _, _, hh, _⟩ := hS
    exact rnd_unsign hx hh
theorem itoN_len {k : Int} (h1 : -9999 ≤ k) (h2 : k ≤ 9999) : (itoN k).length ≤ 5 := by
  have h3 : (dec k.natAbs).length ≤ 4 := dec_le (n := 4) (by omega) (by decide)
  have h4 : (dec k.toNat).length ≤ 4 := dec_le (n := 4) (by omega) (by decide)
  unfold itoN
  split
  · rw [List.length_cons]; omega
  · omega
set_option maxHeartbeats 16000000 in
set_option maxRecDepth 100000 in
theorem text_calls (x : Nat) (w : World) (hx : x < 18446744073709551616) (h : fe x ≠ 2047) (T : Lib.TabIs Tryz.prog w "internal/strconv.uint64pow10" .u64 Lib.pow10Tab) :
    Calls Tryz.prog 9 #[.int .u64 (x : Int)] w fun en w' => ∃ (S : ByteArray) (d : List Nat) (e : Int), en = .returned (.tuple #[.string S, .int .i64 0]) ∧ bts S = sgl x ++ lay d e ∧ Digs x d e ∧ Below w.heap.size w w' := by
  have k1 := short_any x w hx h
  have hand := and_sign hx
  obtain ⟨AS, hAS⟩ : ∃ AS, x / 9223372036854775808 * 9223372036854775808 = AS := ⟨_, rfl⟩
  rw [hAS] at hand
  have HAS : Hid _ := Lib.hid hAS
  clear hAS
  have kI := fun n h0 h1 W (hb : Below w.heap.size w W) => Tryz.strconv_Itoa n h0 h1 W (Lib.tabBelow_of_tabIs T W hb)
  have kR := fun c W hc hl => Tryz.strings_Repeat ⟨#[48]⟩ c W hc hl
  clear T
  go_enter Tryz.func9, Tryz.ntmps9
  go_upto_if 20 with (go_at_call 7; (with_reducible refine k1.mono ?_); clear k1; rintro e1 w1 ⟨sD, e, rfl, hD, hb1⟩)
  obtain ⟨l1, l2, l3, l4⟩ := digs_len hD
  have hzd := bts_length sD
  have HD : Hid _ := Lib.hid hD
  clear hD
  go_cut [7] (fun v7 wx => ∃ s0, v7 = .string s0 ∧ bts s0 = sgl x ∧ wx = w1)
  case first =>
    go_wp2
    · rename_i hq
      have hn : x / 9223372036854775808 = 1 := by
        have h1 := HAS.out
        simp at hq
        omega
      have hs : sgl x = [45] := if_pos hn
      go_meet
      case rel => exact ⟨_, rfl, by rw [hs]; rfl, rfl⟩
    · rename_i hq
      have hn : ¬ x / 9223372036854775808 = 1 := by
        have h1 := HAS.out
        simp at hq
        omega
      have hs : sgl x = [] := if_neg hn
      go_meet
      case rel => exact ⟨⟨#[]⟩, rfl, by rw [hs]; rfl, rfl⟩
  case rest =>
    obtain ⟨s0, rfl, hs0, rfl⟩ := hcut
    have hz0 : s0.size ≤ 1 := by
      have h1 := bts_length s0
      rw [hs0] at h1
      unfold sgl at h1
      split at h1 <;> simp at h1 <;> omega
    have Hs0 : Hid _ := Lib.hid hs0
    clear hs0 hand
    obtain ⟨d, hd⟩ : ∃ d, bts sD = d := ⟨_, rfl⟩
    rw [hd] at l1 l2 hzd HD
    have Hd : Hid _ := Lib.hid hd
    clear hd
    by_cases c1 : (d.length : Int) + e < -5 ∨ 21 < (d.length : Int) + e
    · obtain ⟨P, hP⟩ : ∃ P : Int, (d.length : Int) + e = P := ⟨_, rfl⟩
      have hwP : IntKind.i64.wrap ((sD.size : Int) + e) = P := by rw [IntKind.wrap_i64]; omega
      have hwP1 : IntKind.i64.wrap (P - 1) = P - 1 := by rw [IntKind.wrap_i64]; omega
      have hlay : lay d e = d.take 1 ++ (if 1 < d.length then [46] ++ d.drop 1 else []) ++ [101] ++ itoN (P - 1) := by unfold lay; rw [if_pos c1, hP]
      have hi2 : (Lib.itoa (P - 1)).length ≤ 40 := by
        have h1 := congrArg List.length (bts_itoa (P - 1))
        rw [bts_mk, List.length_map] at h1
        rw [h1]
        have h2 := itoN_len (k := P - 1) (by omega) (by omega)
        omega
      have hbi := bts_itoa (P - 1)
      have ki := kI (P - 1) (by omega) (by omega)
      clear kI kR
      obtain ⟨Z, hZ⟩ : ∃ Z : ByteArray, ⟨(Lib.itoa (P - 1)).toArray⟩ = Z := ⟨_, rfl⟩
      have hzZ : Z.size ≤ 40 := by rw [← hZ]; show (Lib.itoa (P - 1)).toArray.size ≤ 40; simpa using hi2
      rw [hZ] at ki hbi
      have hx1 : (sD.extract 0 1).size = 1 := by rw [ByteArray.size_extract]; omega
      have H1 : Hid _ := Lib.hid (And.intro hlay hbi)
      rw [hP] at c1
      have C1 : Hid _ := Lib.hid c1
      clear hlay hbi hZ hi2 hP
      by_cases c5 : P < -5
      · clear c1
        by_cases c2 : 1 < d.length
        · have c2I : (1 : Int) < (sD.size : Int) := by omega
          have hx2 : (sD.extract 1 sD.size).size = sD.size - 1 := by rw [ByteArray.size_extract]; omega
          go_wp2_with (go_at_call 31; (with_reducible refine (ki _ hb1).mono ?_); clear ki; rintro e3 w3 ⟨rfl, kk, os, rfl⟩)
          go_ret2
          refine ⟨_, d, e, rfl, ?_, HD.out, hb1.trans (Lib.below_grow _ _ hb1.size _ _)⟩
          rw [H1.out.1, bts_append, bts_append, bts_append, bts_append, bts_append, H1.out.2, bts_head, bts_tail, Hs0.out, Hd.out, if_pos c2]
          simp [List.append_assoc]
          rfl
        · have c2I : ¬ (1 : Int) < (sD.size : Int) := by omega
          go_wp2_with (go_at_call 31; (with_reducible refine (ki _ hb1).mono ?_); clear ki; rintro e3 w3 ⟨rfl, kk, os, rfl⟩)
          go_ret2
          refine ⟨_, d, e, rfl, ?_, HD.out, hb1.trans (Lib.below_grow _ _ hb1.size _ _)⟩
          rw [H1.out.1, bts_append, bts_append, bts_append, H1.out.2, bts_head, Hs0.out, Hd.out, if_neg c2]
          simp [List.append_assoc]
          rfl
      · have c6 : 21 < P := by omega
        clear c1
        by_cases c2 : 1 < d.length
        · have c2I : (1 : Int) < (sD.size : Int) := by omega
          have hx2 : (sD.extract 1 sD.size).size = sD.size - 1 := by rw [ByteArray.size_extract]; omega
          go_wp2_with (go_at_call 31; (with_reducible refine (ki _ hb1).mono ?_); clear ki; rintro e3 w3 ⟨rfl, kk, os, rfl⟩)
          go_ret2
          refine ⟨_, d, e, rfl, ?_, HD.out, hb1.trans (Lib.below_grow _ _ hb1.size _ _)⟩
          rw [H1.out.1, bts_append, bts_append, bts_append, bts_append, bts_append, H1.out.2, bts_head, bts_tail, Hs0.out, Hd.out, if_pos c2]
          simp [List.append_assoc]
          rfl
        · have c2I : ¬ (1 : Int) < (sD.size : Int) := by omega
          go_wp2_with (go_at_call 31; (with_reducible refine (ki _ hb1).mono ?_); clear ki; rintro e3 w3 ⟨rfl, kk, os, rfl⟩)
          go_ret2
          refine ⟨_, d, e, rfl, ?_, HD.out, hb1.trans (Lib.below_grow _ _ hb1.size _ _)⟩
          rw [H1.out.1, bts_append, bts_append, bts_append, H1.out.2, bts_head, Hs0.out, Hd.out, if_neg c2]
          simp [List.append_assoc]
          rfl
    · by_cases c3 : (d.length : Int) + e ≤ 0
      · obtain ⟨c, hc⟩ : ∃ c : Nat, (-((d.length : Int) + e)).toNat = c := ⟨_, rfl⟩
        have hwP : IntKind.i64.wrap ((sD.size : Int) + e) = -(c : Int) := by rw [IntKind.wrap_i64]; omega
        have hwN : IntKind.i64.wrap (- -(c : Int)) = (c : Int) := by rw [IntKind.wrap_i64]; omega
        have hwN2 : IntKind.i64.wrap ((c : Int)) = (c : Int) := by rw [IntKind.wrap_i64]; omega
        have hlay : lay d e = [48, 46] ++ List.replicate c 48 ++ d := by unfold lay; rw [if_neg c1, if_pos c3, hc]
        have kr := fun W => kR c W (by omega) (by show 1 * c ≤ _; omega)
        obtain ⟨Z, hZ⟩ : ∃ Z : ByteArray, ⟨(Lib.repeatL ((⟨#[48]⟩ : ByteArray)).data.toList c).toArray⟩ = Z := ⟨_, rfl⟩
        have hbZ : bts Z = List.replicate c 48 := by rw [← hZ, bts_mk]; exact repeat_map c
        rw [hZ] at kr
        have hzZ : Z.size = c := by rw [← bts_length, hbZ, List.length_replicate]
        have H1 : Hid _ := Lib.hid (And.intro hlay hbZ)
        have q1 : ¬ -(c : Int) < -5 := by omega
        have q2 : ¬ 21 < -(c : Int) := by omega
        have q3 : -(c : Int) ≤ 0 := by omega
        have hc5 : c ≤ 5 := by omega
        clear hlay hbZ hZ hc c1 c3 kI kR
        go_wp2_with (go_at_call 32; (with_reducible refine (kr _).mono ?_); clear kr; rintro e3 w3 ⟨rfl, hb3⟩)
        go_ret2
        refine ⟨_, d, e, rfl, ?_, HD.out, below_step hb1 hb3⟩
        rw [H1.out.1, bts_append, bts_append, bts_append, H1.out.2, Hs0.out, Hd.out]
        simp [List.append_assoc]
        rfl
      · by_cases c4 : (d.length : Int) + e < d.length
        · obtain ⟨c, hc⟩ : ∃ c : Nat, ((d.length : Int) + e).toNat = c := ⟨_, rfl⟩
          have hwP : IntKind.i64.wrap ((sD.size : Int) + e) = (c : Int) := by rw [IntKind.wrap_i64]; omega
          have hlay : lay d e = d.take c ++ [46] ++ d.drop c := by unfold lay; rw [if_neg c1, if_neg c3, if_pos c4, hc]
          have H1 : Hid _ := Lib.hid hlay
          have q1 : ¬ (c : Int) < -5 := by omega
          have q2 : ¬ 21 < (c : Int) := by omega
          have q3 : ¬ (c : Int) ≤ 0 := by omega
          have q4 : (c : Int) < (sD.size : Int) := by omega
          have q5 : c ≤ sD.size := by omega
          have hx1 : (sD.extract 0 c).size = c := by rw [ByteArray.size_extract]; omega
          have hx2 : (sD.extract c sD.size).size = sD.size - c := by rw [ByteArray.size_extract]; omega
          clear hlay hc c1 c3 c4 kI kR
          go_wp2_with fail
          go_quiet (fail)
          go_wp2_with fail
          go_ret2
          refine ⟨_, d, e, rfl, ?_, HD.out, below_dr hb1 _⟩
          rw [H1.out, bts_append, bts_append, bts_append, bts_head, bts_tail, Hs0.out, Hd.out]
          simp [List.append_assoc]
          rfl
        · obtain ⟨c, hc⟩ : ∃ c : Nat, ((d.length : Int) + e - d.length).toNat = c := ⟨_, rfl⟩
          have hwP : IntKind.i64.wrap ((sD.size : Int) + e) = ((d.length + c : Nat) : Int) := by rw [IntKind.wrap_i64]; omega
          obtain ⟨P, hP⟩ : ∃ P, d.length + c = P := ⟨_, rfl⟩
          rw [hP] at hwP
          have hwN : IntKind.i64.wrap ((P : Int) - (sD.size : Int)) = (c : Int) := by rw [IntKind.wrap_i64]; omega
          have hlay : lay d e = d ++ List.replicate c 48 ++ [46, 48] := by unfold lay; rw [if_neg c1, if_neg c3, if_neg c4, hc]
          have kr := fun W => kR c W (by omega) (by show 1 * c ≤ _; omega)
          obtain ⟨Z, hZ⟩ : ∃ Z : ByteArray, ⟨(Lib.repeatL ((⟨#[48]⟩ : ByteArray)).data.toList c).toArray⟩ = Z := ⟨_, rfl⟩
          have hbZ : bts Z = List.replicate c 48 := by rw [← hZ, bts_mk]; exact repeat_map c
          rw [hZ] at kr
          have hzZ : Z.size = c := by rw [← bts_length, hbZ, List.length_replicate]
          have H1 : Hid _ := Lib.hid (And.intro hlay hbZ)
          have q1 : ¬ (P : Int) < -5 := by omega
          have q2 : ¬ 21 < (P : Int) := by omega
          have q3 : ¬ (P : Int) ≤ 0 := by omega
          have q4 : ¬ (P : Int) < (sD.size : Int) := by omega
          have q5 : c ≤ 21 := by omega
          clear hlay hbZ hZ hc hP c1 c3 c4 kI kR
          go_wp2_with (go_at_call 32; (with_reducible refine (kr _).mono ?_); clear kr; rintro e3 w3 ⟨rfl, hb3⟩)
          go_ret2
          refine ⟨_, d, e, rfl, ?_, HD.out, below_step hb1 hb3⟩
          rw [H1.out.1, bts_append, bts_append, bts_append, H1.out.2, Hs0.out, Hd.out]
          simp [List.append_assoc]
          rfl
end Go.Proofs.YtffncomekbfihaaGreatDoor.Nat
namespace Go.Proofs.YtffncomekbfihaaGreatDoor.Nat
set_option linter.unusedVariables false
set_option linter.unusedSimpArgs false
theorem isTen_le {a b : Nat} {h h' : Int} (h1 : IsTen a b h) (h2 : IsTen a b h') : h ≤ h' := by
  rcases Int.lt_or_le h' h with q | q
  · exfalso
    obtain ⟨k, hk⟩ : ∃ k : Nat, h = h' + 1 + k := ⟨(h - h' - 1).toNat, by omega⟩
    have h3 := h1.1
    rw [hk] at h3
    have h4 := ten_ge.1 h3
    have h5 := Nat.le_mul_of_pos_left (b * tp (h' + 1)) (Nat.pow_pos (n := k) (show 0 < 10 by decide))
    have h6 := h2.2
    omega
  · exact q
theorem rhe_or (a b : Nat) : rhe a b = a / b ∨ rhe a b = a / b + 1 := by
  unfold rhe
  split
  · exact .inr rfl
  · exact .inl rfl
theorem found_uniq {x a b n n' t t' : Nat} {hi hi' : Int} (h : Found x a b hi n t) (h' : Found x a b hi' n' t') : hi = hi' ∧ n = n' ∧ t = t' := by
  obtain ⟨_, a1, a2, a3, a4, a5⟩ := h
  obtain ⟨_, b1, b2, b3, b4, b5⟩ := h'
  have e1 : hi = hi' := Int.le_antisymm (isTen_le a1 b1) (isTen_le b1 a1)
  subst e1
  have e2 : n = n' := by
    rcases Nat.lt_trichotomy n n' with q | q | q
    · exfalso
      obtain ⟨c1, c2⟩ := b5 n q
      rcases a2 with rfl | rfl
      · exact c1 a3
      · exact c2 a3
    · exact q
    · exfalso
      obtain ⟨c1, c2⟩ := a5 n' q
      rcases b2 with rfl | rfl
      · exact c1 b3
      · exact c2 b3
  subst e2
  refine ⟨rfl, rfl, ?_⟩
  have hf : fst a b (hi - n) = qd a b (hi - n) ∨ fst a b (hi - n) = qd a b (hi - n) + 1 := rhe_or _ _
  by_cases c1 : t = fst a b (hi - n)
  · by_cases c2 : t' = fst a b (hi - n)
    · rw [c1, c2]
    · exact absurd (c1 ▸ a3) (b4 c2)
  · by_cases c2 : t' = fst a b (hi - n)
    · exact absurd (c2 ▸ b3) (a4 c1)
    · omega
theorem strip_le {p p' z z' : Nat} (h : p * 10 ^ z = p' * 10 ^ z') (hp : p % 10 ≠ 0) : z' ≤ z := by
  rcases Nat.lt_or_ge z z' with q | q
  · exfalso
    obtain ⟨k, hk⟩ : ∃ k, z' = z + (k + 1) := ⟨z' - z - 1, by omega⟩
    have hz := Nat.pow_pos (n := z) (show 0 < 10 by decide)
    rw [hk, Nat.pow_add, Nat.mul_comm (10 ^ z), ← Nat.mul_assoc] at h
    have h2 := Nat.eq_of_mul_eq_mul_right hz h
    rw [Nat.pow_succ, ← Nat.mul_assoc] at h2
    omega
  · exact q
theorem strip_uniq {p p' z z' : Nat} (h : p * 10 ^ z = p' * 10 ^ z') (hp : p % 10 ≠ 0) (hp' : p' % 10 ≠ 0) : p = p' ∧ z = z' := by
  have e := Nat.le_antisymm (strip_le h.symm hp') (strip_le h hp)
  subst e
  exact ⟨Nat.eq_of_mul_eq_mul_right (Nat.pow_pos (show 0 < 10 by decide)) h, rfl⟩
/-- bits have one shortest decimal -/
theorem digs_uniq {x : Nat} {d d' : List Nat} {e e' : Int} (h : Digs x d e) (h' : Digs x d' e') : d = d' ∧ e = e' := by
  rcases h with ⟨a0, rfl, rfl⟩ | ⟨a0, p, z, n, t, hi, rfl, _, rfl, ht, hp, hf⟩
  · rcases h' with ⟨_, rfl, rfl⟩ | ⟨b0, _⟩
    · exact ⟨rfl, rfl⟩
    · exact absurd a0 b0
  · rcases h' with ⟨b0, _⟩ | ⟨_, p', z', n', t', hi', rfl, _, rfl, ht', hp', hf'⟩
    · exact absurd b0 a0
    · obtain ⟨rfl, rfl, rfl⟩ := found_uniq hf hf'
      obtain ⟨rfl, rfl⟩ := strip_uniq (ht.symm.trans ht') hp hp'
      exact ⟨rfl, rfl⟩
theorem bts_inj {s t : ByteArray} (h : bts s = bts t) : s = t := by
  unfold bts at h
  have h1 : s.data.toList = t.data.toList := List.map_inj_right (fun a b e => UInt8.toNat.inj e) |>.1 h
  exact ByteArray.ext (Array.toList_inj.1 h1)
/-- the guess of the highest digit's place -/
def est (D : Int) : Int := Int.tdiv (D * 30103) 100000 - 2
def estOk (D : Int) : Bool := decide (tp (est D) * up (-(D - 1)) ≤ tp (-(est D)) * up (D - 1)) && decide (up (D + 1) * tp (-(est D + 6)) ≤ up (-(D + 1)) * tp (est D + 6))
theorem est_all : ((List.range 2200).all fun i => estOk ((i : Int) - 1100)) = true := by decide +kernel
theorem est_ok {D : Int} (h1 : -1100 ≤ D) (h2 : D < 1100) : tp (est D) * up (-(D - 1)) ≤ tp (-(est D)) * up (D - 1) ∧ up (D + 1) * tp (-(est D + 6)) ≤ up (-(D + 1)) * tp (est D + 6) := by
  have h := List.all_eq_true.1 est_all (D + 1100).toNat (List.mem_range.2 (by omega))
  rw [show ((D + 1100).toNat : Int) - 1100 = D from by omega] at h
  unfold estOk at h
  rw [Bool.and_eq_true, decide_eq_true_iff, decide_eq_true_iff] at h
  exact h
theorem est_low {a b : Nat} (ha : a ≠ 0) (hb : b ≠ 0) (h1 : -1100 ≤ lg0 a b) (h2 : lg0 a b < 1100) : b * tp (est (lg0 a b)) ≤ a * tp (-(est (lg0 a b))) := by
  have h3 := lg_above ha hb
  unfold geP at h3
  have h4 := (est_ok h1 h2).1
  have hU := up_pos (-(lg0 a b - 1))
  generalize up (-(lg0 a b - 1)) = U' at *
  generalize up (lg0 a b - 1) = U at *
  generalize tp (est (lg0 a b)) = T at *
  generalize tp (-(est (lg0 a b))) = T' at *
  refine Nat.le_of_mul_le_mul_right ?_ hU
  calc b * T * U' = b * (T * U') := Nat.mul_assoc _ _ _
    _ ≤ b * (T' * U) := Nat.mul_le_mul_left _ h4
    _ = T' * (b * U) := by rw [Nat.mul_left_comm]
    _ ≤ T' * (a * U') := Nat.mul_le_mul_left _ h3
    _ = a * T' * U' := by rw [Nat.mul_left_comm, Nat.mul_assoc]
theorem est_high {a b : Nat} (ha : a ≠ 0) (hb : b ≠ 0) (h1 : -1100 ≤ lg0 a b) (h2 : lg0 a b < 1100) : a * tp (-(est (lg0 a b) + 6)) < b * tp (est (lg0 a b) + 6) := by
  have h3 := lg_below ha hb
  unfold geP at h3
  have h4 := (est_ok h1 h2).2
  have hV := up_pos (lg0 a b + 1)
  have hS := tp_pos (est (lg0 a b) + 6)
  have hS' := tp_pos (-(est (lg0 a b) + 6))
  have hV' := up_pos (-(lg0 a b + 1))
  generalize up (-(lg0 a b + 1)) = V' at *
  generalize up (lg0 a b + 1) = V at *
  generalize tp (est (lg0 a b) + 6) = S at *
  generalize tp (-(est (lg0 a b) + 6)) = S' at *
  refine Nat.lt_of_mul_lt_mul_right (a := V') ?_
  calc a * S' * V' = a * V' * S' := by rw [Nat.mul_assoc, Nat.mul_comm S', ← Nat.mul_assoc]
    _ < b * V * S' := Nat.mul_lt_mul_of_pos_right (by omega) hS'
    _ = b * (V * S') := Nat.mul_assoc _ _ _
    _ ≤ b * (V' * S) := Nat.mul_le_mul_left _ h4
    _ = b * S * V' := by rw [Nat.mul_comm V', ← Nat.mul_assoc]
end Go.Proofs.YtffncomekbfihaaGreatDoor.Nat
