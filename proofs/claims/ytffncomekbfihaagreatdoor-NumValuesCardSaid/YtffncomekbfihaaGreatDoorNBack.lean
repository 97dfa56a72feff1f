/- The texts of floats are numbers; bytes are told by their number. num.Value at any whole number; nat.Bytes. num.Value at floats, and at what is too long; glossatorlaw07.same. -/
import Derived.Test.YtffncomekbfihaaGreatDoorAwake7
import Derived.Test.YtffncomekbfihaaGreatDoorRef18
import Derived.Test.YtffncomekbfihaaGreatDoorNatSub
namespace Go.Proofs.YtffncomekbfihaaGreatDoor.Nat
open Go.RowKit Go.Shelf
set_option linter.unusedVariables false
set_option linter.unusedSimpArgs false
/-- the state behind bytes -/
def run (st : Int) (L : List Nat) : Int := L.foldl (fun (s : Int) (c : Nat) => stepN s (c : Int)) st
theorem run_nil (st : Int) : run st [] = st := rfl
theorem run_cons (st : Int) (c : Nat) (L : List Nat) : run st (c :: L) = run (stepN st c) L := rfl
theorem run_append (st : Int) (a b : List Nat) : run st (a ++ b) = run (run st a) b := by unfold run; rw [List.foldl_append]
theorem stq9 (c : Int) : stepN 9 c = 9 := by unfold stepN; simp
theorem run9 (L : List Nat) : run 9 L = 9 := by
  induction L with
  | nil => rfl
  | cons c L ih => rw [run_cons, stq9, ih]
theorem nsc_run {L : List Nat} : ∀ {st q : Int} (i : Nat), run st L = q → q ≠ 9 → nsc st L i = if endsN q then (i + L.length, 0) else (i + L.length, 3) := by
  induction L with
  | nil => intro st q i h _; rw [run_nil] at h; subst h; rfl
  | cons c L ih =>
    intro st q i h hq
    rw [run_cons] at h
    have h9 : stepN st c ≠ 9 := fun e => by rw [e, run9] at h; exact hq h.symm
    rw [nsc_cons, if_neg h9, ih (i + 1) h hq, List.length_cons, show i + 1 + L.length = i + (L.length + 1) from by omega]
theorem stq_dg {st : Int} {c : Nat} (hs : st = 3 ∨ st = 5 ∨ st = 8) (h1 : 48 ≤ c) (h2 : c ≤ 57) : stepN st (c : Int) = st := by
  unfold stepN
  rcases hs with rfl | rfl | rfl
  · rw [if_neg (by decide), if_pos (by decide), if_neg (by omega), if_neg (by omega), if_pos (by omega)]
  · rw [if_neg (by decide), if_pos (by decide), if_neg (by omega), if_neg (by omega), if_pos (by omega)]
  · rw [if_neg (by decide), if_neg (by decide), if_neg (by decide), if_pos (by decide), if_neg (by omega), if_pos (by omega)]
theorem run_dgs {st : Int} {D : List Nat} (hs : st = 3 ∨ st = 5 ∨ st = 8) (h : Dgs D) : run st D = st := by
  induction D with
  | nil => rfl
  | cons c D ih =>
    have hc := h c (by simp)
    rw [run_cons, stq_dg hs hc.1 hc.2, ih (fun x hx => h x (List.mem_cons_of_mem _ hx))]
theorem stq4 {c : Nat} (h1 : 48 ≤ c) (h2 : c ≤ 57) : stepN 4 (c : Int) = 5 := by
  unfold stepN
  rw [if_neg (by decide), if_neg (by decide), if_pos (by decide), if_pos (by omega)]
theorem stq67 {st : Int} {c : Nat} (hs : st = 6 ∨ st = 7) (h1 : 48 ≤ c) (h2 : c ≤ 57) : stepN st (c : Int) = 8 := by
  unfold stepN
  rcases hs with rfl | rfl
  · rw [if_neg (by decide), if_neg (by decide), if_neg (by decide), if_pos (by decide), if_neg (by omega), if_pos (by omega)]
  · rw [if_neg (by decide), if_neg (by decide), if_neg (by decide), if_pos (by decide), if_neg (by omega), if_pos (by omega)]
theorem run4 {D : List Nat} (h : Dgs D) (h0 : D.length ≠ 0) : run 4 D = 5 := by
  cases D with
  | nil => exact absurd rfl h0
  | cons c D =>
    have hc := h c (by simp)
    rw [run_cons, stq4 hc.1 hc.2, run_dgs (.inr (.inl rfl)) (fun x hx => h x (List.mem_cons_of_mem _ hx))]
theorem run67 {st : Int} {D : List Nat} (hs : st = 6 ∨ st = 7) (h : Dgs D) (h0 : D.length ≠ 0) : run st D = 8 := by
  cases D with
  | nil => exact absurd rfl h0
  | cons c D =>
    have hc := h c (by simp)
    rw [run_cons, stq67 hs hc.1 hc.2, run_dgs (.inr (.inr rfl)) (fun x hx => h x (List.mem_cons_of_mem _ hx))]
theorem stq01 {st : Int} {c : Nat} (hs : st = 0 ∨ st = 1) (h1 : 48 < c) (h2 : c ≤ 57) : stepN st (c : Int) = 3 := by
  unfold stepN
  rw [if_pos hs, if_neg (by omega), if_neg (by omega), if_pos (by omega)]
theorem run01 {st : Int} {c : Nat} {r : List Nat} (hs : st = 0 ∨ st = 1) (hc : c ≠ 48) (hd : Dgs (c :: r)) : run st (c :: r) = 3 := by
  have h := hd c (by simp)
  rw [run_cons, stq01 hs (by omega) h.2, run_dgs (.inl rfl) (fun x hx => hd x (List.mem_cons_of_mem _ hx))]
theorem run_ito (k : Int) : run 6 (itoN k) = 8 := by
  unfold itoN
  split
  · rw [run_cons, show stepN 6 ((45 : Nat) : Int) = 7 from by decide, run67 (.inr rfl) (dgs_dec _) (dec_ne _)]
  · exact run67 (.inl rfl) (dgs_dec _) (dec_ne _)
theorem dgs_zeros (n : Nat) : Dgs (List.replicate n 48) := fun c hc => by have := (List.mem_replicate.1 hc).2; omega
theorem dgs_app {a b : List Nat} (ha : Dgs a) (hb : Dgs b) : Dgs (a ++ b) := fun c hc => by
  rcases List.mem_append.1 hc with h | h
  · exact ha c h
  · exact hb c h
theorem run_lay {st : Int} {c : Nat} {r : List Nat} {e : Int} (hs : st = 0 ∨ st = 1) (hc : c ≠ 48) (hd : Dgs (c :: r)) : run st (lay (c :: r) e) = 5 ∨ run st (lay (c :: r) e) = 8 := by
  have hc2 := hd c (by simp)
  have hr : Dgs r := fun x hx => hd x (List.mem_cons_of_mem _ hx)
  have h46 : stepN 3 ((46 : Nat) : Int) = 4 := by decide
  unfold lay
  split
  · right
    have hrc : run st [c] = 3 := by rw [run_cons, run_nil, stq01 hs (by omega) hc2.2]
    have h5 : run 5 [101] = 6 := by decide
    have h3 : run 3 [101] = 6 := by decide
    rw [run_append, run_append, run_append, show (c :: r).take 1 = [c] from rfl, hrc]
    by_cases h1 : 1 < (c :: r).length
    · have hm : run 3 ([46] ++ r) = 5 := by
        rw [run_append, show run 3 [46] = 4 from by decide, run4 hr (by simp at h1; omega)]
      rw [if_pos h1, show (c :: r).drop 1 = r from rfl, hm, h5, run_ito]
    · rw [if_neg h1, run_nil, h3, run_ito]
  · left
    split
    · rw [run_append, run_append, show run st [48, 46] = 4 from by rcases hs with rfl | rfl <;> decide, ← run_append]
      exact run4 (dgs_app (dgs_zeros _) hd) (by rw [List.length_append, List.length_cons]; omega)
    · rename_i h2 h3
      split
      · rename_i h4
        obtain ⟨k, hk⟩ : ∃ k, (((c :: r).length : Int) + e).toNat = k + 1 := ⟨(((c :: r).length : Int) + e).toNat - 1, by omega⟩
        rw [hk, List.take_succ_cons, List.drop_succ_cons, run_append, run_append]
        have hdt : Dgs (c :: r.take k) := fun x hx => by
          rcases List.mem_cons.1 hx with h | h
          · exact hd x (by rw [h]; simp)
          · exact hr x (List.mem_of_mem_take h)
        rw [run01 hs hc hdt, run_cons, run_nil, h46]
        exact run4 (fun x hx => hr x (List.mem_of_mem_drop hx)) (by rw [List.length_drop]; rw [List.length_cons] at *; omega)
      · rw [run_append, run_append, run01 hs hc hd, run_dgs (.inl rfl) (dgs_zeros _), run_cons, h46, run_cons, run_nil]
        decide
theorem lay_dot (d : List Nat) (e : Int) : 46 ∈ lay d e ∨ 101 ∈ lay d e := by
  unfold lay
  split
  · right; simp
  · left
    split
    · simp
    · split
      · simp
      · simp
theorem nsc_lay {x : Nat} {d : List Nat} {e : Int} (hd : Digs x d e) : nsc 0 (sgl x ++ lay d e) 0 = ((sgl x ++ lay d e).length, 0) := by
  obtain ⟨st, hst, hs⟩ : ∃ st : Int, run 0 (sgl x) = st ∧ (st = 0 ∨ st = 1) := by
    unfold sgl
    split
    · exact ⟨1, by decide, .inr rfl⟩
    · exact ⟨0, rfl, .inl rfl⟩
  have h : run 0 (sgl x ++ lay d e) = 5 ∨ run 0 (sgl x ++ lay d e) = 8 := by
    rw [run_append, hst]
    rcases hd with ⟨_, rfl, rfl⟩ | ⟨_, p, z, n, t, hi, rfl, hS, _⟩
    · left
      rcases hs with rfl | rfl <;> decide +kernel
    · obtain ⟨c, r, he, hc⟩ := dec_head hS.1
      have hdd := dgs_dec p
      rw [he] at hdd ⊢
      exact run_lay hs hc hdd
  rcases h with h | h
  · rw [nsc_run 0 h (by decide), if_pos (by decide), Nat.zero_add]
  · rw [nsc_run 0 h (by decide), if_pos (by decide), Nat.zero_add]
theorem bval_uniq : ∀ {a b : List Nat}, (∀ c ∈ a, c < 256) → (∀ c ∈ b, c < 256) → a.length = b.length → bval a = bval b → a = b
  | [], [], _, _, _, _ => rfl
  | [], _ :: _, _, _, h, _ => by simp at h
  | _ :: _, [], _, _, h, _ => by simp at h
  | c :: a, d :: b, ha, hb, hl, hv => by
    have hl2 : a.length = b.length := by simpa using hl
    have h1 := bval_lt (L := a) (fun x hx => ha x (List.mem_cons_of_mem _ hx))
    have h2 := bval_lt (L := b) (fun x hx => hb x (List.mem_cons_of_mem _ hx))
    rw [bval, bval, hl2] at hv
    rw [hl2] at h1
    have hp := Nat.pow_pos (n := b.length) (show 0 < 256 by decide)
    have e1 : c = d := by
      have q1 : (c * 256 ^ b.length + bval a) / 256 ^ b.length = c := by rw [Nat.mul_comm, Nat.mul_add_div hp, Nat.div_eq_of_lt h1, Nat.add_zero]
      have q2 : (d * 256 ^ b.length + bval b) / 256 ^ b.length = d := by rw [Nat.mul_comm, Nat.mul_add_div hp, Nat.div_eq_of_lt h2, Nat.add_zero]
      rw [← q1, hv, q2]
    subst e1
    have e2 := bval_uniq (fun x hx => ha x (List.mem_cons_of_mem _ hx)) (fun x hx => hb x (List.mem_cons_of_mem _ hx)) hl2 (by omega)
    rw [e2]
theorem bval_size {L : List Nat} {c : Nat} (h : ∀ c ∈ L, c < 256) (h0 : L[0]? = some c) (hc : c ≠ 0) : (bl (bval L) + 7) / 8 = L.length := by
  have h1 := bval_lt h
  cases L with
  | nil => simp at h0
  | cons d L =>
    obtain rfl : d = c := by simpa using h0
    have h2 : 256 ^ L.length ≤ bval (d :: L) := by
      rw [bval]
      have := Nat.le_mul_of_pos_left (256 ^ L.length) (Nat.pos_of_ne_zero hc)
      omega
    rw [show (256 : Nat) = 2 ^ 8 from rfl, ← Nat.pow_mul] at h1 h2
    have hp := Nat.two_pow_pos (8 * L.length)
    have h3 := bl_le h1
    have h4 := (bl_bounds (v := bval (d :: L)) (by omega)).2.2
    have h5 := (Nat.pow_lt_pow_iff_right (a := 2) (by decide)).1 (Nat.lt_of_le_of_lt h2 h4)
    rw [List.length_cons] at *
    omega
theorem bval_big {L : List Nat} {c : Nat} (h0 : L[0]? = some c) (hc : c ≠ 0) (hl : 8 < L.length) : 2 < (limbs (bval L)).length := by
  rcases Nat.lt_or_ge 2 (limbs (bval L)).length with h | h
  · exact h
  · exfalso
    cases L with
    | nil => simp at h0
    | cons d L =>
      obtain rfl : d = c := by simpa using h0
      have h1 := lt_limbs (bval (d :: L))
      have h2 : 4294967296 ^ (limbs (bval (d :: L))).length ≤ 4294967296 ^ 2 := Nat.pow_le_pow_right (by decide) h
      have h3 : (256 : Nat) ^ 8 ≤ 256 ^ L.length := Nat.pow_le_pow_right (by decide) (by rw [List.length_cons] at hl; omega)
      have h4 := Nat.le_mul_of_pos_left (256 ^ L.length) (Nat.pos_of_ne_zero hc)
      have h5 : (256 : Nat) ^ 8 = 4294967296 ^ 2 := by decide
      have hb : bval (d :: L) = d * 256 ^ L.length + bval L := rfl
      omega
end Go.Proofs.YtffncomekbfihaaGreatDoor.Nat
namespace Go.Proofs.YtffncomekbfihaaGreatDoor.Nat
open Go.RowKit Go.Shelf
set_option linter.unusedVariables false
set_option linter.unusedSimpArgs false
theorem results_cell_tmp {P : Program} {fn : Func} {p q : Tmp} {ty : TypeId} (h : fn.results = #[.cell p ty, .tmp q]) (tmps : Array Value) (w : World) (g : Nat) (t : TypeId) (cs : Array Value) (fr : Nat × Nat) (d : TypeDesc)
    (hp : tmps.getD p undef = .pointer (some ⟨g, 0, none⟩)) (hg : w.heap[g]? = some (.cells cs t fr))
    (hu : P.underlying ty = some d) (hd : (match d with | .struct _ | .array _ _ => true | _ => false) = true) (hi : (P.info? ty).map (·.size) = some cs.size) :
    (results fn tmps).run P w = .ok (.tuple #[.agg cs, tmps.getD q undef]) w := by
  have hp' : tmps[p]?.getD undef = .pointer (some ⟨g, 0, none⟩) := by simpa using hp
  simp [results, h, hp', asAddr, run_loadVar_row w g t ty cs fr d hg hu hd hi]
theorem cut_dgs {s : ByteArray} (hd : Dgs (bts s)) : Lib.hasPrefix s.data.toList [45] = false ∧ (⟨(Lib.trimPrefix s.data.toList [45]).toArray⟩ : ByteArray) = s := by
  have hp : Lib.hasPrefix s.data.toList [45] = false := by
    unfold Lib.hasPrefix
    cases hs : s.data.toList with
    | nil => rfl
    | cons b r =>
      have hb : b.toNat ∈ bts s := by unfold bts; rw [hs]; simp
      have := hd _ hb
      have hne : ((45 : UInt8) == b) = false := by
        rw [beq_eq_false_iff_ne]
        rintro rfl
        exact absurd this (by decide)
      simp [List.isPrefixOf, hne]
  refine ⟨hp, ?_⟩
  unfold Lib.trimPrefix
  rw [if_neg (by rw [hp]; decide)]
theorem cut_sign {s : ByteArray} {D : List Nat} (h : bts s = [45] ++ D) : Lib.hasPrefix s.data.toList [45] = true ∧ bts (⟨(Lib.trimPrefix s.data.toList [45]).toArray⟩ : ByteArray) = D := by
  obtain ⟨b, r, hs⟩ : ∃ b r, s.data.toList = b :: r := by
    cases hs : s.data.toList with
    | nil => unfold bts at h; rw [hs] at h; cases h
    | cons b r => exact ⟨b, r, rfl⟩
  have h1 := h
  unfold bts at h1
  rw [hs, List.map_cons] at h1
  have hb : b = 45 := UInt8.toNat.inj (List.cons.inj h1).1
  have hp : Lib.hasPrefix s.data.toList [45] = true := by
    rw [hs, hb]; unfold Lib.hasPrefix; simp [List.isPrefixOf]
  refine ⟨hp, ?_⟩
  unfold Lib.trimPrefix
  rw [if_pos hp, hs, bts_mk]
  exact (List.cons.inj h1).2
/-- what num.Value says of a whole number -/
def ValP (neg : Bool) (v : Nat) (e : Ending) : Prop :=
  ((limbs v).length ≤ 2 ∧ e = .returned (.tuple #[.agg #[.int .i64 4, .bool neg, .int .u64 (v : Int), .string ⟨#[]⟩, .slice none 0 0], .int .i64 0])) ∨
  (2 < (limbs v).length ∧ ∃ S : ByteArray, e = .returned (.tuple #[.agg #[.int .i64 5, .bool neg, .int .u64 0, .string S, .slice none 0 0], .int .i64 0]) ∧ bval (bts S) = v ∧ S.size = (bl v + 7) / 8)
/-- a byte of a number -/
theorem byte_at {v q x r : Nat} (hx : (limbs v)[q]? = some x) (hr : r < 4) : x / 256 ^ r % 256 = v / 256 ^ (4 * q + r) % 256 := by
  have hl := (List.getElem?_eq_some_iff.1 hx).1
  have h2 := nv_split (limbs v) q (by omega)
  have h3 := nv_lt ((ok_limbs v).take q)
  rw [List.length_take, Nat.min_eq_left (by omega)] at h3
  have h4 := nv_drop hx
  rw [nv_limbs] at h2
  have hE := Nat.pow_pos (n := q) (show 0 < 4294967296 by decide)
  have e1 : v / 4294967296 ^ q = x + 4294967296 * nv ((limbs v).drop (q + 1)) := by
    rw [← h4]
    have : v / 4294967296 ^ q = (nv ((limbs v).take q) + 4294967296 ^ q * nv ((limbs v).drop q)) / 4294967296 ^ q := by rw [← h2]
    rw [this, Nat.add_mul_div_left _ _ hE, Nat.div_eq_of_lt h3, Nat.zero_add]
  rw [Nat.pow_add, pow256, ← Nat.div_div_eq_div_mul, e1]
  generalize nv ((limbs v).drop (q + 1)) = Z
  have : r = 0 ∨ r = 1 ∨ r = 2 ∨ r = 3 := by omega
  rcases this with rfl | rfl | rfl | rfl <;> simp only [Nat.reducePow] <;> omega
theorem bval_set {o : List Nat} {m c : Nat} (hm : m < o.length) : bval ((o.set m c).drop m) = c * 256 ^ (o.length - (m + 1)) + bval (o.drop (m + 1)) := by
  have h := bval_drop (L := o.set m c) (i := m) (c := c) (List.getElem?_set_self hm)
  rw [h, List.length_set, List.drop_set_of_lt (by omega)]
theorem bl_bytes {v : Nat} : v < 256 ^ ((bl v + 7) / 8) := by
  by_cases h0 : v = 0
  · subst h0; exact Nat.pow_pos (by decide)
  · have h1 := (bl_bounds h0).2.2
    refine Nat.lt_of_lt_of_le h1 ?_
    rw [show (256 : Nat) = 2 ^ 8 from rfl, ← Nat.pow_mul]
    exact Nat.pow_le_pow_right (by decide) (by omega)
theorem mod_step (v i : Nat) : v / 256 ^ i % 256 * 256 ^ i + v % 256 ^ i = v % 256 ^ (i + 1) := by
  rw [Nat.pow_succ, Nat.mod_mul, Nat.mul_comm (256 ^ i)]
  omega
theorem bv_set (l : List Nat) (i x : Nat) : bv (l.set i x) = (bv l).set i (.int .u8 (x : Int)) := by
  unfold bv
  rw [List.map_set]
theorem bv_replicate (n : Nat) : bv (List.replicate n 0) = List.replicate n (.int .u8 0) := by
  unfold bv
  rw [List.map_replicate]
  rfl
set_option maxHeartbeats 8000000 in
set_option maxRecDepth 100000 in
theorem bytes_calls {V : Value} {v : Nat} {w : World} (hV : NatV w V v) (hl : (limbs v).length ≤ 200) :
    Calls Tryz.prog 41 #[V] w fun e w' => ∃ (g cap : Nat) (O : List Nat), e = .returned (.slice (some ⟨g, 0, none⟩) O.length cap) ∧ RB w' g O ∧ (∀ c ∈ O, c < 256) ∧ bval O = v ∧ O.length = (bl v + 7) / 8 ∧ w.heap.size ≤ g ∧ Below w.heap.size w w' := by
  obtain ⟨i0, hi, hz0, hz1, hz2⟩ := info_parts info5
  have kb := bits_a (hV.a (by omega))
  have hbl := bl_limbs (v := v) (L := 200) hl
  obtain ⟨N1, hN1⟩ : ∃ N1, (bl v + 7) / 8 = N1 := ⟨_, rfl⟩
  have hlt := bl_bytes (v := v)
  rw [hN1] at hlt
  have hNI : Int.tdiv ((bl v : Int) + 7) 8 = (N1 : Int) := by rw [Int.tdiv_eq_ediv_of_nonneg (by omega)]; omega
  have hNI2 : ((bl v : Int) + 7) / 8 = (N1 : Int) := by omega
  have hwN : IntKind.i64.wrap (N1 : Int) = (N1 : Int) := by rw [IntKind.wrap_i64]; omega
  have hNl : N1 ≤ 4 * (limbs v).length := by
    by_cases h0 : v = 0
    · subst h0
      have : bl 0 = 0 := by decide +kernel
      omega
    · have h1 := (bl_bounds h0).2.1
      have h2 := bits_lt v
      have h3 := (Nat.pow_lt_pow_iff_right (a := 2) (by decide)).1 (Nat.lt_of_le_of_lt h1 h2)
      omega
  have hV2 : Hid _ := Lib.hid hV
  obtain ⟨A, c, rfl, hc, hR⟩ := hV
  rw [hN1]
  have HT : Hid _ := Lib.hid (And.intro hlt hN1)
  clear hlt hN1
  go_enter Tryz.func41, Tryz.ntmps41
  go_upto_region 2 with (go_at_call 90; (with_reducible refine kb.mono ?_); clear kb; rintro e1 w1 ⟨rfl, hb1⟩)
  obtain ⟨w4, hmk, hown, hgr⟩ := run_make_full (P := Tryz.prog) w1 w1.heap.size 73 5 i0 (.int .u8 0) 1 Tryz.underlying73 hi hz0 hz1 .i64 .i64 N1 (by rw [hz2]; omega) (by unfold maxLen; omega) (Nat.le_refl _)
  rw [show (Value.int .u8 0).cells = #[Value.int .u8 0] from rfl, Nat.mul_one, toList_madeCells_one, ← bv_replicate] at hown
  have hb7 := (Below.refl w1.heap.size w1).grown hgr (Nat.le_refl _) (fun k hk => by cases hk)
  have hR1 := hR.below hb1
  clear hz0 hz1 hz2 hgr hi hR hV2
  go_wp2
  go_loopg [14] N1 (fun kq v14 wr => ∃ (i : Nat) (o : List Nat), v14 = .int .i64 i ∧ i + kq = N1 ∧ o.length = N1 ∧ (∀ c ∈ o, c < 256) ∧ wr.ownsRow w1.heap.size 5 1 (.slice (some ⟨w1.heap.size, 0, none⟩) N1 N1) N1 (bv o) ∧ Hid (bval (o.drop (N1 - i)) = v % 256 ^ i) ∧ Below w1.heap.size w1 wr)
  case atStart => exact ⟨0, List.replicate N1 0, rfl, by omega, List.length_replicate, fun c hc => by have := (List.mem_replicate.1 hc).2; omega, hown, Lib.hid (by rw [Nat.sub_zero, List.drop_of_length_le (by rw [List.length_replicate]; exact Nat.le_refl _), Nat.pow_zero, Nat.mod_one]; rfl), hb7⟩
  case round =>
    clear hown hb7 hmk
    obtain ⟨i, o, rfl, hi, hol, hO, hown, hv, hb⟩ := hrel
    cases gk with
    | zero =>
      obtain rfl : i = N1 := by omega
      have hvv : bval o = v := by
        have h := hv.out
        rw [Nat.sub_self, List.drop_zero, Nat.mod_eq_of_lt HT.out.1] at h
        exact h
      have hrb := rb_own hown hol
      have HV : Hid _ := Lib.hid (And.intro hvv hol)
      clear hvv hv hol
      go_wp2
      go_ret
      exact ⟨w1.heap.size, i, o, by rw [HV.out.2]; rfl, hrb, hO, HV.out.1, HV.out.2, hb1.size, below_step hb1 hb⟩
    | succ d =>
      have hin : (i : Int) < (N1 : Int) := by omega
      obtain ⟨m, hm⟩ : ∃ m, N1 - 1 - i = m := ⟨_, rfl⟩
      obtain ⟨q, hq⟩ : ∃ q, i / 4 = q := ⟨_, rfl⟩
      obtain ⟨x, hx⟩ : ∃ x, (limbs v)[q]? = some x := ⟨_, List.getElem?_eq_getElem (by omega)⟩
      obtain ⟨ad, rfl, hcell⟩ := hR1 q x hx
      have hcB := (hb.cell (World.block_lt_of_cell? _ _ hcell)).trans hcell
      have hx32 := (ok_limbs v).get hx
      obtain ⟨C, hC⟩ : ∃ C, v / 256 ^ i % 256 = C := ⟨_, rfl⟩
      have hC256 : C < 256 := by rw [← hC]; exact Nat.mod_lt _ (by decide)
      have hcO := hown.cellAt m (by omega)
      obtain ⟨y, hy⟩ : ∃ y, o[m]? = some y := ⟨_, List.getElem?_eq_getElem (by omega)⟩
      rw [bv_get hy] at hcO
      have hfO := hown.frozenAt m
      have hqI : Int.tdiv (i : Int) 4 = (q : Int) := by rw [Int.tdiv_eq_ediv_of_nonneg (by omega)]; omega
      have hqI2 : (i : Int) / 4 = (q : Int) := by omega
      have hw1 : IntKind.i64.wrap ((N1 : Int) - 1) = (N1 : Int) - 1 := by rw [IntKind.wrap_i64]; omega
      have hw2 : IntKind.i64.wrap ((N1 : Int) - 1 - (i : Int)) = (m : Int) := by rw [IntKind.wrap_i64]; omega
      have hmI : (N1 : Int) - 1 - (i : Int) = (m : Int) := by omega
      have hmn : (m : Int) < (N1 : Int) := by omega
      have hqn : (q : Int) < ((limbs v).length : Int) := by omega
      have hst := (hown.stored m (.int .u8 (C : Int))).1
      have HN : Hid (bval ((o.set m C).drop (N1 - (i + 1))) = v % 256 ^ (i + 1)) := Lib.hid (by
        rw [show N1 - (i + 1) = m from by omega, bval_set (by omega), hol, show N1 - (m + 1) = i from by omega, show m + 1 = N1 - i from by omega, hv.out, ← hC]
        exact mod_step v i)
      rcases (show i % 4 = 0 ∨ i % 4 = 1 ∨ i % 4 = 2 ∨ i % 4 = 3 by omega) with hr | hr | hr | hr
      · have hrI : Int.tmod (i : Int) 4 = 0 := by rw [Int.tmod_eq_emod_of_nonneg (by omega)]; omega
        have hrJ : (i : Int) % 4 = 0 := by omega
        have hby := byte_at (r := 0) hx (by decide)
        rw [show 4 * q + 0 = i from by omega, hC] at hby
        simp only [Nat.reducePow] at hby
        have hs1 : IntKind.u8.wrap ((x : Int)) = (C : Int) := by rw [IntKind.wrap_u8]; omega
        have hs2 : (x : Int) % 256 = (C : Int) := by omega
        clear hby hx
        go_wp2
        go_roundg d
        case rel => exact ⟨i + 1, o.set m C, by go_num, by omega, by rw [List.length_set]; exact hol, fun c hc => (List.mem_or_eq_of_mem_set hc).elim (hO c) (fun e => by omega), by rw [bv_set]; exact hst, HN, hb.setCell (p := ⟨w1.heap.size, m, none⟩) (Nat.le_refl _) _⟩
        case measure => omega
      · have hrI : Int.tmod (i : Int) 4 = 1 := by rw [Int.tmod_eq_emod_of_nonneg (by omega)]; omega
        have hrJ : (i : Int) % 4 = 1 := by omega
        have hby := byte_at (r := 1) hx (by decide)
        rw [show 4 * q + 1 = i from by omega, hC] at hby
        simp only [Nat.reducePow] at hby
        have hs1 : IntKind.u8.wrap ((x : Int) / 256) = (C : Int) := by rw [IntKind.wrap_u8]; omega
        have hs2 : (x : Int) / 256 % 256 = (C : Int) := by omega
        clear hby hx
        go_wp2
        go_roundg d
        case rel => exact ⟨i + 1, o.set m C, by go_num, by omega, by rw [List.length_set]; exact hol, fun c hc => (List.mem_or_eq_of_mem_set hc).elim (hO c) (fun e => by omega), by rw [bv_set]; exact hst, HN, hb.setCell (p := ⟨w1.heap.size, m, none⟩) (Nat.le_refl _) _⟩
        case measure => omega
      · have hrI : Int.tmod (i : Int) 4 = 2 := by rw [Int.tmod_eq_emod_of_nonneg (by omega)]; omega
        have hrJ : (i : Int) % 4 = 2 := by omega
        have hby := byte_at (r := 2) hx (by decide)
        rw [show 4 * q + 2 = i from by omega, hC] at hby
        simp only [Nat.reducePow] at hby
        have hs1 : IntKind.u8.wrap ((x : Int) / 65536) = (C : Int) := by rw [IntKind.wrap_u8]; omega
        have hs2 : (x : Int) / 65536 % 256 = (C : Int) := by omega
        clear hby hx
        go_wp2
        go_roundg d
        case rel => exact ⟨i + 1, o.set m C, by go_num, by omega, by rw [List.length_set]; exact hol, fun c hc => (List.mem_or_eq_of_mem_set hc).elim (hO c) (fun e => by omega), by rw [bv_set]; exact hst, HN, hb.setCell (p := ⟨w1.heap.size, m, none⟩) (Nat.le_refl _) _⟩
        case measure => omega
      · have hrI : Int.tmod (i : Int) 4 = 3 := by rw [Int.tmod_eq_emod_of_nonneg (by omega)]; omega
        have hrJ : (i : Int) % 4 = 3 := by omega
        have hby := byte_at (r := 3) hx (by decide)
        rw [show 4 * q + 3 = i from by omega, hC] at hby
        simp only [Nat.reducePow] at hby
        have hs1 : IntKind.u8.wrap ((x : Int) / 16777216) = (C : Int) := by rw [IntKind.wrap_u8]; omega
        have hs2 : (x : Int) / 16777216 % 256 = (C : Int) := by omega
        clear hby hx
        go_wp2
        go_roundg d
        case rel => exact ⟨i + 1, o.set m C, by go_num, by omega, by rw [List.length_set]; exact hol, fun c hc => (List.mem_or_eq_of_mem_set hc).elim (hO c) (fun e => by omega), by rw [bv_set]; exact hst, HN, hb.setCell (p := ⟨w1.heap.size, m, none⟩) (Nat.le_refl _) _⟩
        case measure => omega
set_option maxHeartbeats 16000000 in
set_option maxRecDepth 100000 in
theorem value_num_pos (D : List Nat) (n v : Nat) (s : ByteArray) (w : World) (hs : bts s = D) (hd : Dgs D) (hD0 : D.length ≠ 0) (hDl : D.length ≤ 1200) (hn : dval D = n) (hvl : n = v) (hv : nsc 0 (bts s) 0 = (s.size, 0)) :
    Calls Tryz.prog 15 #[.string s] w fun e w' => ValP false v e ∧ Below w.heap.size w w' := by
  have hsl := bts_length s
  have hsz : s.size = D.length := by rw [← hsl, hs]
  have k1 : ∀ W, Calls Tryz.prog 18 #[.string s] W fun e w' => e = .returned (.tuple #[.int .i64 (s.size : Int), .int .i64 0]) ∧ Below W.heap.size W w' := fun W => by
    have h := numScan_calls s W (by omega)
    rw [hv] at h
    exact h
  obtain ⟨hc1, ht⟩ := cut_dgs (s := s) (by rw [hs]; exact hd)
  have hc2 := hs
  have k2 := fun W => Tryz.strings_CutPrefix s ⟨#[45]⟩ W
  rw [show (⟨#[45]⟩ : ByteArray).data.toList = [45] from rfl, hc1, ht] at k2
  have hnl : (limbs n).length ≤ 200 := by rw [← hn]; exact limbs_pow (e := 4 * D.length) (L := 200) (Nat.le_trans (Nat.le_of_lt (dval_lt hd)) (ten_bits _)) (by omega)
  have k3 : ∀ W, Calls Tryz.prog 39 #[.string s] W fun e w' => ∃ V, e = .returned (.tuple #[V, .int .i64 0]) ∧ NatV w' V n ∧ Below W.heap.size W w' := fun W => by
    refine (from_calls s W (by omega) (by omega)).mono ?_
    rintro e w' ⟨h1 | h1, hb⟩
    · obtain ⟨_, V, h2, h3⟩ := h1
      rw [hc2, hn] at h3
      exact ⟨V, h2, h3, hb⟩
    · exact absurd (hc2 ▸ hd) h1.1
  have HS : Hid (∀ (j c : Nat), (bts s)[j]? = some c → c = 45 ∨ (48 ≤ c ∧ c ≤ 57)) := Lib.hid (fun j c h => by
    rw [hs] at h
    have hm := List.mem_of_getElem? h
    exact .inr (hd c hm))
  have hb0 := below_alloc w (.cells #[.int .i64 0, .bool false, .int .u64 0, .string ⟨#[]⟩, .slice none 0 0] 36)
  have hh0 := heap_alloc_new w (.cells #[.int .i64 0, .bool false, .int .u64 0, .string ⟨#[]⟩, .slice none 0 0] 36)
  have hts : ¬ (1200 : Int) < (s.size : Int) := by omega
  have hvn : (limbs v).length ≤ 200 := Nat.le_trans (limbs_len_mono (by omega)) hnl
  have hsmall : s.size ≤ 1201 := by omega
  clear hc1 hc2 hs hd ht hDl hD0 hn hv hsz hsl
  go_enter Tryz.func15, Tryz.ntmps15
  go_wp2_with (go_at_call 18; (with_reducible refine (k1 _).mono ?_); clear k1; rintro e1 w1 ⟨rfl, hb1⟩; have hh1 := bk_below hh0 hb1; have hbA := below_step hb0 hb1)
  go_loopg [33] s.size (fun kq v33 wr => ∃ i : Nat, v33 = .int .i64 i ∧ i + kq = s.size ∧ wr = w1)
  case atStart => exact ⟨0, rfl, by omega, rfl⟩
  case round =>
    obtain ⟨i, rfl, hi, rfl⟩ := hrel
    cases gk with
    | succ d =>
      have hlt : i < s.size := by omega
      have hltI : (i : Int) < (s.size : Int) := by omega
      have hat := bts_at s i hlt
      obtain ⟨c, hc⟩ : ∃ c, s[i].toNat = c := ⟨_, rfl⟩
      rw [hc] at hat
      have hcd := HS.out i c hat
      have n1 : ((c : Int) == 46) = false := beq_eq_false_iff_ne.2 (by omega)
      have n2 : ((c : Int) == 101) = false := beq_eq_false_iff_ne.2 (by omega)
      have n3 : ((c : Int) == 69) = false := beq_eq_false_iff_ne.2 (by omega)
      clear hat
      go_wp2
      go_roundg d
      case rel => exact ⟨i + 1, by go_num, by omega, rfl⟩
      case measure => omega
    | zero =>
      obtain rfl : i = s.size := by omega
      go_upto_if 81 with (first
        | (go_at_call 38; (with_reducible refine (k2 _).mono ?_); clear k2; rintro e2 w2 ⟨rfl, rfl⟩)
        | (go_at_call 39; (with_reducible refine (k3 _).mono ?_); clear k3; rintro e3 w3 ⟨V, rfl, hV, hb3⟩; have hVA := hV.a (by omega : (limbs n).length ≤ 4096); obtain ⟨A3, c3, rfl, hc3, hR3⟩ := hV))
      go_cut [12] (fun v12 wx => ∃ (A : Option Addr) (c : Nat), v12 = .slice A (limbs v).length c ∧ (limbs v).length ≤ c ∧ Rd wx A (limbs v) ∧ Below w3.heap.size w3 wx)
      case first =>
        subst hvl
        go_wp2
        go_meet
        case rel => exact ⟨A3, c3, rfl, hc3, hR3, Below.refl _ _⟩
      case rest =>
        obtain ⟨A12, c12, rfl, hc12, hR12, hbw⟩ := hcut
        have hbC := below_step (below_step hbA hb3) hbw
        have hh5 := bk_below (bk_below hh1 hb3) hbw
        have hV12 : NatV wc (.slice A12 (limbs v).length c12) v := ⟨A12, c12, rfl, hc12, hR12⟩
        clear hR3 hc3 hVA hc12 hvl hnl
        by_cases hl2 : 2 < (limbs v).length
        · have hl2I : (2 : Int) < ((limbs v).length : Int) := by omega
          have hb6 := below_alloc wc (.cells #[.int .i64 5, .bool false, .int .u64 0, .string ⟨#[]⟩, .slice none 0 0] 36)
          have hh6 := heap_alloc_new wc (.cells #[.int .i64 5, .bool false, .int .u64 0, .string ⟨#[]⟩, .slice none 0 0] 36)
          have kB := bytes_calls (hV12.below hb6) hvn
          have HL2 : Hid _ := Lib.hid hl2
          clear hl2 hR12 hV12 hvn
          go_upto_region 25 with (go_at_call 41; (with_reducible refine kB.mono ?_); clear kB; rintro e7 w7 ⟨gb, cb, O, rfl, hRB, hO, hbv, hol0, hgb, hb7⟩; have hol : Hid _ := Lib.hid (And.intro hbv hol0); clear hol0 hbv; have kc := rb_string (P := Tryz.prog) (cap := cb) (src := 73) (dst := 9) Tryz.underlying73 Tryz.underlying5 Tryz.underlying9 hRB hO; have hh7 := bk_below hh6 hb7; have c3 := (cell_of_row w7 wc.heap.size 3 _ _ (0, 0) hh7).trans rfl; have f3 := frozen_of_row w7 wc.heap.size 3 _ _ hh7)
          have hrow := bk_set hh7 3 (.string (ofB O))
          have hbL := (below_step hb6 hb7).setCell (p := ⟨wc.heap.size, 3, none⟩) (Nat.le_refl _) (.string (ofB O))
          generalize w7.setCell ⟨wc.heap.size, 3, none⟩ (.string (ofB O)) = wr at hrow hbL ⊢
          have c0 := (cell_of_row wr wc.heap.size 0 _ _ (0, 0) hrow).trans rfl; have c1 := (cell_of_row wr wc.heap.size 1 _ _ (0, 0) hrow).trans rfl; have c2 := (cell_of_row wr wc.heap.size 2 _ _ (0, 0) hrow).trans rfl; have c3 := (cell_of_row wr wc.heap.size 3 _ _ (0, 0) hrow).trans rfl; have c4 := (cell_of_row wr wc.heap.size 4 _ _ (0, 0) hrow).trans rfl
          have hz := bk_below hh5 hbL
          have d0 := (cell_of_row wr w.heap.size 0 _ _ (0, 0) hz).trans rfl; have d1 := (cell_of_row wr w.heap.size 1 _ _ (0, 0) hz).trans rfl; have d2 := (cell_of_row wr w.heap.size 2 _ _ (0, 0) hz).trans rfl; have d3 := (cell_of_row wr w.heap.size 3 _ _ (0, 0) hz).trans rfl; have d4 := (cell_of_row wr w.heap.size 4 _ _ (0, 0) hz).trans rfl
          have f0 := frozen_of_row wr w.heap.size 0 _ _ hz; have f1 := frozen_of_row wr w.heap.size 1 _ _ hz; have f2 := frozen_of_row wr w.heap.size 2 _ _ hz; have f3 := frozen_of_row wr w.heap.size 3 _ _ hz; have f4 := frozen_of_row wr w.heap.size 4 _ _ hz
          have hr5 := bk_set (bk_set (bk_set (bk_set (bk_set hz 0 (.int .i64 5)) 1 (.bool false)) 2 (.int .u64 0)) 3 (.string (ofB O))) 4 (.slice none 0 0)
          have hq := Nat.le_refl w.heap.size
          have hb5 := (((((hbC.trans (hbL.mono hbC.size)).setCell (p := ⟨w.heap.size, 0, none⟩) hq (.int .i64 5)).setCell (p := ⟨w.heap.size, 1, none⟩) hq (.bool false)).setCell (p := ⟨w.heap.size, 2, none⟩) hq (.int .u64 0)).setCell (p := ⟨w.heap.size, 3, none⟩) hq (.string (ofB O))).setCell (p := ⟨w.heap.size, 4, none⟩) hq (.slice none 0 0)
          have HR5 : Hid _ := Lib.hid (And.intro hr5 hb5)
          have HO : Hid _ := Lib.hid (And.intro (bts_ofB hO) hol.out)
          clear hr5 hb5 hz hrow hRB hO hol kc
          go_wp2
          refine bodyPost_ret (results_cell_tmp Tryz.results15 _ _ w.heap.size 36 _ (0, 0) _ rfl HR5.out.1 Tryz.underlying36 rfl (by kernel_rfl)) rfl ⟨.inr ⟨HL2.out, ofB O, rfl, by rw [HO.out.1]; exact HO.out.2.1, by rw [size_ofB]; exact HO.out.2.2⟩, HR5.out.2⟩
        have hl2I : ¬ (2 : Int) < ((limbs v).length : Int) := by omega
        have HL2 : Hid (v < 18446744073709551616) := Lib.hid (by
          have h1 := lt_limbs v
          have h2 : 4294967296 ^ (limbs v).length ≤ 4294967296 ^ 2 := Nat.pow_le_pow_right (by decide) (by omega)
          have h3 : (4294967296 : Nat) ^ 2 = 18446744073709551616 := by decide
          omega)
        clear hV12 hvn
        go_wp2
        have hmix : Tryz.prog.follows Departure.mixedOrders = true := by kernel_rfl
        have hb4 := below_alloc wc (.cells #[.int .i64 4, .bool false, .int .u64 0, .string ⟨#[]⟩, .slice none 0 0] 36)
        have hh4 := heap_alloc_new wc (.cells #[.int .i64 4, .bool false, .int .u64 0, .string ⟨#[]⟩, .slice none 0 0] 36)
        generalize wc.alloc (.cells #[.int .i64 4, .bool false, .int .u64 0, .string ⟨#[]⟩, .slice none 0 0] 36) = W4 at hb4 hh4 ⊢
        have hvl := nv_limbs v
        have hol := ok_limbs v
        generalize limbs v = l at *
        have HVL : Hid _ := Lib.hid (And.intro hvl hol)
        clear hvl
        have hll2 : l.length ≤ 2 := by omega
        go_loopg [101] l.length (fun kq v101 wr2 => ∃ i : Nat, v101 = .int .i64 i ∧ i + kq = l.length ∧ wr2.heap[wc.heap.size]? = some (.cells #[.int .i64 4, .bool false, .int .u64 ((nv (l.take i) : Nat) : Int), .string ⟨#[]⟩, .slice none 0 0] 36 (0, 0)) ∧ Below wc.heap.size wc wr2)
        case atStart => exact ⟨0, rfl, by omega, hh4, hb4⟩
        case round =>
          clear hb4 hh4
          obtain ⟨i, rfl, hi2, hrow, hbL⟩ := hrel
          cases gk with
          | succ d2 =>
            obtain ⟨ad, x, rfl, hx, hcell⟩ := hR12.at (j := i) (by omega)
            have hx32 := HVL.out.2.get hx
            have y := (hbL.cell (World.block_lt_of_cell? _ _ hcell)).trans hcell
            have hi1 : (i : Int) < (l.length : Int) := by omega
            have hw : IntKind.u64.wrap (x : Int) = (x : Int) := by rw [IntKind.wrap_u64]; omega
            have ht := nv_take_succ hx
            have HT : Hid _ := Lib.hid ht
            clear ht
            have cN := (cell_of_row wr wc.heap.size 2 _ _ (0, 0) hrow).trans rfl
            have fN := frozen_of_row wr wc.heap.size 2 _ _ hrow
            have HROW : Hid _ := Lib.hid hrow
            clear hrow hcell
            rcases (show i = 0 ∨ i = 1 by omega) with rfl | rfl
            · have ho := or_zero hx32
              have hz : nv (l.take 0) = 0 := rfl
              rw [hz] at cN
              have y0 : wr.cell? ⟨ad.block, ad.off, ad.spot⟩ = some (.int .u32 (x : Int)) := y
              have y0' : wr.cell? ad = some (.int .u32 (x : Int)) := y
              go_wp2_with fail
              go_region_o
              go_wp2
              go_roundg d2
              case rel => exact ⟨1, rfl, by omega, by rw [HT.out, hz, Nat.pow_zero, Nat.one_mul, Nat.zero_add]; exact bk_set HROW.out 2 _, (hbL.setCell (p := ⟨wc.heap.size, 2, none⟩) (Nat.le_refl _) _).drew⟩
              case measure => omega
            · have hn1 : nv (l.take 1) < 4294967296 := by
                have h := nv_lt (HVL.out.2.take 1)
                have h2 : (l.take 1).length ≤ 1 := List.length_take_le _ _
                have h3 : 4294967296 ^ (l.take 1).length ≤ 4294967296 ^ 1 := Nat.pow_le_pow_right (by decide) h2
                omega
              have ho := or_join2 hx32 hn1
              have hw2 : IntKind.u64.wrap ((x : Int) * 4294967296) = (x : Int) * 4294967296 := by rw [IntKind.wrap_u64]; omega
              have y1 : wr.cell? ⟨ad.block, ad.off + 1, none⟩ = some (.int .u32 (x : Int)) := y
              go_wp2_with fail
              go_region_o
              go_wp2
              go_roundg d2
              case rel => exact ⟨2, rfl, by omega, by rw [HT.out, Nat.pow_one]; exact bk_set HROW.out 2 _, (hbL.setCell (p := ⟨wc.heap.size, 2, none⟩) (Nat.le_refl _) _).drew⟩
              case measure => omega
          | zero =>
            obtain rfl : i = l.length := by omega
            rw [List.take_length, HVL.out.1] at hrow
            have c0 := (cell_of_row wr wc.heap.size 0 _ _ (0, 0) hrow).trans rfl; have c1 := (cell_of_row wr wc.heap.size 1 _ _ (0, 0) hrow).trans rfl; have c2 := (cell_of_row wr wc.heap.size 2 _ _ (0, 0) hrow).trans rfl; have c3 := (cell_of_row wr wc.heap.size 3 _ _ (0, 0) hrow).trans rfl; have c4 := (cell_of_row wr wc.heap.size 4 _ _ (0, 0) hrow).trans rfl
            have hz := bk_below hh5 hbL
            have d0 := (cell_of_row wr w.heap.size 0 _ _ (0, 0) hz).trans rfl; have d1 := (cell_of_row wr w.heap.size 1 _ _ (0, 0) hz).trans rfl; have d2 := (cell_of_row wr w.heap.size 2 _ _ (0, 0) hz).trans rfl; have d3 := (cell_of_row wr w.heap.size 3 _ _ (0, 0) hz).trans rfl; have d4 := (cell_of_row wr w.heap.size 4 _ _ (0, 0) hz).trans rfl
            have f0 := frozen_of_row wr w.heap.size 0 _ _ hz; have f1 := frozen_of_row wr w.heap.size 1 _ _ hz; have f2 := frozen_of_row wr w.heap.size 2 _ _ hz; have f3 := frozen_of_row wr w.heap.size 3 _ _ hz; have f4 := frozen_of_row wr w.heap.size 4 _ _ hz
            have hr5 := bk_set (bk_set (bk_set (bk_set (bk_set hz 0 (.int .i64 4)) 1 (.bool false)) 2 (.int .u64 ((v : Nat) : Int))) 3 (.string ⟨#[]⟩)) 4 (.slice none 0 0)
            have hq := Nat.le_refl w.heap.size
            have hb5 := (((((hbC.trans (hbL.mono hbC.size)).setCell (p := ⟨w.heap.size, 0, none⟩) hq (.int .i64 4)).setCell (p := ⟨w.heap.size, 1, none⟩) hq (.bool false)).setCell (p := ⟨w.heap.size, 2, none⟩) hq (.int .u64 ((v : Nat) : Int))).setCell (p := ⟨w.heap.size, 3, none⟩) hq (.string ⟨#[]⟩)).setCell (p := ⟨w.heap.size, 4, none⟩) hq (.slice none 0 0)
            have HR5 : Hid _ := Lib.hid (And.intro hr5 hb5)
            clear hr5 hb5 hz hrow
            go_wp2
            refine bodyPost_ret (results_cell_tmp Tryz.results15 _ _ w.heap.size 36 _ (0, 0) _ rfl HR5.out.1 Tryz.underlying36 rfl (by kernel_rfl)) rfl ⟨.inl ⟨limbs_two HL2.out, rfl⟩, HR5.out.2⟩
set_option maxHeartbeats 16000000 in
set_option maxRecDepth 100000 in
theorem value_num_neg (D : List Nat) (n v : Nat) (s : ByteArray) (w : World) (hs : bts s = [45] ++ D) (hd : Dgs D) (hD0 : D.length ≠ 0) (hDl : D.length ≤ 1200) (hn : dval D = n) (hvl : n - 1 = v) (h0 : n ≠ 0) (hv : nsc 0 (bts s) 0 = (s.size, 0)) :
    Calls Tryz.prog 15 #[.string s] w fun e w' => ValP true v e ∧ Below w.heap.size w w' := by
  have hsl := bts_length s
  have hsz : s.size = D.length + 1 := by rw [← hsl, hs]; simp
  have k1 : ∀ W, Calls Tryz.prog 18 #[.string s] W fun e w' => e = .returned (.tuple #[.int .i64 (s.size : Int), .int .i64 0]) ∧ Below W.heap.size W w' := fun W => by
    have h := numScan_calls s W (by omega)
    rw [hv] at h
    exact h
  obtain ⟨hc1, hc2⟩ := cut_sign hs
  obtain ⟨t, ht⟩ : ∃ t : ByteArray, ⟨(Lib.trimPrefix s.data.toList [45]).toArray⟩ = t := ⟨_, rfl⟩
  rw [ht] at hc2
  have htl := bts_length t
  rw [hc2] at htl
  have k2 := fun W => Tryz.strings_CutPrefix s ⟨#[45]⟩ W
  rw [show (⟨#[45]⟩ : ByteArray).data.toList = [45] from rfl, hc1, ht] at k2
  have hnl : (limbs n).length ≤ 200 := by rw [← hn]; exact limbs_pow (e := 4 * D.length) (L := 200) (Nat.le_trans (Nat.le_of_lt (dval_lt hd)) (ten_bits _)) (by omega)
  have k3 : ∀ W, Calls Tryz.prog 39 #[.string t] W fun e w' => ∃ V, e = .returned (.tuple #[V, .int .i64 0]) ∧ NatV w' V n ∧ Below W.heap.size W w' := fun W => by
    refine (from_calls t W (by omega) (by omega)).mono ?_
    rintro e w' ⟨h1 | h1, hb⟩
    · obtain ⟨_, V, h2, h3⟩ := h1
      rw [hc2, hn] at h3
      exact ⟨V, h2, h3, hb⟩
    · exact absurd (hc2 ▸ hd) h1.1
  have HS : Hid (∀ (j c : Nat), (bts s)[j]? = some c → c = 45 ∨ (48 ≤ c ∧ c ≤ 57)) := Lib.hid (fun j c h => by
    rw [hs] at h
    have hm := List.mem_of_getElem? h
    rcases List.mem_append.1 hm with q | q
    · exact .inl (by simpa using q)
    · exact .inr (hd c q))
  have hb0 := below_alloc w (.cells #[.int .i64 0, .bool false, .int .u64 0, .string ⟨#[]⟩, .slice none 0 0] 36)
  have hh0 := heap_alloc_new w (.cells #[.int .i64 0, .bool false, .int .u64 0, .string ⟨#[]⟩, .slice none 0 0] 36)
  have hts : ¬ (1200 : Int) < (t.size : Int) := by omega
  have hvn : (limbs v).length ≤ 200 := Nat.le_trans (limbs_len_mono (by omega)) hnl
  have hlz : (limbs n).length ≠ 0 := fun z => h0 (limbs_len_zero.1 z)
  have hsmall : s.size ≤ 1201 := by omega
  clear hc1 hc2 hs hd ht htl hDl hD0 hn hv hsz hsl
  go_enter Tryz.func15, Tryz.ntmps15
  go_wp2_with (go_at_call 18; (with_reducible refine (k1 _).mono ?_); clear k1; rintro e1 w1 ⟨rfl, hb1⟩; have hh1 := bk_below hh0 hb1; have hbA := below_step hb0 hb1)
  go_loopg [33] s.size (fun kq v33 wr => ∃ i : Nat, v33 = .int .i64 i ∧ i + kq = s.size ∧ wr = w1)
  case atStart => exact ⟨0, rfl, by omega, rfl⟩
  case round =>
    obtain ⟨i, rfl, hi, rfl⟩ := hrel
    cases gk with
    | succ d =>
      have hlt : i < s.size := by omega
      have hltI : (i : Int) < (s.size : Int) := by omega
      have hat := bts_at s i hlt
      obtain ⟨c, hc⟩ : ∃ c, s[i].toNat = c := ⟨_, rfl⟩
      rw [hc] at hat
      have hcd := HS.out i c hat
      have n1 : ((c : Int) == 46) = false := beq_eq_false_iff_ne.2 (by omega)
      have n2 : ((c : Int) == 101) = false := beq_eq_false_iff_ne.2 (by omega)
      have n3 : ((c : Int) == 69) = false := beq_eq_false_iff_ne.2 (by omega)
      clear hat
      go_wp2
      go_roundg d
      case rel => exact ⟨i + 1, by go_num, by omega, rfl⟩
      case measure => omega
    | zero =>
      obtain rfl : i = s.size := by omega
      go_upto_if 81 with (first
        | (go_at_call 38; (with_reducible refine (k2 _).mono ?_); clear k2; rintro e2 w2 ⟨rfl, rfl⟩)
        | (go_at_call 39; (with_reducible refine (k3 _).mono ?_); clear k3; rintro e3 w3 ⟨V, rfl, hV, hb3⟩; have hVA := hV.a (by omega : (limbs n).length ≤ 4096); obtain ⟨A3, c3, rfl, hc3, hR3⟩ := hV; have hz0 : (((limbs n).length : Int) == 0) = false := beq_eq_false_iff_ne.2 (by omega); have hz1 : ¬ ((limbs n).length : Int) = 0 := (by omega)))
      go_cut [12] (fun v12 wx => ∃ (A : Option Addr) (c : Nat), v12 = .slice A (limbs v).length c ∧ (limbs v).length ≤ c ∧ Rd wx A (limbs v) ∧ Below w3.heap.size w3 wx)
      case first =>
        have ksub := sub_a (hVA.below (below_alloc w3 _)) (nata_one w3 1 (by decide)) (by omega : (limbs n).length ≤ 4096) (by omega : 1 ≤ n)
        rw [show ((1 : Nat) : Int) = 1 from rfl, hvl] at ksub
        clear hz0 hz1
        go_wp2_with (go_at_call 40; (with_reducible refine ksub.mono ?_); clear ksub; rintro e5 w5 ⟨V5, rfl, hV5, hb5⟩; obtain ⟨A5, c5, rfl, hc5, hR5⟩ := hV5)
        go_meet
        case rel => exact ⟨A5, c5, rfl, hc5, hR5, below_step (below_alloc w3 _) hb5⟩
      case rest =>
        obtain ⟨A12, c12, rfl, hc12, hR12, hbw⟩ := hcut
        have hbC := below_step (below_step hbA hb3) hbw
        have hh5 := bk_below (bk_below hh1 hb3) hbw
        have hV12 : NatV wc (.slice A12 (limbs v).length c12) v := ⟨A12, c12, rfl, hc12, hR12⟩
        clear hR3 hc3 hVA hc12 hvl hnl hlz
        by_cases hl2 : 2 < (limbs v).length
        · have hl2I : (2 : Int) < ((limbs v).length : Int) := by omega
          have hb6 := below_alloc wc (.cells #[.int .i64 5, .bool true, .int .u64 0, .string ⟨#[]⟩, .slice none 0 0] 36)
          have hh6 := heap_alloc_new wc (.cells #[.int .i64 5, .bool true, .int .u64 0, .string ⟨#[]⟩, .slice none 0 0] 36)
          have kB := bytes_calls (hV12.below hb6) hvn
          have HL2 : Hid _ := Lib.hid hl2
          clear hl2 hR12 hV12 hvn
          go_upto_region 25 with (go_at_call 41; (with_reducible refine kB.mono ?_); clear kB; rintro e7 w7 ⟨gb, cb, O, rfl, hRB, hO, hbv, hol0, hgb, hb7⟩; have hol : Hid _ := Lib.hid (And.intro hbv hol0); clear hol0 hbv; have kc := rb_string (P := Tryz.prog) (cap := cb) (src := 73) (dst := 9) Tryz.underlying73 Tryz.underlying5 Tryz.underlying9 hRB hO; have hh7 := bk_below hh6 hb7; have c3 := (cell_of_row w7 wc.heap.size 3 _ _ (0, 0) hh7).trans rfl; have f3 := frozen_of_row w7 wc.heap.size 3 _ _ hh7)
          have hrow := bk_set hh7 3 (.string (ofB O))
          have hbL := (below_step hb6 hb7).setCell (p := ⟨wc.heap.size, 3, none⟩) (Nat.le_refl _) (.string (ofB O))
          generalize w7.setCell ⟨wc.heap.size, 3, none⟩ (.string (ofB O)) = wr at hrow hbL ⊢
          have c0 := (cell_of_row wr wc.heap.size 0 _ _ (0, 0) hrow).trans rfl; have c1 := (cell_of_row wr wc.heap.size 1 _ _ (0, 0) hrow).trans rfl; have c2 := (cell_of_row wr wc.heap.size 2 _ _ (0, 0) hrow).trans rfl; have c3 := (cell_of_row wr wc.heap.size 3 _ _ (0, 0) hrow).trans rfl; have c4 := (cell_of_row wr wc.heap.size 4 _ _ (0, 0) hrow).trans rfl
          have hz := bk_below hh5 hbL
          have d0 := (cell_of_row wr w.heap.size 0 _ _ (0, 0) hz).trans rfl; have d1 := (cell_of_row wr w.heap.size 1 _ _ (0, 0) hz).trans rfl; have d2 := (cell_of_row wr w.heap.size 2 _ _ (0, 0) hz).trans rfl; have d3 := (cell_of_row wr w.heap.size 3 _ _ (0, 0) hz).trans rfl; have d4 := (cell_of_row wr w.heap.size 4 _ _ (0, 0) hz).trans rfl
          have f0 := frozen_of_row wr w.heap.size 0 _ _ hz; have f1 := frozen_of_row wr w.heap.size 1 _ _ hz; have f2 := frozen_of_row wr w.heap.size 2 _ _ hz; have f3 := frozen_of_row wr w.heap.size 3 _ _ hz; have f4 := frozen_of_row wr w.heap.size 4 _ _ hz
          have hr5 := bk_set (bk_set (bk_set (bk_set (bk_set hz 0 (.int .i64 5)) 1 (.bool true)) 2 (.int .u64 0)) 3 (.string (ofB O))) 4 (.slice none 0 0)
          have hq := Nat.le_refl w.heap.size
          have hb5 := (((((hbC.trans (hbL.mono hbC.size)).setCell (p := ⟨w.heap.size, 0, none⟩) hq (.int .i64 5)).setCell (p := ⟨w.heap.size, 1, none⟩) hq (.bool true)).setCell (p := ⟨w.heap.size, 2, none⟩) hq (.int .u64 0)).setCell (p := ⟨w.heap.size, 3, none⟩) hq (.string (ofB O))).setCell (p := ⟨w.heap.size, 4, none⟩) hq (.slice none 0 0)
          have HR5 : Hid _ := Lib.hid (And.intro hr5 hb5)
          have HO : Hid _ := Lib.hid (And.intro (bts_ofB hO) hol.out)
          clear hr5 hb5 hz hrow hRB hO hol kc
          go_wp2
          refine bodyPost_ret (results_cell_tmp Tryz.results15 _ _ w.heap.size 36 _ (0, 0) _ rfl HR5.out.1 Tryz.underlying36 rfl (by kernel_rfl)) rfl ⟨.inr ⟨HL2.out, ofB O, rfl, by rw [HO.out.1]; exact HO.out.2.1, by rw [size_ofB]; exact HO.out.2.2⟩, HR5.out.2⟩
        have hl2I : ¬ (2 : Int) < ((limbs v).length : Int) := by omega
        have HL2 : Hid (v < 18446744073709551616) := Lib.hid (by
          have h1 := lt_limbs v
          have h2 : 4294967296 ^ (limbs v).length ≤ 4294967296 ^ 2 := Nat.pow_le_pow_right (by decide) (by omega)
          have h3 : (4294967296 : Nat) ^ 2 = 18446744073709551616 := by decide
          omega)
        clear hV12 hvn
        go_wp2
        have hmix : Tryz.prog.follows Departure.mixedOrders = true := by kernel_rfl
        have hb4 := below_alloc wc (.cells #[.int .i64 4, .bool true, .int .u64 0, .string ⟨#[]⟩, .slice none 0 0] 36)
        have hh4 := heap_alloc_new wc (.cells #[.int .i64 4, .bool true, .int .u64 0, .string ⟨#[]⟩, .slice none 0 0] 36)
        generalize wc.alloc (.cells #[.int .i64 4, .bool true, .int .u64 0, .string ⟨#[]⟩, .slice none 0 0] 36) = W4 at hb4 hh4 ⊢
        have hvl := nv_limbs v
        have hol := ok_limbs v
        generalize limbs v = l at *
        have HVL : Hid _ := Lib.hid (And.intro hvl hol)
        clear hvl
        have hll2 : l.length ≤ 2 := by omega
        go_loopg [101] l.length (fun kq v101 wr2 => ∃ i : Nat, v101 = .int .i64 i ∧ i + kq = l.length ∧ wr2.heap[wc.heap.size]? = some (.cells #[.int .i64 4, .bool true, .int .u64 ((nv (l.take i) : Nat) : Int), .string ⟨#[]⟩, .slice none 0 0] 36 (0, 0)) ∧ Below wc.heap.size wc wr2)
        case atStart => exact ⟨0, rfl, by omega, hh4, hb4⟩
        case round =>
          clear hb4 hh4
          obtain ⟨i, rfl, hi2, hrow, hbL⟩ := hrel
          cases gk with
          | succ d2 =>
            obtain ⟨ad, x, rfl, hx, hcell⟩ := hR12.at (j := i) (by omega)
            have hx32 := HVL.out.2.get hx
            have y := (hbL.cell (World.block_lt_of_cell? _ _ hcell)).trans hcell
            have hi1 : (i : Int) < (l.length : Int) := by omega
            have hw : IntKind.u64.wrap (x : Int) = (x : Int) := by rw [IntKind.wrap_u64]; omega
            have ht := nv_take_succ hx
            have HT : Hid _ := Lib.hid ht
            clear ht
            have cN := (cell_of_row wr wc.heap.size 2 _ _ (0, 0) hrow).trans rfl
            have fN := frozen_of_row wr wc.heap.size 2 _ _ hrow
            have HROW : Hid _ := Lib.hid hrow
            clear hrow hcell
            rcases (show i = 0 ∨ i = 1 by omega) with rfl | rfl
            · have ho := or_zero hx32
              have hz : nv (l.take 0) = 0 := rfl
              rw [hz] at cN
              have y0 : wr.cell? ⟨ad.block, ad.off, ad.spot⟩ = some (.int .u32 (x : Int)) := y
              have y0' : wr.cell? ad = some (.int .u32 (x : Int)) := y
              go_wp2_with fail
              go_region_o
              go_wp2
              go_roundg d2
              case rel => exact ⟨1, rfl, by omega, by rw [HT.out, hz, Nat.pow_zero, Nat.one_mul, Nat.zero_add]; exact bk_set HROW.out 2 _, (hbL.setCell (p := ⟨wc.heap.size, 2, none⟩) (Nat.le_refl _) _).drew⟩
              case measure => omega
            · have hn1 : nv (l.take 1) < 4294967296 := by
                have h := nv_lt (HVL.out.2.take 1)
                have h2 : (l.take 1).length ≤ 1 := List.length_take_le _ _
                have h3 : 4294967296 ^ (l.take 1).length ≤ 4294967296 ^ 1 := Nat.pow_le_pow_right (by decide) h2
                omega
              have ho := or_join2 hx32 hn1
              have hw2 : IntKind.u64.wrap ((x : Int) * 4294967296) = (x : Int) * 4294967296 := by rw [IntKind.wrap_u64]; omega
              have y1 : wr.cell? ⟨ad.block, ad.off + 1, none⟩ = some (.int .u32 (x : Int)) := y
              go_wp2_with fail
              go_region_o
              go_wp2
              go_roundg d2
              case rel => exact ⟨2, rfl, by omega, by rw [HT.out, Nat.pow_one]; exact bk_set HROW.out 2 _, (hbL.setCell (p := ⟨wc.heap.size, 2, none⟩) (Nat.le_refl _) _).drew⟩
              case measure => omega
          | zero =>
            obtain rfl : i = l.length := by omega
            rw [List.take_length, HVL.out.1] at hrow
            have c0 := (cell_of_row wr wc.heap.size 0 _ _ (0, 0) hrow).trans rfl; have c1 := (cell_of_row wr wc.heap.size 1 _ _ (0, 0) hrow).trans rfl; have c2 := (cell_of_row wr wc.heap.size 2 _ _ (0, 0) hrow).trans rfl; have c3 := (cell_of_row wr wc.heap.size 3 _ _ (0, 0) hrow).trans rfl; have c4 := (cell_of_row wr wc.heap.size 4 _ _ (0, 0) hrow).trans rfl
            have hz := bk_below hh5 hbL
            have d0 := (cell_of_row wr w.heap.size 0 _ _ (0, 0) hz).trans rfl; have d1 := (cell_of_row wr w.heap.size 1 _ _ (0, 0) hz).trans rfl; have d2 := (cell_of_row wr w.heap.size 2 _ _ (0, 0) hz).trans rfl; have d3 := (cell_of_row wr w.heap.size 3 _ _ (0, 0) hz).trans rfl; have d4 := (cell_of_row wr w.heap.size 4 _ _ (0, 0) hz).trans rfl
            have f0 := frozen_of_row wr w.heap.size 0 _ _ hz; have f1 := frozen_of_row wr w.heap.size 1 _ _ hz; have f2 := frozen_of_row wr w.heap.size 2 _ _ hz; have f3 := frozen_of_row wr w.heap.size 3 _ _ hz; have f4 := frozen_of_row wr w.heap.size 4 _ _ hz
            have hr5 := bk_set (bk_set (bk_set (bk_set (bk_set hz 0 (.int .i64 4)) 1 (.bool true)) 2 (.int .u64 ((v : Nat) : Int))) 3 (.string ⟨#[]⟩)) 4 (.slice none 0 0)
            have hq := Nat.le_refl w.heap.size
            have hb5 := (((((hbC.trans (hbL.mono hbC.size)).setCell (p := ⟨w.heap.size, 0, none⟩) hq (.int .i64 4)).setCell (p := ⟨w.heap.size, 1, none⟩) hq (.bool true)).setCell (p := ⟨w.heap.size, 2, none⟩) hq (.int .u64 ((v : Nat) : Int))).setCell (p := ⟨w.heap.size, 3, none⟩) hq (.string ⟨#[]⟩)).setCell (p := ⟨w.heap.size, 4, none⟩) hq (.slice none 0 0)
            have HR5 : Hid _ := Lib.hid (And.intro hr5 hb5)
            clear hr5 hb5 hz hrow
            go_wp2
            refine bodyPost_ret (results_cell_tmp Tryz.results15 _ _ w.heap.size 36 _ (0, 0) _ rfl HR5.out.1 Tryz.underlying36 rfl (by kernel_rfl)) rfl ⟨.inl ⟨limbs_two HL2.out, rfl⟩, HR5.out.2⟩
end Go.Proofs.YtffncomekbfihaaGreatDoor.Nat
namespace Go.Proofs.YtffncomekbfihaaGreatDoor.Nat
open Go.RowKit Go.Shelf
set_option linter.unusedVariables false
set_option linter.unusedSimpArgs false
/-- the value of no number -/
def nilV : Value := .agg #[.int .i64 0, .bool false, .int .u64 0, .string ⟨#[]⟩, .slice none 0 0]
set_option maxHeartbeats 8000000 in
set_option maxRecDepth 100000 in
theorem value_dot (s : ByteArray) (w : World) (hs : s.size ≤ 9223372036854775807) (hv : nsc 0 (bts s) 0 = (s.size, 0)) (hdot : 46 ∈ bts s ∨ 101 ∈ bts s ∨ 69 ∈ bts s) (X : Nat) (hsc : sc (bts s) = (X, 0)) :
    Calls Tryz.prog 15 #[.string s] w fun e w' => e = .returned (.tuple #[.agg #[.int .i64 8, .bool false, .int .u64 (X : Int), .string ⟨#[]⟩, .slice none 0 0], .int .i64 0]) ∧ Below w.heap.size w w' := by
  have hsl := bts_length s
  have k1 : ∀ W, Calls Tryz.prog 18 #[.string s] W fun e w' => e = .returned (.tuple #[.int .i64 (s.size : Int), .int .i64 0]) ∧ Below W.heap.size W w' := fun W => by
    have h := numScan_calls s W (by omega)
    rw [hv] at h
    exact h
  have k2 : ∀ W, Calls Tryz.prog 37 #[.string s] W fun e w' => e = .returned (.tuple #[.int .u64 (X : Int), .int .i64 0]) ∧ Below W.heap.size W w' := fun W => by
    have h := scan_calls s W (by omega)
    rw [hsc] at h
    exact h
  have hb0 := below_alloc w (.cells #[.int .i64 0, .bool false, .int .u64 0, .string ⟨#[]⟩, .slice none 0 0] 36)
  have hh0 := heap_alloc_new w (.cells #[.int .i64 0, .bool false, .int .u64 0, .string ⟨#[]⟩, .slice none 0 0] 36)
  have HD : Hid _ := Lib.hid hdot
  clear hdot hv hsc
  go_enter Tryz.func15, Tryz.ntmps15
  go_wp2_with (go_at_call 18; (with_reducible refine (k1 _).mono ?_); clear k1; rintro e1 w1 ⟨rfl, hb1⟩; have hh1 := bk_below hh0 hb1; have hbA := below_step hb0 hb1)
  go_loopg [33] s.size (fun kq v33 wr => ∃ i : Nat, v33 = .int .i64 i ∧ i + kq = s.size ∧ Hid (∀ (j c : Nat), j < i → (bts s)[j]? = some c → c ≠ 46 ∧ c ≠ 101 ∧ c ≠ 69) ∧ wr = w1)
  case atStart => exact ⟨0, rfl, by omega, Lib.hid (fun j c hj => absurd hj (Nat.not_lt_zero j)), rfl⟩
  case round =>
    obtain ⟨i, rfl, hi, hno, rfl⟩ := hrel
    cases gk with
    | zero =>
      exfalso
      obtain rfl : i = s.size := by omega
      have h : ∀ c ∈ bts s, c ≠ 46 ∧ c ≠ 101 ∧ c ≠ 69 := fun c hc => by
        obtain ⟨j, hj⟩ := List.mem_iff_getElem?.1 hc
        exact hno.out j c (by have := (List.getElem?_eq_some_iff.1 hj).1; omega) hj
      rcases HD.out with h1 | h1 | h1
      · exact (h _ h1).1 rfl
      · exact (h _ h1).2.1 rfl
      · exact (h _ h1).2.2 rfl
    | succ d =>
      have hlt : i < s.size := by omega
      have hltI : (i : Int) < (s.size : Int) := by omega
      have hat := bts_at s i hlt
      obtain ⟨c, hc⟩ : ∃ c, s[i].toNat = c := ⟨_, rfl⟩
      rw [hc] at hat
      by_cases hq : c = 46 ∨ c = 101 ∨ c = 69
      · clear hat hno
        rcases hq with rfl | rfl | rfl
        all_goals
          go_wp2_with (go_at_call 37; (with_reducible refine (k2 _).mono ?_); clear k2; rintro e3 w3 ⟨rfl, hb3⟩; have hz := bk_below hh1 hb3; have d0 := (cell_of_row w3 w.heap.size 0 _ _ (0, 0) hz).trans rfl; have d1 := (cell_of_row w3 w.heap.size 1 _ _ (0, 0) hz).trans rfl; have d2 := (cell_of_row w3 w.heap.size 2 _ _ (0, 0) hz).trans rfl; have d3 := (cell_of_row w3 w.heap.size 3 _ _ (0, 0) hz).trans rfl; have d4 := (cell_of_row w3 w.heap.size 4 _ _ (0, 0) hz).trans rfl; have f0 := frozen_of_row w3 w.heap.size 0 _ _ hz; have f1 := frozen_of_row w3 w.heap.size 1 _ _ hz; have f2 := frozen_of_row w3 w.heap.size 2 _ _ hz; have f3 := frozen_of_row w3 w.heap.size 3 _ _ hz; have f4 := frozen_of_row w3 w.heap.size 4 _ _ hz)
          have hz := bk_below hh1 hb3
          have hr5 := bk_set (bk_set (bk_set (bk_set (bk_set hz 0 (.int .i64 8)) 1 (.bool false)) 2 (.int .u64 (X : Int))) 3 (.string ⟨#[]⟩)) 4 (.slice none 0 0)
          have hqq := Nat.le_refl w.heap.size
          have hb5 := (((((below_step hbA hb3).setCell (p := ⟨w.heap.size, 0, none⟩) hqq (.int .i64 8)).setCell (p := ⟨w.heap.size, 1, none⟩) hqq (.bool false)).setCell (p := ⟨w.heap.size, 2, none⟩) hqq (.int .u64 (X : Int))).setCell (p := ⟨w.heap.size, 3, none⟩) hqq (.string ⟨#[]⟩)).setCell (p := ⟨w.heap.size, 4, none⟩) hqq (.slice none 0 0)
          refine bodyPost_ret (results_cell_tmp Tryz.results15 _ _ w.heap.size 36 _ (0, 0) _ rfl hr5 Tryz.underlying36 rfl (by kernel_rfl)) rfl ⟨rfl, hb5⟩
      · have n1 : ((c : Int) == 46) = false := beq_eq_false_iff_ne.2 (by omega)
        have n2 : ((c : Int) == 101) = false := beq_eq_false_iff_ne.2 (by omega)
        have n3 : ((c : Int) == 69) = false := beq_eq_false_iff_ne.2 (by omega)
        have HN : Hid (∀ (j c : Nat), j < i + 1 → (bts s)[j]? = some c → c ≠ 46 ∧ c ≠ 101 ∧ c ≠ 69) := Lib.hid (fun j x hj hx => by
          rcases Nat.lt_or_ge j i with h | h
          · exact hno.out j x h hx
          · obtain rfl : j = i := by omega
            rw [hat] at hx
            cases hx
            omega)
        clear hat hq hno
        go_wp2
        go_roundg d
        case rel => exact ⟨i + 1, by go_num, by omega, HN, rfl⟩
        case measure => omega
set_option maxHeartbeats 8000000 in
set_option maxRecDepth 100000 in
theorem value_long (neg : Bool) (D : List Nat) (s : ByteArray) (w : World) (hs : bts s = sgb neg ++ D) (hd : Dgs D) (hDl : 1200 < D.length) (hsz0 : s.size ≤ 9223372036854775807) (hv : nsc 0 (bts s) 0 = (s.size, 0)) :
    Calls Tryz.prog 15 #[.string s] w fun e w' => e = .returned (.tuple #[nilV, .int .i64 8]) ∧ Below w.heap.size w w' := by
  have hsl := bts_length s
  have k1 : ∀ W, Calls Tryz.prog 18 #[.string s] W fun e w' => e = .returned (.tuple #[.int .i64 (s.size : Int), .int .i64 0]) ∧ Below W.heap.size W w' := fun W => by
    have h := numScan_calls s W (by omega)
    rw [hv] at h
    exact h
  obtain ⟨t, ht, hc2⟩ : ∃ t : ByteArray, ⟨(Lib.trimPrefix s.data.toList [45]).toArray⟩ = t ∧ bts t = D := by
    cases neg with
    | true => exact ⟨_, rfl, (cut_sign hs).2⟩
    | false => exact ⟨_, rfl, by rw [(cut_dgs (s := s) (by rw [hs]; exact hd)).2]; exact hs⟩
  have htl := bts_length t
  rw [hc2] at htl
  have k2 := fun W => Tryz.strings_CutPrefix s ⟨#[45]⟩ W
  rw [show (⟨#[45]⟩ : ByteArray).data.toList = [45] from rfl, ht] at k2
  generalize Lib.hasPrefix s.data.toList [45] = pb at k2
  have HS : Hid (∀ (j c : Nat), (bts s)[j]? = some c → c = 45 ∨ (48 ≤ c ∧ c ≤ 57)) := Lib.hid (fun j c h => by
    rw [hs] at h
    have hm := List.mem_of_getElem? h
    rcases List.mem_append.1 hm with q | q
    · refine .inl ?_
      unfold sgb at q
      split at q
      · simpa using q
      · simp at q
    · exact .inr (hd c q))
  have hb0 := below_alloc w (.cells #[.int .i64 0, .bool false, .int .u64 0, .string ⟨#[]⟩, .slice none 0 0] 36)
  have hh0 := heap_alloc_new w (.cells #[.int .i64 0, .bool false, .int .u64 0, .string ⟨#[]⟩, .slice none 0 0] 36)
  have hts : (1200 : Int) < (t.size : Int) := by omega
  unfold nilV
  clear hc2 hs hd ht htl hDl hv hsl
  go_enter Tryz.func15, Tryz.ntmps15
  go_wp2_with (go_at_call 18; (with_reducible refine (k1 _).mono ?_); clear k1; rintro e1 w1 ⟨rfl, hb1⟩; have hh1 := bk_below hh0 hb1; have hbA := below_step hb0 hb1)
  go_loopg [33] s.size (fun kq v33 wr => ∃ i : Nat, v33 = .int .i64 i ∧ i + kq = s.size ∧ wr = w1)
  case atStart => exact ⟨0, rfl, by omega, rfl⟩
  case round =>
    obtain ⟨i, rfl, hi, rfl⟩ := hrel
    cases gk with
    | succ d =>
      have hlt : i < s.size := by omega
      have hltI : (i : Int) < (s.size : Int) := by omega
      have hat := bts_at s i hlt
      obtain ⟨c, hc⟩ : ∃ c, s[i].toNat = c := ⟨_, rfl⟩
      rw [hc] at hat
      have hcd := HS.out i c hat
      have n1 : ((c : Int) == 46) = false := beq_eq_false_iff_ne.2 (by omega)
      have n2 : ((c : Int) == 101) = false := beq_eq_false_iff_ne.2 (by omega)
      have n3 : ((c : Int) == 69) = false := beq_eq_false_iff_ne.2 (by omega)
      clear hat
      go_wp2
      go_roundg d
      case rel => exact ⟨i + 1, by go_num, by omega, rfl⟩
      case measure => omega
    | zero =>
      obtain rfl : i = s.size := by omega
      have d0 := (cell_of_row wr w.heap.size 0 _ _ (0, 0) hh1).trans rfl; have d1 := (cell_of_row wr w.heap.size 1 _ _ (0, 0) hh1).trans rfl; have d2 := (cell_of_row wr w.heap.size 2 _ _ (0, 0) hh1).trans rfl; have d3 := (cell_of_row wr w.heap.size 3 _ _ (0, 0) hh1).trans rfl; have d4 := (cell_of_row wr w.heap.size 4 _ _ (0, 0) hh1).trans rfl
      have f0 := frozen_of_row wr w.heap.size 0 _ _ hh1; have f1 := frozen_of_row wr w.heap.size 1 _ _ hh1; have f2 := frozen_of_row wr w.heap.size 2 _ _ hh1; have f3 := frozen_of_row wr w.heap.size 3 _ _ hh1; have f4 := frozen_of_row wr w.heap.size 4 _ _ hh1
      have hr5 := bk_set (bk_set (bk_set (bk_set (bk_set hh1 0 (.int .i64 0)) 1 (.bool false)) 2 (.int .u64 0)) 3 (.string ⟨#[]⟩)) 4 (.slice none 0 0)
      have hqq := Nat.le_refl w.heap.size
      have hb5 := ((((hbA.setCell (p := ⟨w.heap.size, 0, none⟩) hqq (.int .i64 0)).setCell (p := ⟨w.heap.size, 1, none⟩) hqq (.bool false)).setCell (p := ⟨w.heap.size, 2, none⟩) hqq (.int .u64 0)).setCell (p := ⟨w.heap.size, 3, none⟩) hqq (.string ⟨#[]⟩)).setCell (p := ⟨w.heap.size, 4, none⟩) hqq (.slice none 0 0)
      have HR5 : Hid _ := Lib.hid (And.intro hr5 hb5)
      clear hr5 hb5
      go_wp2_with (go_at_call 38; (with_reducible refine (k2 _).mono ?_); clear k2; rintro e2 w2 ⟨rfl, rfl⟩)
      refine bodyPost_ret (results_cell_tmp Tryz.results15 _ _ w.heap.size 36 _ (0, 0) _ rfl HR5.out.1 Tryz.underlying36 rfl (by kernel_rfl)) rfl ⟨rfl, HR5.out.2⟩
set_option maxHeartbeats 8000000 in
set_option maxRecDepth 100000 in
theorem same_calls (K N : Int) (neg : Bool) (S : ByteArray) (A A' : Option Addr) (c c' : Nat) (w : World) :
    Calls Tryz.prog 17 #[.agg #[.int .i64 K, .bool neg, .int .u64 N, .string S, .slice A 0 c], .agg #[.int .i64 K, .bool neg, .int .u64 N, .string S, .slice A' 0 c']] w fun e w' => e = .returned (.bool true) ∧ Below w.heap.size w w' := by
  have hb0 := below_step (below_alloc w (.cells #[.int .i64 K, .bool neg, .int .u64 N, .string S, .slice A 0 c] 36)) (below_alloc (w.alloc (.cells #[.int .i64 K, .bool neg, .int .u64 N, .string S, .slice A 0 c] 36)) (.cells #[.int .i64 K, .bool neg, .int .u64 N, .string S, .slice A' 0 c'] 36))
  go_enter Tryz.func17, Tryz.ntmps17
  go_wp2
  obtain ⟨Kf, HK⟩ : ∃ Kf, Hid (Kf = 0) := ⟨0, Lib.hid rfl⟩
  go_loopg [5] Kf (fun kq v5 wr => kq = 0 ∧ v5 = .int .i64 0 ∧ wr = (w.alloc (.cells #[.int .i64 K, .bool neg, .int .u64 N, .string S, .slice A 0 c] 36)).alloc (.cells #[.int .i64 K, .bool neg, .int .u64 N, .string S, .slice A' 0 c'] 36))
  case atStart => exact ⟨HK.out, rfl, rfl⟩
  case round =>
    obtain ⟨hk0, rfl, rfl⟩ := hrel
    subst hk0
    go_wp2
    go_ret
    exact ⟨rfl, hb0⟩
theorem emp_bytes {S : ByteArray} (h : S.size = 0) : S = ⟨#[]⟩ := bts_inj (List.eq_nil_of_length_eq_zero (by rw [bts_length]; exact h) : bts S = [])
theorem isnum_val {K : Int} {neg : Bool} {N v : Nat} {S : ByteArray} {e : Ending} (h : IsNum K N S v) (hN : N < 18446744073709551616) (hP : ValP neg v e) : e = .returned (.tuple #[.agg #[.int .i64 K, .bool neg, .int .u64 (N : Int), .string S, .slice none 0 0], .int .i64 0]) := by
  rcases h with ⟨rfl, hs, rfl⟩ | ⟨rfl, rfl, h8, h512, ⟨c0, h0, hc0⟩, rfl⟩
  · rcases hP with ⟨_, rfl⟩ | ⟨h2, _⟩
    · rw [emp_bytes hs]
    · exfalso
      have := limbs_two hN
      omega
  · have hb := bval_big h0 hc0 (by rw [bts_length]; exact h8)
    rcases hP with ⟨h2, _⟩ | ⟨_, S', rfl, hv, hz⟩
    · exfalso; omega
    · have e1 : S' = S := bts_inj (bval_uniq (bts_all S') (bts_all S) (by rw [bts_length, bts_length, hz, bval_size (bts_all S) h0 hc0, bts_length]) hv)
      rw [e1]
      rfl
theorem dgs_dec_sign (neg : Bool) (v : Nat) : nsc 0 (sgb neg ++ dec v) 0 = ((sgb neg ++ dec v).length, 0) := by
  cases neg with
  | true => exact nsc_neg v
  | false =>
    show nsc 0 (dec v) 0 = ((dec v).length, 0)
    rw [nsc_dec v 0 (.inl rfl) 0, Nat.zero_add]
theorem value_num (neg : Bool) (v : Nat) (s : ByteArray) (w : World) (hs : bts s = sgb neg ++ dec (v + ng neg)) (hl : (dec (v + ng neg)).length ≤ 1200) :
    Calls Tryz.prog 15 #[.string s] w fun e w' => ValP neg v e ∧ Below w.heap.size w w' := by
  have hv : nsc 0 (bts s) 0 = (s.size, 0) := by
    have h := dgs_dec_sign neg (v + ng neg)
    rw [← hs, bts_length] at h
    exact h
  cases neg with
  | true => exact value_num_neg (dec (v + 1)) (v + 1) v s w hs (dgs_dec _) (dec_ne _) hl (dval_dec _) rfl (by omega) hv
  | false => exact value_num_pos (dec v) v v s w hs (dgs_dec _) (dec_ne _) hl (dval_dec _) rfl hv
end Go.Proofs.YtffncomekbfihaaGreatDoor.Nat
