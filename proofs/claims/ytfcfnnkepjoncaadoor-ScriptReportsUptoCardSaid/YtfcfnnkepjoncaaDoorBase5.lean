import Derived.Test.YtfcfnnkepjoncaaDoorBase4
import Derived.Test.YtfcfnnkepjoncaaDoorWMore
import Derived.Lib.Hide
import Derived.Maps.AppendAt
namespace Go.Proofs.YtfcfnnkepjoncaaDoor.Base
open Go.RowKit Go.Proofs.YtfcfnnkepjoncaaDoorW.PrintWords Go.Proofs.YtfcfnnkepjoncaaDoorW.PrintLast Go.Proofs.YtfcfnnkepjoncaaDoorW.PrintMore
attribute [local go_sem] max2_int min2_int max_two min_two max_three min_three max_four min_four
set_option linter.unusedVariables false
set_option linter.unusedSimpArgs false

/-- what is gathered of bytes: a number, how many bits it has, the digits by now -/
def encStep (tw : Nat) (s : Nat × Nat × List Nat) (v : Nat) : Nat × Nat × List Nat := ((drain tw (s.1 * 256 + v) (s.2.1 + 8)).2.1, (drain tw (s.1 * 256 + v) (s.2.1 + 8)).2.2, s.2.2 ++ (drain tw (s.1 * 256 + v) (s.2.1 + 8)).1)
def encBits (tw : Nat) (l : List Nat) : Nat × Nat × List Nat := l.foldl (encStep tw) (0, 0, [])
def encDigits (tw : Nat) (l : List Nat) : List Nat := if 0 < (encBits tw l).2.1 then (encBits tw l).2.2 ++ [(encBits tw l).1 * 2 ^ (tw - (encBits tw l).2.1)] else (encBits tw l).2.2
/-- so many letters '=' fill up -/
def fillN (m n : Nat) : Nat := (m - n % m) % m
def encL (L : ByteArray) (tw m : Nat) (l : List Nat) : List Int := (encDigits tw l).map (fun (d : Nat) => bt L (d : Int)) ++ List.replicate (fillN m (encDigits tw l).length) 61

theorem cell3_0 {w : World} {g : Nat} {a b c : Value} {t : TypeId} {f : Nat × Nat} (h : w.heap[g]? = some (.cells #[a, b, c] t f)) : w.cell? ⟨g, 0, none⟩ = some a := by simp [World.cell?, h]
theorem cell3_1 {w : World} {g : Nat} {a b c : Value} {t : TypeId} {f : Nat × Nat} (h : w.heap[g]? = some (.cells #[a, b, c] t f)) : w.cell? ⟨g, 1, none⟩ = some b := by simp [World.cell?, h]
theorem cell3_2 {w : World} {g : Nat} {a b c : Value} {t : TypeId} {f : Nat × Nat} (h : w.heap[g]? = some (.cells #[a, b, c] t f)) : w.cell? ⟨g, 2, none⟩ = some c := by simp [World.cell?, h]
theorem none_kept {w w1 : World} {b : Nat} {o : Obj} (hg : w.grownBy w1 none) (hb : w.heap[b]? = some o) : w1.heap[b]? = some o := one_kept hg hb (by simp)
/-- the state of the closures behind the making -/
theorem alloc_at (w : World) (o : Obj) (k : Nat) (h : k = w.heap.size) : (w.alloc o).heap[k]? = some o := by subst h; exact heap_alloc_new w o
theorem alloc_past {w : World} {o : Obj} {k : Nat} {x : Obj} (h : w.heap[k]? = some x) : (w.alloc o).heap[k]? = some x := by rw [Below.heap_alloc _ _ _ (lt_of_block h)]; exact h

theorem Bin.start {w : World} {ga tw : Nat} {L : ByteArray} {b f : Int} {base : Nat} {v : Value} (ka : w.heap[ga]? = some (.cells #[.string L, .int .i64 b, .int .i64 f] 48 (0, 0))) (own : w.ownsRow base 5 1 v 0 []) :
    Bin ((((((w.alloc (.cells #[v] 22)).alloc (.cells #[.int .i64 8] 3)).alloc (.cells #[.int .i64 tw] 3)).alloc (.cells #[.func (.func 18) #[] #[.pointer (some ⟨w.heap.size, 0, none⟩), .pointer (some ⟨ga, 0, none⟩)]] 52)).alloc (.cells #[.int .i64 0] 3)).alloc (.cells #[.int .i64 0] 3))
      (w.heap.size + 1 + 1 + 1 + 1) (w.heap.size + 1) (w.heap.size + 1 + 1 + 1 + 1 + 1) (w.heap.size + 1 + 1) (w.heap.size + 1 + 1 + 1) w.heap.size ga tw L b f base 0 0 v 0 [] := by
  refine ⟨?_, ?_, ?_, ?_, ?_, ?_, ?_, ?_⟩
  · exact alloc_past (alloc_at _ _ _ (by simp))
  · exact alloc_past (alloc_past (alloc_past (alloc_past (alloc_at _ _ _ (by simp)))))
  · exact alloc_at _ _ _ (by simp)
  · exact alloc_past (alloc_past (alloc_past (alloc_at _ _ _ (by simp))))
  · exact alloc_past (alloc_past (alloc_at _ _ _ (by simp)))
  · exact alloc_past (alloc_past (alloc_past (alloc_past (alloc_past (alloc_at _ _ _ (by simp))))))
  · exact alloc_past (alloc_past (alloc_past (alloc_past (alloc_past (alloc_past ka)))))
  · exact (((((own.alloc _).alloc _).alloc _).alloc _).alloc _).alloc _

theorem drain_ok (tw : Nat) (ht : 0 < tw) : ∀ (N X : Nat), X < 2 ^ N → (drain tw X N).2.2 < tw ∧ (drain tw X N).2.1 < 2 ^ (drain tw X N).2.2 ∧ (drain tw X N).1.length ≤ N ∧ (∀ d ∈ (drain tw X N).1, d < 2 ^ tw) := by
  intro N
  induction N using Nat.strongRecOn with
  | _ N ih =>
    intro X hX
    by_cases h : tw ≤ N
    · rw [drain, dif_pos ⟨ht, h⟩]
      obtain ⟨a, b, c, d⟩ := ih (N - tw) (by omega) (X % 2 ^ (N - tw)) (Nat.mod_lt _ (Nat.two_pow_pos _))
      refine ⟨a, b, by simp; omega, ?_⟩
      intro y hy
      rcases List.mem_cons.1 hy with rfl | hy
      · rw [Nat.div_lt_iff_lt_mul (Nat.two_pow_pos _), ← Nat.pow_add]
        rwa [show tw + (N - tw) = N by omega]
      · exact d y hy
    · rw [drain, dif_neg (fun q => h q.2)]
      exact ⟨show N < tw by omega, hX, by simp, by simp⟩

theorem rev_ind {P : List Nat → Prop} (h0 : P []) (h1 : ∀ l x, P l → P (l ++ [x])) (l : List Nat) : P l := by
  have key : ∀ l : List Nat, P l.reverse := by
    intro l
    induction l with
    | nil => exact h0
    | cons x l ih => rw [List.reverse_cons]; exact h1 _ _ ih
  have := key l.reverse
  rwa [List.reverse_reverse] at this
theorem enc_snoc (tw : Nat) (l : List Nat) (x : Nat) : encBits tw (l ++ [x]) = encStep tw (encBits tw l) x := by simp [encBits, List.foldl_append]

theorem enc_ok (tw : Nat) (ht : 0 < tw) (l : List Nat) (hl : ∀ x ∈ l, x < 256) : (encBits tw l).2.1 < tw ∧ (encBits tw l).1 < 2 ^ (encBits tw l).2.1 ∧ (encBits tw l).2.2.length ≤ (tw + 8) * l.length ∧ (∀ d ∈ (encBits tw l).2.2, d < 2 ^ tw) := by
  induction l using rev_ind with
  | h0 => exact ⟨ht, by simp [encBits], by simp [encBits], by simp [encBits]⟩
  | h1 l x ih =>
    obtain ⟨a, b, c, d⟩ := ih (fun y hy => hl y (by simp [hy]))
    have hx : x < 256 := hl x (by simp)
    have e : encBits tw (l ++ [x]) = encStep tw (encBits tw l) x := by simp [encBits, List.foldl_append]
    rw [e]
    have hX : (encBits tw l).1 * 256 + x < 2 ^ ((encBits tw l).2.1 + 8) := by
      rw [Nat.pow_add]; have : (encBits tw l).1 + 1 ≤ _ := b; have := Nat.mul_le_mul_right 256 this; omega
    obtain ⟨a', b', c', d'⟩ := drain_ok tw ht _ _ hX
    refine ⟨a', b', ?_, ?_⟩
    · show ((encBits tw l).2.2 ++ _).length ≤ _
      rw [List.length_append, List.length_append]
      have : (tw + 8) * (l.length + [x].length) = (tw + 8) * l.length + (tw + 8) := by simp [Nat.mul_add]
      omega
    · intro y hy
      rcases List.mem_append.1 hy with hy | hy
      · exact d y hy
      · exact d' y hy

set_option maxRecDepth 100000 in
set_option maxHeartbeats 3200000 in
theorem left_any (gx gn x n : Nat) (w : World) (hx : w.heap[gx]? = some (.cells #[.int .i64 x] 3 (0, 0))) (hn : w.heap[gn]? = some (.cells #[.int .i64 n] 3 (0, 0))) :
    Calls Tryd.prog 26 #[.pointer (some ⟨gx, 0, none⟩), .pointer (some ⟨gn, 0, none⟩)] w fun e w' => e = .returned (.tuple #[.int .i64 x, .int .i64 n]) ∧ Drawn0 w w' := by
  have cx := cell_of_one hx
  have cn := cell_of_one hn
  go_enter Tryd.func26, Tryd.ntmps26
  go_wp2_with fail
  go_quiet (fail)
  go_wp2
  go_ret2
  exact ⟨rfl, by repeat (first | exact Drawn0.refl _ | exact ⟨⟨_, rfl⟩⟩ | apply Drawn0.step)⟩

set_option maxRecDepth 100000 in
set_option maxHeartbeats 3200000 in
theorem bits_any (tw : Nat) (f : Fn) (a c : Array Value) (w : World) :
    Calls Tryd.prog 19 #[.int .i64 8, .int .i64 tw, .func f a c] w fun e w' => e = .returned (.tuple #[.func (.func 25) #[] #[.pointer (some ⟨w.heap.size + 1 + 1 + 1, 0, none⟩), .pointer (some ⟨w.heap.size, 0, none⟩), .pointer (some ⟨w.heap.size + 1 + 1 + 1 + 1, 0, none⟩), .pointer (some ⟨w.heap.size + 1, 0, none⟩), .pointer (some ⟨w.heap.size + 1 + 1, 0, none⟩)], .func (.func 26) #[] #[.pointer (some ⟨w.heap.size + 1 + 1 + 1, 0, none⟩), .pointer (some ⟨w.heap.size + 1 + 1 + 1 + 1, 0, none⟩)]]) ∧
      ((((w.alloc (.cells #[.int .i64 8] 3)).alloc (.cells #[.int .i64 tw] 3)).alloc (.cells #[.func f a c] 52)).alloc (.cells #[.int .i64 0] 3)).alloc (.cells #[.int .i64 0] 3) = w' := by
  have hmf : ∀ (fn : Fn) (first cap : Array Value) (w : World), (Instr.makeFunc fn first cap).run Tryd.prog w = .ok (.func fn first cap) w := fun _ _ _ _ => rfl
  go_enter Tryd.func19, Tryd.ntmps19
  go_wp2
  go_ret2
  exact ⟨rfl, rfl⟩

theorem one_u8 : ∀ u ∈ [Value.int .u8 61], u.oneCell' = true := by intro u hu; simp at hu; subst hu; rfl
theorem size_step {w : World} {B : Nat} {o : Obj} (h : B ≤ w.heap.size) : B ≤ (w.alloc o).heap.size := by simp; omega
theorem last_digit (x n tw : Nat) (L : ByteArray) (hx : x < 2 ^ n) (hn : n ≤ tw) (ht : tw ≤ 6) (hL : 2 ^ tw ≤ L.size) :
    wrap64 ((x : Int) * 2 ^ (tw - n)) = ((x * 2 ^ (tw - n) : Nat) : Int) ∧ 0 ≤ wrap64 ((x : Int) * 2 ^ (tw - n)) ∧ wrap64 ((x : Int) * 2 ^ (tw - n)) < (L.size : Int) := by
  have hy : x * 2 ^ (tw - n) < 2 ^ tw := by
    have h1 := Nat.mul_lt_mul_of_pos_right hx (Nat.two_pow_pos (tw - n))
    rwa [← Nat.pow_add, show n + (tw - n) = tw by omega] at h1
  have hy64 : 2 ^ tw ≤ 64 := Nat.pow_le_pow_right (n := 2) (by decide) (show tw ≤ 6 from ht)
  have h1 : ((x * 2 ^ (tw - n) : Nat) : Int) = (x : Int) * 2 ^ (tw - n) := by simp
  have hw : wrap64 ((x : Int) * 2 ^ (tw - n)) = ((x * 2 ^ (tw - n) : Nat) : Int) := by
    rw [← h1]; exact wrap_mid (by omega) (by omega)
  exact ⟨hw, by rw [hw]; omega, by rw [hw]; omega⟩
theorem fillN_lt (m n : Nat) (hm : 1 ≤ m) : fillN m n < m := Nat.mod_lt _ hm
theorem fillN_no (m n p : Nat) (hm : 1 ≤ m) (hp : p < fillN m n) : 0 < (n + p) % m := by
  unfold fillN at hp
  have h1 : n % m < m := Nat.mod_lt _ hm
  by_cases h0 : n % m = 0
  · rw [h0, Nat.sub_zero, Nat.mod_self] at hp; omega
  · rw [Nat.mod_eq_of_lt (by omega)] at hp
    rw [← Nat.mod_add_div n m, Nat.add_right_comm, Nat.add_mul_mod_self_left, Nat.mod_eq_of_lt (by omega)]; omega
theorem fillN_yes (m n : Nat) (hm : 1 ≤ m) : (n + fillN m n) % m = 0 := by
  unfold fillN
  have h1 : n % m < m := Nat.mod_lt _ hm
  by_cases h0 : n % m = 0
  · rw [h0, Nat.sub_zero, Nat.mod_self]; exact h0
  · rw [Nat.mod_eq_of_lt (show m - n % m < m by omega), ← Nat.mod_add_div n m, Nat.add_right_comm, Nat.add_mul_mod_self_left]
    rw [Nat.mod_add_div n m, show n % m + (m - n % m) = m by omega, Nat.mod_self]

theorem lenK_nat (k M : Int) (h0 : 0 ≤ M) (h1 : M ≤ 1048576) : ∃ C : Nat, lenK k M = (C : Int) ∧ C ≤ 100000000 := by
  unfold lenK
  by_cases c : (ofK k).2.2.2 = false ∨ M < 0 ∨ M > 1048576
  · rw [if_pos c]; exact ⟨0, rfl, by omega⟩
  · rw [if_neg c]
    rcases of_cases k with ⟨z0, z3, _⟩ | ⟨z, _⟩
    · rcases (show k = 0 ∨ k = 1 ∨ k = 2 ∨ k = 3 by omega) with rfl | rfl | rfl | rfl
      · refine ⟨(((8 * M + 4 - 1) / 4 + 1 - 1) / 1 * 1).toNat, ?_, by omega⟩
        show ((8 * M + 4 - 1) / 4 + 1 - 1) / 1 * 1 = _; omega
      · refine ⟨(((8 * M + 6 - 1) / 6 + 4 - 1) / 4 * 4).toNat, ?_, by omega⟩
        show ((8 * M + 6 - 1) / 6 + 4 - 1) / 4 * 4 = _; omega
      · refine ⟨(((8 * M + 6 - 1) / 6 + 1 - 1) / 1 * 1).toNat, ?_, by omega⟩
        show ((8 * M + 6 - 1) / 6 + 1 - 1) / 1 * 1 = _; omega
      · refine ⟨(((8 * M + 5 - 1) / 5 + 8 - 1) / 8 * 8).toNat, ?_, by omega⟩
        show ((8 * M + 5 - 1) / 5 + 8 - 1) / 8 * 8 = _; omega
    · rw [z] at c; exact absurd (.inl rfl) c

set_option maxRecDepth 100000 in
set_option maxHeartbeats 3200000 in
theorem enc_gen (k : Int) (L : ByteArray) (tw m : Nat) (A1 : Option Addr) (c1 : Nat) (l1 : List Int) (w : World) (hof : base_of.f k = some (L, (tw : Int), (m : Int), true)) (ht4 : 4 ≤ tw) (ht6 : tw ≤ 6) (hm1 : 1 ≤ m) (hm8 : m ≤ 8) (hL : 2 ^ tw ≤ L.size)
    (hr1 : Kd.C (Kd.int .u8) w A1 l1.length l1) (hc1 : l1.length ≤ c1) (hb : ∀ x ∈ l1, 0 ≤ x ∧ x < 256) (hl : l1.length ≤ 10000000000000) :
    Calls Tryd.prog 10 #[.int .i64 k, .slice A1 l1.length c1] w fun e w' => e = .returned (.tuple #[.string (strOfNums (encL L tw m (l1.map Int.toNat))), .int .i64 0]) ∧ Below w.heap.size w w' := by
  have hmf : ∀ (fn : Fn) (first cap : Array Value) (w : World), (Instr.makeFunc fn first cap).run Tryd.prog w = .ok (.func fn first cap) w := fun _ _ _ _ => rfl
  go_enter Tryd.func10, Tryd.ntmps10
  go_wp2_with fail
  refine (base_of.calls _ _ _ _ _ _ hof).mono ?_
  rintro e w1 ⟨rfl, B1⟩
  go_wp2_with fail
  all_goals
    refine (base_Len.calls k _ _ _ rfl).mono ?_
    rintro e w2 ⟨rfl, B2⟩
    obtain ⟨C, hC, hC2⟩ := by first | exact lenK_nat k 1048576 (by omega) (by omega) | exact lenK_nat k (l1.length : Int) (by omega) (by omega)
    (first | rw [hC] | (clear hC hC2 C; obtain ⟨C, hC, hC2⟩ := lenK_nat k (l1.length : Int) (by omega) (by omega); rw [hC]))
    clear hC
    have ka : w2.heap[w1.heap.size]? = some (.cells #[.string L, .int .i64 tw, .int .i64 m] 48 (0, 0)) := (B2.block _ (by simp)).trans (heap_alloc_new w1 _)
    have B3 : Below w.heap.size w w2 := (B1.alloc B1.size _).trans (B2.mono (by have := B1.size; simp; omega))
    clear B2
    obtain ⟨i0, hi0, hz0, hz1, hz2⟩ := info_parts info5
    go_wp2_with (at_make; go_must (refine wpList_make_own _ rfl _ _ 22 rfl w.heap.size 5 i0 (.int .u8 0) 1 Tryd.underlying22 hi0 hz0 hz1 .i64 .i64 C C rfl rfl rfl (by rw [hz2]; omega) (by unfold maxLen; omega) B3.size ?_; intro w3 hown3 hgrow3; have ka3 := none_kept hgrow3 ka; have cA1 := cell3_1 ka3; have lA3 := lt_of_block ka3))
    have B4 : Below w.heap.size w w3 := B3.grown hgrow3 B3.size (fun k e => by cases e)
    clear B1 hgrow3 hi0 hz0 hz1 hz2 ka
    go_wp2_with (go_at_call 19; refine (bits_any tw _ _ _ _).mono ?_; rintro e w4 ⟨rfl, rfl⟩)
    have hb' : ∀ x ∈ l1.map Int.toNat, x < 256 := by
      intro x hx; obtain ⟨y, hy, rfl⟩ := List.mem_map.1 hx; have := hb y hy; omega
    have I0 := Bin.start (tw := tw) ka3 hown3
    have hb3 : w.heap.size ≤ w3.heap.size := B4.size
    have B5 : Below w.heap.size w ((((((w3.alloc (.cells #[.slice (some ⟨w2.heap.size, 0, none⟩) 0 C] 22)).alloc (.cells #[.int .i64 8] 3)).alloc (.cells #[.int .i64 tw] 3)).alloc (.cells #[.func (.func 18) #[] #[.pointer (some ⟨w3.heap.size, 0, none⟩), .pointer (some ⟨w1.heap.size, 0, none⟩)]] 52)).alloc (.cells #[.int .i64 0] 3)).alloc (.cells #[.int .i64 0] 3)) :=
      (((((B4.alloc B4.size _).alloc (by simp; omega) _).alloc (by simp; omega) _).alloc (by simp; omega) _).alloc (by simp; omega) _).alloc (by simp; omega) _
    clear B4 B3 ka3 cA1 lA3 hown3
    go_loopw [39] (fun i wr => ∃ (j : Nat) (ov : Value), i = .int .i64 j ∧ j ≤ l1.length ∧ Bin wr (w3.heap.size + 1 + 1 + 1 + 1) (w3.heap.size + 1) (w3.heap.size + 1 + 1 + 1 + 1 + 1) (w3.heap.size + 1 + 1) (w3.heap.size + 1 + 1 + 1) w3.heap.size w1.heap.size tw L tw m w.heap.size (encBits tw ((l1.map Int.toNat).take j)).1 (encBits tw ((l1.map Int.toNat).take j)).2.1 ov (encBits tw ((l1.map Int.toNat).take j)).2.2.length ((encBits tw ((l1.map Int.toNat).take j)).2.2.map (LC L)) ∧ Below w.heap.size w wr) (fun i _ => l1.length - (intOf i).toNat)
    case atStart => exact ⟨0, _, rfl, Nat.zero_le _, I0, B5⟩
    case round =>
      clear I0 B5
      obtain ⟨j, ov, rfl, hj, I, B⟩ := hrel
      by_cases hlt : j < l1.length
      · obtain ⟨ad, e, hx⟩ := Kd.at_int (Kd.C_below hr1 B) (j : Int) (by omega) (by omega)
        subst e
        obtain ⟨x, hxe⟩ : ∃ x : Nat, rd l1 (j : Int) = (x : Int) ∧ x < 256 ∧ (l1.map Int.toNat).take (j + 1) = (l1.map Int.toNat).take j ++ [x] := by
          have hm := hb _ (List.getElem_mem hlt)
          refine ⟨(l1[j]).toNat, ?_, by omega, ?_⟩
          · simp only [rd, Int.toNat_natCast, List.getD_eq_getElem?_getD, List.getElem?_eq_getElem hlt, Option.getD_some]; omega
          · rw [List.take_succ_eq_append_getElem (by simpa using hlt)]; simp
        obtain ⟨hx1, hx2, hx3⟩ := hxe
        rw [hx1, Int.toNat_natCast] at hx
        clear hx1
        obtain ⟨q1, q2, q3, q4⟩ := enc_ok tw (by omega) ((l1.map Int.toNat).take j) (fun y hy => hb' y (List.mem_of_mem_take hy))
        have hlen : (encBits tw ((l1.map Int.toNat).take j)).2.2.length ≤ 14 * 10000000000000 := by
          refine Nat.le_trans q3 (Nat.mul_le_mul (by omega) ?_); rw [List.length_take]; omega
        have hsn := enc_snoc tw ((l1.map Int.toNat).take j) x
        rw [← hx3] at hsn
        clear q3 q4 hx3
        generalize hs0 : encBits tw ((l1.map Int.toNat).take j) = s0 at *
        have HSN := Lib.hid hsn
        clear hsn hs0
        have hx256 : (x : Int) < 256 := by omega
        go_wp2_with (go_at_call 25; refine (add_any _ _ _ _ _ _ _ tw L tw m w.heap.size s0.1 s0.2.1 x ov _ _ _ I (by omega) (by omega) (by omega) (by omega) (by omega) (by omega) q2 hx2 (by omega) hL (by omega) (by omega) (by omega) (by omega) B.size (by omega)).mono ?_; rintro e W2 ⟨rfl, ov2, I2, B2⟩)
        go_roundw
        case rel =>
          refine ⟨j + 1, ov2, by go_num, by omega, ?_, B.trans B2⟩
          rw [HSN.out]
          show Bin W2 _ _ _ _ _ _ _ _ _ _ _ _ _ _ _ (s0.2.2 ++ _).length ((s0.2.2 ++ _).map (LC L))
          rw [List.length_append, List.map_append]; exact I2
        case measure => simp [intOf]; omega
      · obtain rfl : j = l1.length := by omega
        have htk : (l1.map Int.toNat).take l1.length = l1.map Int.toNat := List.take_of_length_le (by simp)
        rw [htk] at I
        clear htk hr1
        obtain ⟨q1, q2, q3, q4⟩ := enc_ok tw (by omega) (l1.map Int.toNat) hb'
        have hlen : (encBits tw (l1.map Int.toNat)).2.2.length ≤ 14 * 10000000000000 := by
          refine Nat.le_trans q3 (Nat.mul_le_mul (by omega) ?_); rw [List.length_map]; exact hl
        have hed : encDigits tw (l1.map Int.toNat) = if 0 < (encBits tw (l1.map Int.toNat)).2.1 then (encBits tw (l1.map Int.toNat)).2.2 ++ [(encBits tw (l1.map Int.toNat)).1 * 2 ^ (tw - (encBits tw (l1.map Int.toNat)).2.1)] else (encBits tw (l1.map Int.toNat)).2.2 := rfl
        have hel : encL L tw m (l1.map Int.toNat) = (encDigits tw (l1.map Int.toNat)).map (fun (d : Nat) => bt L (d : Int)) ++ List.replicate (fillN m (encDigits tw (l1.map Int.toNat)).length) 61 := rfl
        generalize encDigits tw (l1.map Int.toNat) = ED at *
        generalize encBits tw (l1.map Int.toNat) = s0 at *
        have HED := Lib.hid hed
        have HEL := Lib.hid hel
        clear hed hel hb hb' q3 q4
        have hED : ED.length ≤ 14 * 10000000000000 + 1 := by rw [HED.out]; split <;> simp <;> omega
        have hfl := fillN_lt m ED.length hm1
        have hA0 := I.ha
        by_cases hn0 : s0.2.1 = 0
        · have e1 : ED = s0.2.2 := by rw [HED.out, if_neg (by omega)]
          subst e1
          have hO := I.ho
          have hOwn := I.own
          have hn1 : ((s0.2.1 : Nat) : Int) = 0 := by omega
          have I' := I
          rw [hn0] at I'
          clear HED q1 q2 hn0 hn1
          go_wp2_with (go_at_call 26; refine (left_any _ _ s0.1 0 _ I'.hx I'.hn).mono ?_; rintro e W2 ⟨rfl, ⟨q, rfl⟩⟩)
          have hO2 : (wr.drewN q).heap[w3.heap.size]? = some (.cells #[ov] 22 (0, 0)) := hO
          have hA0' : (wr.drewN q).heap[w1.heap.size]? = some (.cells #[.string L, .int .i64 tw, .int .i64 m] 48 (0, 0)) := hA0
          have hOwn2 : (wr.drewN q).ownsRow w.heap.size 5 1 ov s0.2.2.length (s0.2.2.map (LC L)) := hOwn
          have BB : Below w.heap.size w (wr.drewN q) := pw_below_drewN B q
          clear I I' hO hOwn hA0
          generalize s0.2.2 = ED at *
          have hA2 := hA0'
          go_loopg [] (fillN m ED.length) (fun kq wr2 => ∃ (ovp : Value) (p : Nat), wr2.heap[w3.heap.size]? = some (.cells #[ovp] 22 (0, 0)) ∧ wr2.heap[w1.heap.size]? = some (.cells #[.string L, .int .i64 tw, .int .i64 m] 48 (0, 0)) ∧ wr2.ownsRow w.heap.size 5 1 ovp (ED.length + p) (ED.map (LC L) ++ List.replicate p (.int .u8 61)) ∧ Hid (p + kq = fillN m ED.length) ∧ Below w.heap.size w wr2)
          case atStart => exact ⟨_, 0, hO2, hA2, by simpa using hOwn2, (Nat.zero_add _ : 0 + fillN m ED.length = fillN m ED.length), BB⟩
          case round =>
            clear hO2 hA2 hOwn2 BB
            obtain ⟨ovp, p, hO3, hA3, hOwn3, HK, B3⟩ := hrel
            obtain ⟨Ao, co, rfl⟩ := own_slice hOwn3
            have cO := cell_of_one hO3
            have fO := free_of_one hO3
            have cA2 := cell3_2 hA3
            have hnm : ED.map (LC L) ++ List.replicate p (Value.int .u8 61) = nums .u8 (ED.map (fun (d : Nat) => bt L (d : Int)) ++ List.replicate p 61) := by
              simp [nums, LC]
            cases gk with
            | zero =>
              have hp : p = fillN m ED.length := by have := HK.out; omega
              have hz : ((ED.length : Int) + (p : Int)) % (m : Int) = 0 := by
                have := fillN_yes m ED.length hm1; rw [← hp] at this; exact_mod_cast congrArg (Nat.cast (R := Int)) this
              rw [hnm] at hOwn3
              have hcv := own_string (P := Tryd.prog) (src := 22) (dst := 9) (e := 5) Tryd.underlying22 Tryd.underlying5 Tryd.underlying9 hOwn3
              have hfin : encL L tw m (l1.map Int.toNat) = ED.map (fun (d : Nat) => bt L (d : Int)) ++ List.replicate p 61 := by rw [HEL.out, hp]
              have HF := Lib.hid hfin
              clear hfin hnm hp HK HEL hOwn3
              go_wp2_with fail
              go_ret2
              exact ⟨by rw [HF.out]; rfl, B3⟩
            | succ g =>
              have hp : p < fillN m ED.length := by have := HK.out; omega
              have hz : 0 < ((ED.length : Int) + (p : Int)) % (m : Int) := by
                have := fillN_no m ED.length p hm1 hp; exact_mod_cast this
              obtain ⟨i0, hi0, hz0, hz1, hz2⟩ := info_parts info5
              have hap := own_apart hOwn3 hO3 (by decide)
              have haA := own_apart hOwn3 hA3 (by decide)
              have hsz : w.heap.size ≤ wr.heap.size := B3.size
              go_wp2_with (at_builtin; refine wpList_append_own _ rfl _ _ 22 rfl w.heap.size 5 i0 (.int .u8 0) 1 1 Tryd.underlying22 hi0 hz0 hz1 hz2 rfl (by decide) _ _ _ rfl (hOwn3.alloc _) ⟨wr.heap.size, 0, none⟩ 1 1 [.int .u8 61] rfl rfl (cell_one_new _ _ _) one_u8 (by unfold maxLen; omega) (by omega) (size_step hsz) ?_; intro v' w5 hown5 hgrow5 _; obtain ⟨g5, cap5, rfl⟩ := own_succ hown5; have kO5 := one_kept hgrow5 (alloc_past hO3) hap; have kA5 := one_kept hgrow5 (alloc_past hA3) haA; have cO5 := cell_of_one kO5; have fO5 := free_of_one kO5)
              have R1 := one_setCell (u := Value.slice (some ⟨g5, 0, none⟩) (ED.length + p + 1) cap5) kO5
              have R2 := far kA5 (blk_ne kO5 kA5 (by decide)) (Value.slice (some ⟨g5, 0, none⟩) (ED.length + p + 1) cap5)
              have R3 := ownsRow_setCell_other hown5 (own_apart hown5 kO5 (by decide)) (a := ⟨w3.heap.size, 0, none⟩) (Value.slice (some ⟨g5, 0, none⟩) (ED.length + p + 1) cap5)
              have hrow : ∀ kx, (Value.slice Ao (ED.length + p) co).ownBlock = some kx → w.heap.size ≤ kx := own_base hOwn3
              have R4 := ((B3.alloc hsz (Obj.cells #[Value.int .u8 61] 5)).grown hgrow5 (size_step hsz) hrow).setCell (p := ⟨w3.heap.size, 0, none⟩) hb3 (Value.slice (some ⟨g5, 0, none⟩) (ED.length + p + 1) cap5)
              have hls : (ED.map (LC L) ++ List.replicate p (Value.int .u8 61)) ++ [Value.int .u8 61] = ED.map (LC L) ++ List.replicate (p + 1) (Value.int .u8 61) := by
                rw [List.replicate_succ', List.append_assoc]
              rw [hls] at R3
              have HK2 : Hid ((p + 1) + g = fillN m ED.length) := by have := HK.out; show _ = _; omega
              clear hls hnm HK hown5 hgrow5 kO5 kA5 cO5 fO5 hOwn3 hO3 hA3 B3
              go_roundg g
              case measure => omega
              case rel => exact ⟨_, p + 1, R1, R2, R3, HK2, R4⟩
        · have hn0' : 0 < s0.2.1 := by omega
          have e1 : ED = s0.2.2 ++ [s0.1 * 2 ^ (tw - s0.2.1)] := by rw [HED.out, if_pos hn0']
          obtain ⟨hw, hy0, hyL⟩ := last_digit s0.1 s0.2.1 tw L q2 (Nat.le_of_lt q1) ht6 hL
          have HW := Lib.hid hw
          have HE1 := Lib.hid e1
          have hn1 : (0 : Int) < (s0.2.1 : Int) := by omega
          have hn2 : (s0.2.1 : Int) ≤ (tw : Int) := by omega
          have hB0 : w.heap.size ≤ wr.heap.size := B.size
          clear hw e1 HED q1 q2
          go_wp2_with (first | (go_at_call 26; refine (left_any _ _ s0.1 s0.2.1 _ I.hx I.hn).mono ?_; rintro e W2 ⟨rfl, ⟨q, rfl⟩⟩; have cA1 := cell3_1 (show (wr.drewN q).heap[w1.heap.size]? = _ from I.ha)) | (go_at_call 18; refine (put_int w3.heap.size w1.heap.size L tw m ov _ _ _ _ w.heap.size (show (wr.drewN q).heap[w3.heap.size]? = _ from I.ho) (show (wr.drewN q).heap[w1.heap.size]? = _ from I.ha) (show (wr.drewN q).ownsRow _ _ _ _ _ _ from I.own) hy0 hyL (show w.heap.size ≤ (wr.drewN q).heap.size from hB0) (by omega) hb3).mono ?_; rintro e W3 ⟨rfl, ovq, hO2, hOwnQ, hBQ, hfQ⟩))
          have hA0' : W3.heap[w1.heap.size]? = some (.cells #[.string L, .int .i64 tw, .int .i64 m] 48 (0, 0)) := (hfQ _ (lt_of_block I.ha) (blk_ne I.ho I.ha (by decide)) (own_apart I.own I.ha (by decide))).trans I.ha
          have hOwn2 : W3.ownsRow w.heap.size 5 1 ovq ED.length (ED.map (LC L)) := by
            rw [HE1.out, List.length_append, List.map_append]
            have h2 := hOwnQ; rw [HW.out] at h2; exact h2
          have BB : Below w.heap.size w W3 := (pw_below_drewN B q).trans hBQ
          clear hfQ hOwnQ hBQ I hA0 HW HE1 hy0 hyL hn0 hn0' hn1 hn2
          have hA2 := hA0'
          go_loopg [] (fillN m ED.length) (fun kq wr2 => ∃ (ovp : Value) (p : Nat), wr2.heap[w3.heap.size]? = some (.cells #[ovp] 22 (0, 0)) ∧ wr2.heap[w1.heap.size]? = some (.cells #[.string L, .int .i64 tw, .int .i64 m] 48 (0, 0)) ∧ wr2.ownsRow w.heap.size 5 1 ovp (ED.length + p) (ED.map (LC L) ++ List.replicate p (.int .u8 61)) ∧ Hid (p + kq = fillN m ED.length) ∧ Below w.heap.size w wr2)
          case atStart => exact ⟨_, 0, hO2, hA2, by simpa using hOwn2, (Nat.zero_add _ : 0 + fillN m ED.length = fillN m ED.length), BB⟩
          case round =>
            clear hO2 hA2 hOwn2 BB
            obtain ⟨ovp, p, hO3, hA3, hOwn3, HK, B3⟩ := hrel
            obtain ⟨Ao, co, rfl⟩ := own_slice hOwn3
            have cO := cell_of_one hO3
            have fO := free_of_one hO3
            have cA2 := cell3_2 hA3
            have hnm : ED.map (LC L) ++ List.replicate p (Value.int .u8 61) = nums .u8 (ED.map (fun (d : Nat) => bt L (d : Int)) ++ List.replicate p 61) := by
              simp [nums, LC]
            cases gk with
            | zero =>
              have hp : p = fillN m ED.length := by have := HK.out; omega
              have hz : ((ED.length : Int) + (p : Int)) % (m : Int) = 0 := by
                have := fillN_yes m ED.length hm1; rw [← hp] at this; exact_mod_cast congrArg (Nat.cast (R := Int)) this
              rw [hnm] at hOwn3
              have hcv := own_string (P := Tryd.prog) (src := 22) (dst := 9) (e := 5) Tryd.underlying22 Tryd.underlying5 Tryd.underlying9 hOwn3
              have hfin : encL L tw m (l1.map Int.toNat) = ED.map (fun (d : Nat) => bt L (d : Int)) ++ List.replicate p 61 := by rw [HEL.out, hp]
              have HF := Lib.hid hfin
              clear hfin hnm hp HK HEL hOwn3
              go_wp2_with fail
              go_ret2
              exact ⟨by rw [HF.out]; rfl, B3⟩
            | succ g =>
              have hp : p < fillN m ED.length := by have := HK.out; omega
              have hz : 0 < ((ED.length : Int) + (p : Int)) % (m : Int) := by
                have := fillN_no m ED.length p hm1 hp; exact_mod_cast this
              obtain ⟨i0, hi0, hz0, hz1, hz2⟩ := info_parts info5
              have hap := own_apart hOwn3 hO3 (by decide)
              have haA := own_apart hOwn3 hA3 (by decide)
              have hsz : w.heap.size ≤ wr.heap.size := B3.size
              go_wp2_with (at_builtin; refine wpList_append_own _ rfl _ _ 22 rfl w.heap.size 5 i0 (.int .u8 0) 1 1 Tryd.underlying22 hi0 hz0 hz1 hz2 rfl (by decide) _ _ _ rfl (hOwn3.alloc _) ⟨wr.heap.size, 0, none⟩ 1 1 [.int .u8 61] rfl rfl (cell_one_new _ _ _) one_u8 (by unfold maxLen; omega) (by omega) (size_step hsz) ?_; intro v' w5 hown5 hgrow5 _; obtain ⟨g5, cap5, rfl⟩ := own_succ hown5; have kO5 := one_kept hgrow5 (alloc_past hO3) hap; have kA5 := one_kept hgrow5 (alloc_past hA3) haA; have cO5 := cell_of_one kO5; have fO5 := free_of_one kO5)
              have R1 := one_setCell (u := Value.slice (some ⟨g5, 0, none⟩) (ED.length + p + 1) cap5) kO5
              have R2 := far kA5 (blk_ne kO5 kA5 (by decide)) (Value.slice (some ⟨g5, 0, none⟩) (ED.length + p + 1) cap5)
              have R3 := ownsRow_setCell_other hown5 (own_apart hown5 kO5 (by decide)) (a := ⟨w3.heap.size, 0, none⟩) (Value.slice (some ⟨g5, 0, none⟩) (ED.length + p + 1) cap5)
              have hrow : ∀ kx, (Value.slice Ao (ED.length + p) co).ownBlock = some kx → w.heap.size ≤ kx := own_base hOwn3
              have R4 := ((B3.alloc hsz (Obj.cells #[Value.int .u8 61] 5)).grown hgrow5 (size_step hsz) hrow).setCell (p := ⟨w3.heap.size, 0, none⟩) hb3 (Value.slice (some ⟨g5, 0, none⟩) (ED.length + p + 1) cap5)
              have hls : (ED.map (LC L) ++ List.replicate p (Value.int .u8 61)) ++ [Value.int .u8 61] = ED.map (LC L) ++ List.replicate (p + 1) (Value.int .u8 61) := by
                rw [List.replicate_succ', List.append_assoc]
              rw [hls] at R3
              have HK2 : Hid ((p + 1) + g = fillN m ED.length) := by have := HK.out; show _ = _; omega
              clear hls hnm HK hown5 hgrow5 kO5 kA5 cO5 fO5 hOwn3 hO3 hA3 B3
              go_roundg g
              case measure => omega
              case rel => exact ⟨_, p + 1, R1, R2, R3, HK2, R4⟩

def base_Encode.f (a0 : Int) (l1 : List Int) : Option (ByteArray × Int) :=
  if (ofK a0).2.2.2 = false then some ((⟨#[]⟩ : ByteArray), 1)
  else if (∀ x ∈ l1, 0 ≤ x ∧ x < 256) ∧ l1.length ≤ 10000000000000 then some (strOfNums (encL (ofK a0).1 (ofK a0).2.1.toNat (ofK a0).2.2.1.toNat (l1.map Int.toNat)), 0) else none

set_option maxRecDepth 100000 in
set_option maxHeartbeats 3200000 in
theorem enc_out (k : Int) (L : ByteArray) (b f : Int) (A1 : Option Addr) (n c1 : Nat) (w : World) (h : base_of.f k = some (L, b, f, false)) :
    Calls Tryd.prog 10 #[.int .i64 k, .slice A1 n c1] w fun e w' => e = .returned (.tuple #[.string ⟨#[]⟩, .int .i64 1]) ∧ Below w.heap.size w w' := by
  go_enter Tryd.func10, Tryd.ntmps10
  go_wp2_with fail
  refine (base_of.calls _ _ _ _ _ _ h).mono ?_
  rintro e w1 ⟨rfl, B1⟩
  clear h
  go_wp2
  go_ret2
  exact ⟨rfl, B1.alloc B1.size _⟩

theorem base_Encode.calls (a0 : Int) (A1 : Option Addr) (c1 : Nat) (l1 : List Int) (r1 : ByteArray) (r2 : Int) (w : World) (hr1 : Kd.C (Kd.int .u8) w A1 l1.length l1) (hc1 : l1.length ≤ c1) (h : base_Encode.f a0 l1 = some (r1, r2)) :
    Calls Tryd.prog 10 #[.int .i64 a0, .slice A1 l1.length c1] w fun e w' => e = .returned (.tuple #[.string r1, .int .i64 r2]) ∧ Below w.heap.size w w' := by
  unfold base_Encode.f at h
  by_cases c : (ofK a0).2.2.2 = false
  · rw [if_pos c] at h
    simp only [Option.some.injEq, Prod.mk.injEq] at h
    obtain ⟨rfl, rfl⟩ := h
    exact enc_out a0 (ofK a0).1 (ofK a0).2.1 (ofK a0).2.2.1 A1 l1.length c1 w (by unfold base_of.f; rw [← c])
  · rw [if_neg c] at h
    by_cases d : (∀ x ∈ l1, 0 ≤ x ∧ x < 256) ∧ l1.length ≤ 10000000000000
    · rw [if_pos d] at h
      simp only [Option.some.injEq, Prod.mk.injEq] at h
      obtain ⟨rfl, rfl⟩ := h
      rcases of_cases a0 with ⟨z0, z3, _⟩ | ⟨z, _⟩
      · rcases (show a0 = 0 ∨ a0 = 1 ∨ a0 = 2 ∨ a0 = 3 by omega) with rfl | rfl | rfl | rfl
        · exact enc_gen 0 aHex 4 1 A1 c1 l1 w rfl (by decide) (by decide) (by decide) (by decide) (by decide) hr1 hc1 d.1 d.2
        · exact enc_gen 1 aB64 6 4 A1 c1 l1 w rfl (by decide) (by decide) (by decide) (by decide) (by decide) hr1 hc1 d.1 d.2
        · exact enc_gen 2 aU64 6 1 A1 c1 l1 w rfl (by decide) (by decide) (by decide) (by decide) (by decide) hr1 hc1 d.1 d.2
        · exact enc_gen 3 aB32 5 8 A1 c1 l1 w rfl (by decide) (by decide) (by decide) (by decide) (by decide) hr1 hc1 d.1 d.2
      · rw [z] at c; exact absurd rfl c
    · rw [if_neg d] at h; cases h
end Go.Proofs.YtfcfnnkepjoncaaDoor.Base
