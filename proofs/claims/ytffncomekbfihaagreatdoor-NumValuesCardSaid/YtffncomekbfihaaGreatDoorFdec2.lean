/- fdec.ratio.times, fdec.ratio.cut. -/
import Derived.Test.YtffncomekbfihaaGreatDoorFdec1
import Derived.Test.YtffncomekbfihaaGreatDoorNearPure
namespace Go.Proofs.YtffncomekbfihaaGreatDoor.Nat
open Go.RowKit Go.Shelf
set_option linter.unusedVariables false
theorem up_nat (n : Nat) : up (n : Int) = 2 ^ n := by unfold up; rw [Int.toNat_natCast]
theorem up_neg (n : Nat) : up (-(n : Int)) = 1 := by unfold up; rw [show (-(n : Int)).toNat = 0 by omega]
theorem neg_wrap {n : Nat} (h : n ≤ 60000) : IntKind.i64.wrap (-(n : Int)) = -(n : Int) := by rw [IntKind.wrap_i64]; omega
theorem bk_lt {w : World} {g : Nat} {o : Obj} (h : w.heap[g]? = some o) : g < w.heap.size := (Array.getElem?_eq_some_iff.1 h).1
theorem bk_below {w w1 : World} {g : Nat} {o : Obj} (h : w.heap[g]? = some o) (hb : Below w.heap.size w w1) : w1.heap[g]? = some o := (hb.block g (bk_lt h)).trans h
theorem bk_alloc {w : World} {g : Nat} {o : Obj} (h : w.heap[g]? = some o) (o' : Obj) : (w.alloc o').heap[g]? = some o := (Below.heap_alloc w o' g (bk_lt h)).trans h
theorem bk_set {w : World} {g : Nat} {t : TypeId} {cs : Array Value} (h : w.heap[g]? = some (.cells cs t (0, 0))) (i : Nat) (u : Value) : (w.setCell ⟨g, i, none⟩ u).heap[g]? = some (.cells (cs.setIfInBounds i u) t (0, 0)) := heap_setCell_same w g i cs t u h
theorem bk_far {w : World} {g : Nat} {o : Obj} (h : w.heap[g]? = some o) {p : Addr} (hp : g ≠ p.block) (u : Value) : (w.setCell p u).heap[g]? = some o := (Below.heap_setCell w p u g hp).trans h
/-- a ratio in a block -/
structure BR (w : World) (B : Nat) (x y : Value) : Prop where
  b : w.heap[B]? = some (.cells #[x, y] 52 (0, 0))
theorem BR.c0 {w : World} {B : Nat} {x y : Value} (h : BR w B x y) : w.cell? ⟨B, 0, none⟩ = some x := (cell_of_row w B 0 _ _ (0, 0) h.b).trans rfl
theorem BR.c1 {w : World} {B : Nat} {x y : Value} (h : BR w B x y) : w.cell? ⟨B, 1, none⟩ = some y := (cell_of_row w B 1 _ _ (0, 0) h.b).trans rfl
theorem BR.f {w : World} {B : Nat} {x y : Value} (h : BR w B x y) (i : Nat) : w.frozen? ⟨B, i, none⟩ = false := frozen_of_row w B i _ _ h.b
theorem BR.below {w w1 : World} {B : Nat} {x y : Value} (h : BR w B x y) (hb : Below w.heap.size w w1) : BR w1 B x y := ⟨bk_below h.b hb⟩
theorem BR.set0 {w : World} {B : Nat} {x y : Value} (h : BR w B x y) (u : Value) : BR (w.setCell ⟨B, 0, none⟩ u) B u y := ⟨bk_set h.b 0 u⟩
theorem BR.set1 {w : World} {B : Nat} {x y : Value} (h : BR w B x y) (u : Value) : BR (w.setCell ⟨B, 1, none⟩ u) B x u := ⟨bk_set h.b 1 u⟩
theorem BR.far {w : World} {B : Nat} {x y : Value} (h : BR w B x y) {p : Addr} (hp : B ≠ p.block) (u : Value) : BR (w.setCell p u) B x y := ⟨bk_far h.b hp u⟩
theorem BR.drew {w : World} {B : Nat} {x y : Value} (h : BR w B x y) : BR w.drew B x y := ⟨h.b⟩
theorem BR.alloc {w : World} {B : Nat} {x y : Value} (h : BR w B x y) (o : Obj) : BR (w.alloc o) B x y := ⟨bk_alloc h.b o⟩
theorem br_new (w : World) (x y : Value) : BR (w.alloc (.cells #[x, y] 52)) w.heap.size x y := ⟨heap_alloc_new w _⟩
theorem br_new2 (w : World) (o : Obj) (x y : Value) : BR ((w.alloc o).alloc (.cells #[x, y] 52)) (w.heap.size + 1) x y := ⟨by have h := heap_alloc_new (w.alloc o) (.cells #[x, y] 52); rwa [World.size_alloc] at h⟩
theorem good_set {w : World} {A : Option Addr} {l : List Nat} {c : Nat} (h : Good w (A, l, c)) {p : Addr} {B : Option Addr} {m k : Nat} (hp : w.cell? p = some (.slice B m k)) (u : Value) : Good (w.setCell p u) (A, l, c) :=
  ⟨fun j x hx => by
    obtain ⟨ad, e, hc⟩ := h.1 j x hx
    refine ⟨ad, e, ?_⟩
    rw [World.cell?_setCell_other _ _ _ _ (fun q => by rw [q, hc] at hp; cases hp)]
    exact hc, h.2⟩
theorem NatA.drew {w : World} {V : Value} {v : Nat} (h : NatA w V v) : NatA w.drew V v := h
theorem NatA.set {w : World} {V : Value} {v : Nat} (h : NatA w V v) {p : Addr} {B : Option Addr} {m k : Nat} (hp : w.cell? p = some (.slice B m k)) (u : Value) : NatA (w.setCell p u) V v := by
  obtain ⟨A, l, c, e, hG, hO, hv⟩ := h
  exact ⟨A, l, c, e, good_set hG hp u, hO, hv⟩
set_option maxHeartbeats 8000000 in
set_option maxRecDepth 100000 in
theorem times_pp (Va Vb : Value) (a b n t : Nat) (w : World) (hA : NatA w Va a) (hB : NatA w Vb b) (hn : n ≤ 60000) (ht : t ≤ 2000) (hl1 : (limbs (a * 2 ^ n)).length ≤ 3000) (hl2 : (limbs (b)).length ≤ 3000) (hl3 : (limbs a).length ≤ 3000) (hs2 : a = 0 ∨ bl a + n ≤ 131072) :
    Calls Tryz.prog 20 #[.agg #[Va, Vb], .int .i64 ((n : Int)), .int .i64 ((t : Int))] w fun e w' => ∃ Va' Vb', e = .returned (.agg #[Va', Vb']) ∧ NatA w' Va' (a * 2 ^ n * 10 ^ t) ∧ NatA w' Vb' (b) ∧ Below w.heap.size w w' := by
  obtain ⟨A1, l1, c1, rfl, hG1, hO1, hv1⟩ := hA
  obtain ⟨A2, l2, c2, rfl, hG2, hO2, hv2⟩ := hB
  have hn0 : ¬ (n : Int) < 0 := by omega
  have ht0 : ¬ (t : Int) < 0 := by omega
  have hb0 := below_alloc w (.cells #[.slice A1 l1.length c1, .slice A2 l2.length c2] 52)
  have hbA := hb0.alloc hb0.size (.cells #[.slice none 0 0, .slice none 0 0] 52)
  have bx0 := (br_new w (.slice A1 l1.length c1) (.slice A2 l2.length c2)).alloc (.cells #[.slice none 0 0, .slice none 0 0] 52)
  have br0 := br_new2 w (.cells #[.slice A1 l1.length c1, .slice A2 l2.length c2] 52) (.slice none 0 0) (.slice none 0 0)
  have hA0 : NatA w (.slice A1 l1.length c1) a := ⟨_, _, _, rfl, hG1, hO1, hv1⟩
  have hB0 : NatA w (.slice A2 l2.length c2) b := ⟨_, _, _, rfl, hG2, hO2, hv2⟩
  have k1 := fun W (hb : Below w.heap.size w W) => shl_a n (hA0.below hb) hs2 (by omega)
  have k2 := fun W => ten_calls t W ht
  have ht2 := limbs_ten ht
  have hl4 := limbs_mul (a * 2 ^ n) (10 ^ t)
  have KK : ∀ W, Below w.heap.size w W → Calls Tryz.prog 52 #[.slice A1 l1.length c1, .int .i64 (n : Int)] W fun e w1 => ∃ A3 l3 c3, e = .returned (.tuple #[.slice A3 (l3 : List Nat).length c3, .int .i64 0]) ∧ Good w1 (A3, l3, c3) ∧ Ok l3 ∧ nv l3 = a * 2 ^ n ∧ Below W.heap.size W w1 := fun W hb => (k1 W hb).mono (fun e w1 h => by
    obtain ⟨v1, rfl, hv3, hb1⟩ := h
    obtain ⟨A3, l3, c3, rfl, hG3, hO3, hv3⟩ := hv3.a (by omega)
    exact ⟨A3, l3, c3, rfl, hG3, hO3, hv3, hb1⟩)
  clear k1
  go_enter Tryz.func20, Tryz.ntmps20
  go_wp2_with (first | (go_at_call 52; (with_reducible refine (KK _ hbA).mono ?_); clear KK; rintro e1 w1 ⟨A3, l3, c3, rfl, hG3, hO3, hv3, hb1⟩; have bx1 := bx0.below hb1; have br1 := br0.below hb1; have q0 := bx1.c0; have q1 := bx1.c1; have qf0 := bx1.f 0; have qf1 := bx1.f 1))
  clear q0 q1 qf0 qf1 bx0 br0
  have hbB := (below_step hbA hb1).setCell (p := ⟨w.heap.size, 0, none⟩) (Nat.le_refl _) (.slice A3 l3.length c3)
  have bx2 := bx1.set0 (.slice A3 l3.length c3)
  have br2 := br1.far (p := ⟨w.heap.size, 0, none⟩) (by simp) (.slice A3 l3.length c3)
  have q0 := bx2.c0
  have q1 := bx2.c1
  have hN3 : NatA (w1.setCell ⟨w.heap.size, 0, none⟩ (.slice A3 l3.length c3)) (.slice A3 l3.length c3) (a * 2 ^ n) := ⟨_, _, _, rfl, good_set hG3 bx1.c0 _, hO3, hv3⟩
  have hN2 := hB0.below hbB
  generalize w1.setCell ⟨w.heap.size, 0, none⟩ (.slice A3 l3.length c3) = W at *
  have bx2d := bx2.drew
  have br2d := br2.drew
  have hbBd := hbB.drew
  have hMd := hN3.drew
  have hOd := hN2.drew
  go_region_law (first
     | (go_simp; go_at_call 54; (with_reducible refine (k2 _).mono ?_); rintro e2 w2 ⟨v2, rfl, hv4, hb2⟩; (first | have bx3 := bx2.below hb2 | have bx3 := bx2d.below hb2); have q2 := bx3.c0; (first | have br3 := br2.below hb2 | have br3 := br2d.below hb2); (first | have hbC := below_step hbB hb2 | have hbC := below_step hbBd hb2); (first | have hO3 := hN2.below hb2 | have hO3 := hOd.below hb2); (first | have k3 := mul_a (hN3.below hb2) hv4 (by omega) | have k3 := mul_a (hMd.below hb2) hv4 (by omega)))
     | (go_simp; go_at_call 53; (with_reducible refine k3.mono ?_); clear k3; rintro e3 w3 ⟨v3, rfl, hv5, hb3⟩; obtain ⟨A5, l5, c5, rfl, hG5, hO5, hv5⟩ := hv5.a (by omega); have bx4 := bx3.below hb3; have q5 := bx4.c0; have qf5 := bx4.f 0; have br4 := br3.below hb3; have hbD := below_step hbC hb3; have hO4 := hO3.below hb3))
  all_goals
    have bx5 := bx4.set0 (.slice A5 l5.length c5)
    have br5 := br4.far (p := ⟨w.heap.size, 0, none⟩) (by simp) (.slice A5 l5.length c5)
    have hbE := hbD.setCell (p := ⟨w.heap.size, 0, none⟩) (Nat.le_refl _) (.slice A5 l5.length c5)
    have hA5 : NatA (w3.setCell ⟨w.heap.size, 0, none⟩ (.slice A5 l5.length c5)) (.slice A5 l5.length c5) (a * 2 ^ n * 10 ^ t) := ⟨_, _, _, rfl, good_set hG5 bx4.c0 _, hO5, hv5⟩
    have hO6 := hO4.set bx4.c0 (.slice A5 l5.length c5)
    have d0 := bx5.c0
    have d1 := bx5.c1
    have d2 := br5.c0
    have d3 := br5.c1
    have d4 := br5.f 0
    have d5 := br5.f 1
    clear hv5 hG5 hO5
    go_wp2_with fail
    have hf := fun a b => (br5.set0 a).set1 b
    have hs : w.heap.size ≤ w.heap.size + 1 := Nat.le_succ _
    refine bodyPost_ret (v := .agg #[.slice A5 l5.length c5, .slice A2 l2.length c2]) (results_cell_row Tryz.results20 _ _ (w.heap.size + 1) 52 _ (0, 0) _ rfl (hf _ _).b Tryz.underlying52 rfl (by kernel_rfl)) rfl ?_
    exact ⟨_, _, rfl, (hA5.set d2 _).set (br5.set0 _).c1 _, (hO6.set d2 _).set (br5.set0 _).c1 _, (hbE.setCell hs _).setCell hs _⟩
set_option maxHeartbeats 8000000 in
set_option maxRecDepth 100000 in
theorem times_pn (Va Vb : Value) (a b n t : Nat) (w : World) (hA : NatA w Va a) (hB : NatA w Vb b) (hn : n ≤ 60000) (ht : t ≤ 2000) (hl1 : (limbs (a * 2 ^ n)).length ≤ 3000) (hl2 : (limbs (b)).length ≤ 3000) (hl3 : (limbs a).length ≤ 3000) (hs2 : a = 0 ∨ bl a + n ≤ 131072) (htp : 0 < t) :
    Calls Tryz.prog 20 #[.agg #[Va, Vb], .int .i64 ((n : Int)), .int .i64 (-(t : Int))] w fun e w' => ∃ Va' Vb', e = .returned (.agg #[Va', Vb']) ∧ NatA w' Va' (a * 2 ^ n) ∧ NatA w' Vb' (b * 10 ^ t) ∧ Below w.heap.size w w' := by
  obtain ⟨A1, l1, c1, rfl, hG1, hO1, hv1⟩ := hA
  obtain ⟨A2, l2, c2, rfl, hG2, hO2, hv2⟩ := hB
  have hn0 : ¬ (n : Int) < 0 := by omega
  have ht0 : -(t : Int) < 0 := by omega
  have ht1 : 0 < (t : Int) := by omega
  have htw : IntKind.i64.wrap (t : Int) = (t : Int) := by rw [IntKind.wrap_i64]; omega
  have hb0 := below_alloc w (.cells #[.slice A1 l1.length c1, .slice A2 l2.length c2] 52)
  have hbA := hb0.alloc hb0.size (.cells #[.slice none 0 0, .slice none 0 0] 52)
  have bx0 := (br_new w (.slice A1 l1.length c1) (.slice A2 l2.length c2)).alloc (.cells #[.slice none 0 0, .slice none 0 0] 52)
  have br0 := br_new2 w (.cells #[.slice A1 l1.length c1, .slice A2 l2.length c2] 52) (.slice none 0 0) (.slice none 0 0)
  have hA0 : NatA w (.slice A1 l1.length c1) a := ⟨_, _, _, rfl, hG1, hO1, hv1⟩
  have hB0 : NatA w (.slice A2 l2.length c2) b := ⟨_, _, _, rfl, hG2, hO2, hv2⟩
  have k1 := fun W (hb : Below w.heap.size w W) => shl_a n (hA0.below hb) hs2 (by omega)
  have k2 := fun W => ten_calls t W ht
  have ht2 := limbs_ten ht
  have hl4 := limbs_mul (b) (10 ^ t)
  have KK : ∀ W, Below w.heap.size w W → Calls Tryz.prog 52 #[.slice A1 l1.length c1, .int .i64 (n : Int)] W fun e w1 => ∃ A3 l3 c3, e = .returned (.tuple #[.slice A3 (l3 : List Nat).length c3, .int .i64 0]) ∧ Good w1 (A3, l3, c3) ∧ Ok l3 ∧ nv l3 = a * 2 ^ n ∧ Below W.heap.size W w1 := fun W hb => (k1 W hb).mono (fun e w1 h => by
    obtain ⟨v1, rfl, hv3, hb1⟩ := h
    obtain ⟨A3, l3, c3, rfl, hG3, hO3, hv3⟩ := hv3.a (by omega)
    exact ⟨A3, l3, c3, rfl, hG3, hO3, hv3, hb1⟩)
  clear k1
  go_enter Tryz.func20, Tryz.ntmps20
  go_wp2_with (first | (go_at_call 52; (with_reducible refine (KK _ hbA).mono ?_); clear KK; rintro e1 w1 ⟨A3, l3, c3, rfl, hG3, hO3, hv3, hb1⟩; have bx1 := bx0.below hb1; have br1 := br0.below hb1; have q0 := bx1.c0; have q1 := bx1.c1; have qf0 := bx1.f 0; have qf1 := bx1.f 1))
  clear q0 q1 qf0 qf1 bx0 br0
  have hbB := (below_step hbA hb1).setCell (p := ⟨w.heap.size, 0, none⟩) (Nat.le_refl _) (.slice A3 l3.length c3)
  have bx2 := bx1.set0 (.slice A3 l3.length c3)
  have br2 := br1.far (p := ⟨w.heap.size, 0, none⟩) (by simp) (.slice A3 l3.length c3)
  have q0 := bx2.c0
  have q1 := bx2.c1
  have hN3 : NatA (w1.setCell ⟨w.heap.size, 0, none⟩ (.slice A3 l3.length c3)) (.slice A3 l3.length c3) (a * 2 ^ n) := ⟨_, _, _, rfl, good_set hG3 bx1.c0 _, hO3, hv3⟩
  have hN2 := hB0.below hbB
  generalize w1.setCell ⟨w.heap.size, 0, none⟩ (.slice A3 l3.length c3) = W at *
  have bx2d := bx2.drew
  have br2d := br2.drew
  have hbBd := hbB.drew
  have hMd := hN2.drew
  have hOd := hN3.drew
  go_region_law (first
     | (go_simp; go_at_call 54; (with_reducible refine (k2 _).mono ?_); rintro e2 w2 ⟨v2, rfl, hv4, hb2⟩; (first | have bx3 := bx2.below hb2 | have bx3 := bx2d.below hb2); have q2 := bx3.c1; (first | have br3 := br2.below hb2 | have br3 := br2d.below hb2); (first | have hbC := below_step hbB hb2 | have hbC := below_step hbBd hb2); (first | have hO3 := hN3.below hb2 | have hO3 := hOd.below hb2); (first | have k3 := mul_a (hN2.below hb2) hv4 (by omega) | have k3 := mul_a (hMd.below hb2) hv4 (by omega)))
     | (go_simp; go_at_call 53; (with_reducible refine k3.mono ?_); clear k3; rintro e3 w3 ⟨v3, rfl, hv5, hb3⟩; obtain ⟨A5, l5, c5, rfl, hG5, hO5, hv5⟩ := hv5.a (by omega); have bx4 := bx3.below hb3; have q5 := bx4.c1; have qf5 := bx4.f 1; have br4 := br3.below hb3; have hbD := below_step hbC hb3; have hO4 := hO3.below hb3))
  all_goals
    have bx5 := bx4.set1 (.slice A5 l5.length c5)
    have br5 := br4.far (p := ⟨w.heap.size, 1, none⟩) (by simp) (.slice A5 l5.length c5)
    have hbE := hbD.setCell (p := ⟨w.heap.size, 1, none⟩) (Nat.le_refl _) (.slice A5 l5.length c5)
    have hA5 : NatA (w3.setCell ⟨w.heap.size, 1, none⟩ (.slice A5 l5.length c5)) (.slice A5 l5.length c5) (b * 10 ^ t) := ⟨_, _, _, rfl, good_set hG5 bx4.c1 _, hO5, hv5⟩
    have hO6 := hO4.set bx4.c1 (.slice A5 l5.length c5)
    have d0 := bx5.c0
    have d1 := bx5.c1
    have d2 := br5.c0
    have d3 := br5.c1
    have d4 := br5.f 0
    have d5 := br5.f 1
    clear hv5 hG5 hO5
    go_wp2_with fail
    have hf := fun a b => (br5.set0 a).set1 b
    have hs : w.heap.size ≤ w.heap.size + 1 := Nat.le_succ _
    refine bodyPost_ret (v := .agg #[.slice A3 l3.length c3, .slice A5 l5.length c5]) (results_cell_row Tryz.results20 _ _ (w.heap.size + 1) 52 _ (0, 0) _ rfl (hf _ _).b Tryz.underlying52 rfl (by kernel_rfl)) rfl ?_
    exact ⟨_, _, rfl, (hO6.set d2 _).set (br5.set0 _).c1 _, (hA5.set d2 _).set (br5.set0 _).c1 _, (hbE.setCell hs _).setCell hs _⟩
set_option maxHeartbeats 8000000 in
set_option maxRecDepth 100000 in
theorem times_np (Va Vb : Value) (a b n t : Nat) (w : World) (hA : NatA w Va a) (hB : NatA w Vb b) (hn : n ≤ 60000) (ht : t ≤ 2000) (hl1 : (limbs (a)).length ≤ 3000) (hl2 : (limbs (b * 2 ^ n)).length ≤ 3000) (hl3 : (limbs b).length ≤ 3000) (hs2 : b = 0 ∨ bl b + n ≤ 131072) (hnp : 0 < n) :
    Calls Tryz.prog 20 #[.agg #[Va, Vb], .int .i64 (-(n : Int)), .int .i64 ((t : Int))] w fun e w' => ∃ Va' Vb', e = .returned (.agg #[Va', Vb']) ∧ NatA w' Va' (a * 10 ^ t) ∧ NatA w' Vb' (b * 2 ^ n) ∧ Below w.heap.size w w' := by
  obtain ⟨A1, l1, c1, rfl, hG1, hO1, hv1⟩ := hA
  obtain ⟨A2, l2, c2, rfl, hG2, hO2, hv2⟩ := hB
  have hn0 : -(n : Int) < 0 := by omega
  have hn1 : 0 < (n : Int) := by omega
  have hnw : IntKind.i64.wrap (n : Int) = (n : Int) := by rw [IntKind.wrap_i64]; omega
  have ht0 : ¬ (t : Int) < 0 := by omega
  have hb0 := below_alloc w (.cells #[.slice A1 l1.length c1, .slice A2 l2.length c2] 52)
  have hbA := hb0.alloc hb0.size (.cells #[.slice none 0 0, .slice none 0 0] 52)
  have bx0 := (br_new w (.slice A1 l1.length c1) (.slice A2 l2.length c2)).alloc (.cells #[.slice none 0 0, .slice none 0 0] 52)
  have br0 := br_new2 w (.cells #[.slice A1 l1.length c1, .slice A2 l2.length c2] 52) (.slice none 0 0) (.slice none 0 0)
  have hA0 : NatA w (.slice A1 l1.length c1) a := ⟨_, _, _, rfl, hG1, hO1, hv1⟩
  have hB0 : NatA w (.slice A2 l2.length c2) b := ⟨_, _, _, rfl, hG2, hO2, hv2⟩
  have k1 := fun W (hb : Below w.heap.size w W) => shl_a n (hB0.below hb) hs2 (by omega)
  have k2 := fun W => ten_calls t W ht
  have ht2 := limbs_ten ht
  have hl4 := limbs_mul (a) (10 ^ t)
  have KK : ∀ W, Below w.heap.size w W → Calls Tryz.prog 52 #[.slice A2 l2.length c2, .int .i64 (n : Int)] W fun e w1 => ∃ A3 l3 c3, e = .returned (.tuple #[.slice A3 (l3 : List Nat).length c3, .int .i64 0]) ∧ Good w1 (A3, l3, c3) ∧ Ok l3 ∧ nv l3 = b * 2 ^ n ∧ Below W.heap.size W w1 := fun W hb => (k1 W hb).mono (fun e w1 h => by
    obtain ⟨v1, rfl, hv3, hb1⟩ := h
    obtain ⟨A3, l3, c3, rfl, hG3, hO3, hv3⟩ := hv3.a (by omega)
    exact ⟨A3, l3, c3, rfl, hG3, hO3, hv3, hb1⟩)
  clear k1
  go_enter Tryz.func20, Tryz.ntmps20
  go_wp2_with (first | (go_at_call 52; (with_reducible refine (KK _ hbA).mono ?_); clear KK; rintro e1 w1 ⟨A3, l3, c3, rfl, hG3, hO3, hv3, hb1⟩; have bx1 := bx0.below hb1; have br1 := br0.below hb1; have q0 := bx1.c0; have q1 := bx1.c1; have qf0 := bx1.f 0; have qf1 := bx1.f 1))
  clear q0 q1 qf0 qf1 bx0 br0
  have hbB := (below_step hbA hb1).setCell (p := ⟨w.heap.size, 1, none⟩) (Nat.le_refl _) (.slice A3 l3.length c3)
  have bx2 := bx1.set1 (.slice A3 l3.length c3)
  have br2 := br1.far (p := ⟨w.heap.size, 1, none⟩) (by simp) (.slice A3 l3.length c3)
  have q0 := bx2.c0
  have q1 := bx2.c1
  have hN3 : NatA (w1.setCell ⟨w.heap.size, 1, none⟩ (.slice A3 l3.length c3)) (.slice A3 l3.length c3) (b * 2 ^ n) := ⟨_, _, _, rfl, good_set hG3 bx1.c1 _, hO3, hv3⟩
  have hN1 := hA0.below hbB
  generalize w1.setCell ⟨w.heap.size, 1, none⟩ (.slice A3 l3.length c3) = W at *
  have bx2d := bx2.drew
  have br2d := br2.drew
  have hbBd := hbB.drew
  have hMd := hN1.drew
  have hOd := hN3.drew
  go_region_law (first
     | (go_simp; go_at_call 54; (with_reducible refine (k2 _).mono ?_); rintro e2 w2 ⟨v2, rfl, hv4, hb2⟩; (first | have bx3 := bx2.below hb2 | have bx3 := bx2d.below hb2); have q2 := bx3.c0; (first | have br3 := br2.below hb2 | have br3 := br2d.below hb2); (first | have hbC := below_step hbB hb2 | have hbC := below_step hbBd hb2); (first | have hO3 := hN3.below hb2 | have hO3 := hOd.below hb2); (first | have k3 := mul_a (hN1.below hb2) hv4 (by omega) | have k3 := mul_a (hMd.below hb2) hv4 (by omega)))
     | (go_simp; go_at_call 53; (with_reducible refine k3.mono ?_); clear k3; rintro e3 w3 ⟨v3, rfl, hv5, hb3⟩; obtain ⟨A5, l5, c5, rfl, hG5, hO5, hv5⟩ := hv5.a (by omega); have bx4 := bx3.below hb3; have q5 := bx4.c0; have qf5 := bx4.f 0; have br4 := br3.below hb3; have hbD := below_step hbC hb3; have hO4 := hO3.below hb3))
  all_goals
    have bx5 := bx4.set0 (.slice A5 l5.length c5)
    have br5 := br4.far (p := ⟨w.heap.size, 0, none⟩) (by simp) (.slice A5 l5.length c5)
    have hbE := hbD.setCell (p := ⟨w.heap.size, 0, none⟩) (Nat.le_refl _) (.slice A5 l5.length c5)
    have hA5 : NatA (w3.setCell ⟨w.heap.size, 0, none⟩ (.slice A5 l5.length c5)) (.slice A5 l5.length c5) (a * 10 ^ t) := ⟨_, _, _, rfl, good_set hG5 bx4.c0 _, hO5, hv5⟩
    have hO6 := hO4.set bx4.c0 (.slice A5 l5.length c5)
    have d0 := bx5.c0
    have d1 := bx5.c1
    have d2 := br5.c0
    have d3 := br5.c1
    have d4 := br5.f 0
    have d5 := br5.f 1
    clear hv5 hG5 hO5
    go_wp2_with fail
    have hf := fun a b => (br5.set0 a).set1 b
    have hs : w.heap.size ≤ w.heap.size + 1 := Nat.le_succ _
    refine bodyPost_ret (v := .agg #[.slice A5 l5.length c5, .slice A3 l3.length c3]) (results_cell_row Tryz.results20 _ _ (w.heap.size + 1) 52 _ (0, 0) _ rfl (hf _ _).b Tryz.underlying52 rfl (by kernel_rfl)) rfl ?_
    exact ⟨_, _, rfl, (hA5.set d2 _).set (br5.set0 _).c1 _, (hO6.set d2 _).set (br5.set0 _).c1 _, (hbE.setCell hs _).setCell hs _⟩
set_option maxHeartbeats 8000000 in
set_option maxRecDepth 100000 in
theorem times_nn (Va Vb : Value) (a b n t : Nat) (w : World) (hA : NatA w Va a) (hB : NatA w Vb b) (hn : n ≤ 60000) (ht : t ≤ 2000) (hl1 : (limbs (a)).length ≤ 3000) (hl2 : (limbs (b * 2 ^ n)).length ≤ 3000) (hl3 : (limbs b).length ≤ 3000) (hs2 : b = 0 ∨ bl b + n ≤ 131072) (hnp : 0 < n) (htp : 0 < t) :
    Calls Tryz.prog 20 #[.agg #[Va, Vb], .int .i64 (-(n : Int)), .int .i64 (-(t : Int))] w fun e w' => ∃ Va' Vb', e = .returned (.agg #[Va', Vb']) ∧ NatA w' Va' (a) ∧ NatA w' Vb' (b * 2 ^ n * 10 ^ t) ∧ Below w.heap.size w w' := by
  obtain ⟨A1, l1, c1, rfl, hG1, hO1, hv1⟩ := hA
  obtain ⟨A2, l2, c2, rfl, hG2, hO2, hv2⟩ := hB
  have hn0 : -(n : Int) < 0 := by omega
  have hn1 : 0 < (n : Int) := by omega
  have hnw : IntKind.i64.wrap (n : Int) = (n : Int) := by rw [IntKind.wrap_i64]; omega
  have ht0 : -(t : Int) < 0 := by omega
  have ht1 : 0 < (t : Int) := by omega
  have htw : IntKind.i64.wrap (t : Int) = (t : Int) := by rw [IntKind.wrap_i64]; omega
  have hb0 := below_alloc w (.cells #[.slice A1 l1.length c1, .slice A2 l2.length c2] 52)
  have hbA := hb0.alloc hb0.size (.cells #[.slice none 0 0, .slice none 0 0] 52)
  have bx0 := (br_new w (.slice A1 l1.length c1) (.slice A2 l2.length c2)).alloc (.cells #[.slice none 0 0, .slice none 0 0] 52)
  have br0 := br_new2 w (.cells #[.slice A1 l1.length c1, .slice A2 l2.length c2] 52) (.slice none 0 0) (.slice none 0 0)
  have hA0 : NatA w (.slice A1 l1.length c1) a := ⟨_, _, _, rfl, hG1, hO1, hv1⟩
  have hB0 : NatA w (.slice A2 l2.length c2) b := ⟨_, _, _, rfl, hG2, hO2, hv2⟩
  have k1 := fun W (hb : Below w.heap.size w W) => shl_a n (hB0.below hb) hs2 (by omega)
  have k2 := fun W => ten_calls t W ht
  have ht2 := limbs_ten ht
  have hl4 := limbs_mul (b * 2 ^ n) (10 ^ t)
  have KK : ∀ W, Below w.heap.size w W → Calls Tryz.prog 52 #[.slice A2 l2.length c2, .int .i64 (n : Int)] W fun e w1 => ∃ A3 l3 c3, e = .returned (.tuple #[.slice A3 (l3 : List Nat).length c3, .int .i64 0]) ∧ Good w1 (A3, l3, c3) ∧ Ok l3 ∧ nv l3 = b * 2 ^ n ∧ Below W.heap.size W w1 := fun W hb => (k1 W hb).mono (fun e w1 h => by
    obtain ⟨v1, rfl, hv3, hb1⟩ := h
    obtain ⟨A3, l3, c3, rfl, hG3, hO3, hv3⟩ := hv3.a (by omega)
    exact ⟨A3, l3, c3, rfl, hG3, hO3, hv3, hb1⟩)
  clear k1
  go_enter Tryz.func20, Tryz.ntmps20
  go_wp2_with (first | (go_at_call 52; (with_reducible refine (KK _ hbA).mono ?_); clear KK; rintro e1 w1 ⟨A3, l3, c3, rfl, hG3, hO3, hv3, hb1⟩; have bx1 := bx0.below hb1; have br1 := br0.below hb1; have q0 := bx1.c0; have q1 := bx1.c1; have qf0 := bx1.f 0; have qf1 := bx1.f 1))
  clear q0 q1 qf0 qf1 bx0 br0
  have hbB := (below_step hbA hb1).setCell (p := ⟨w.heap.size, 1, none⟩) (Nat.le_refl _) (.slice A3 l3.length c3)
  have bx2 := bx1.set1 (.slice A3 l3.length c3)
  have br2 := br1.far (p := ⟨w.heap.size, 1, none⟩) (by simp) (.slice A3 l3.length c3)
  have q0 := bx2.c0
  have q1 := bx2.c1
  have hN3 : NatA (w1.setCell ⟨w.heap.size, 1, none⟩ (.slice A3 l3.length c3)) (.slice A3 l3.length c3) (b * 2 ^ n) := ⟨_, _, _, rfl, good_set hG3 bx1.c1 _, hO3, hv3⟩
  have hN1 := hA0.below hbB
  generalize w1.setCell ⟨w.heap.size, 1, none⟩ (.slice A3 l3.length c3) = W at *
  have bx2d := bx2.drew
  have br2d := br2.drew
  have hbBd := hbB.drew
  have hMd := hN3.drew
  have hOd := hN1.drew
  go_region_law (first
     | (go_simp; go_at_call 54; (with_reducible refine (k2 _).mono ?_); rintro e2 w2 ⟨v2, rfl, hv4, hb2⟩; (first | have bx3 := bx2.below hb2 | have bx3 := bx2d.below hb2); have q2 := bx3.c1; (first | have br3 := br2.below hb2 | have br3 := br2d.below hb2); (first | have hbC := below_step hbB hb2 | have hbC := below_step hbBd hb2); (first | have hO3 := hN1.below hb2 | have hO3 := hOd.below hb2); (first | have k3 := mul_a (hN3.below hb2) hv4 (by omega) | have k3 := mul_a (hMd.below hb2) hv4 (by omega)))
     | (go_simp; go_at_call 53; (with_reducible refine k3.mono ?_); clear k3; rintro e3 w3 ⟨v3, rfl, hv5, hb3⟩; obtain ⟨A5, l5, c5, rfl, hG5, hO5, hv5⟩ := hv5.a (by omega); have bx4 := bx3.below hb3; have q5 := bx4.c1; have qf5 := bx4.f 1; have br4 := br3.below hb3; have hbD := below_step hbC hb3; have hO4 := hO3.below hb3))
  all_goals
    have bx5 := bx4.set1 (.slice A5 l5.length c5)
    have br5 := br4.far (p := ⟨w.heap.size, 1, none⟩) (by simp) (.slice A5 l5.length c5)
    have hbE := hbD.setCell (p := ⟨w.heap.size, 1, none⟩) (Nat.le_refl _) (.slice A5 l5.length c5)
    have hA5 : NatA (w3.setCell ⟨w.heap.size, 1, none⟩ (.slice A5 l5.length c5)) (.slice A5 l5.length c5) (b * 2 ^ n * 10 ^ t) := ⟨_, _, _, rfl, good_set hG5 bx4.c1 _, hO5, hv5⟩
    have hO6 := hO4.set bx4.c1 (.slice A5 l5.length c5)
    have d0 := bx5.c0
    have d1 := bx5.c1
    have d2 := br5.c0
    have d3 := br5.c1
    have d4 := br5.f 0
    have d5 := br5.f 1
    clear hv5 hG5 hO5
    go_wp2_with fail
    have hf := fun a b => (br5.set0 a).set1 b
    have hs : w.heap.size ≤ w.heap.size + 1 := Nat.le_succ _
    refine bodyPost_ret (v := .agg #[.slice A1 l1.length c1, .slice A5 l5.length c5]) (results_cell_row Tryz.results20 _ _ (w.heap.size + 1) 52 _ (0, 0) _ rfl (hf _ _).b Tryz.underlying52 rfl (by kernel_rfl)) rfl ?_
    exact ⟨_, _, rfl, (hO6.set d2 _).set (br5.set0 _).c1 _, (hA5.set d2 _).set (br5.set0 _).c1 _, (hbE.setCell hs _).setCell hs _⟩
end Go.Proofs.YtffncomekbfihaaGreatDoor.Nat
