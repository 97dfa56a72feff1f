/- value.each once more: each value with its path; the contract by the law of Hand15. -/
import Derived.Test.YtfcfnnkepjoncaaHand20
namespace Go.Proofs.Ytfcfnnkepjoncaa.Hand
open Go.RowKit Go.Shelf Go.Proofs.YtfcfnnkepjoncaaW.PrintWords Go.Proofs.YtfcfnnkepjoncaaW.PrintLast Go.Proofs.YtfcfnnkepjoncaaW.PrintMore Go.Proofs.Ytfcfnnkepjoncaa.PC
attribute [local go_sem] Oper.semAt_some
set_option linter.unusedVariables false
set_option linter.unusedSimpArgs false

mutual
/-- a tree's values, each ahead of those within it, with its path -/
def preP : S44 → List Int → List (S44 × List Int)
  | ⟨a, b, c, d, l⟩, ps => (⟨a, b, c, d, l⟩, ps) :: prePL l ps 0
def prePL : List S44 → List Int → Nat → List (S44 × List Int)
  | [], _, _ => []
  | t :: ts, ps, i => preP t (ps ++ [(i : Int)]) ++ prePL ts ps (i + 1)
end
mutual
theorem preP_fst : ∀ (t : S44) (ps : List Int), (preP t ps).map (·.1) = preT t
  | ⟨a, b, c, d, l⟩, ps => by rw [preP, preT, List.map_cons, prePL_fst]
theorem prePL_fst : ∀ (l : List S44) (ps : List Int) (i : Nat), (prePL l ps i).map (·.1) = preL l
  | [], _, _ => by rw [prePL, preL]; rfl
  | t :: ts, ps, i => by rw [prePL, preL, List.map_append, preP_fst, prePL_fst]
end
mutual
theorem preS_path : ∀ (t : S44) (ps : List Int) (k : Bool), (preS t ps k).map (fun d => (d.1, d.2.1)) = preP t ps
  | ⟨a, b, c, d, l⟩, ps, k => by rw [preS, preP, List.map_cons, preSL_path]
theorem preSL_path : ∀ (m : Bool) (l : List S44) (ps : List Int) (i : Nat), (preSL m l ps i).map (fun d => (d.1, d.2.1)) = prePL l ps i
  | _, [], _, _ => by rw [preSL, prePL]; rfl
  | m, t :: ts, ps, i => by rw [preSL, prePL, List.map_append, preS_path, preSL_path]
end
theorem preP_eq (x : S44) (ps : List Int) : preP x ps = (x, ps) :: prePL x.f4 ps 0 := by obtain ⟨a, b, c, d, l⟩ := x; rw [preP]
theorem prePL_drop {l : List S44} {j : Nat} {t : S44} {ps : List Int} (hj : j < l.length) (ht : rd_T44 l (j : Int) = t) : prePL (l.drop j) ps j = preP t (ps ++ [(j : Int)]) ++ prePL (l.drop (j + 1)) ps (j + 1) := by
  rw [List.drop_eq_getElem_cons hj, prePL]
  have : l[j] = t := by rw [← ht]; unfold rd_T44; simp [List.getD_eq_getElem?_getD, List.getElem?_eq_getElem hj]
  rw [this]
theorem preq_next {x t : S44} {j : Nat} {q q2 : List (S44 × List Int)} {ps : List Int} (hj : j < x.f4.length) (ht : rd_T44 x.f4 (j : Int) = t) (h : q ++ prePL (x.f4.drop j) ps j = preP x ps) (h2 : q2 = preP t (ps ++ [(j : Int)])) : (q ++ q2) ++ prePL (x.f4.drop (j + 1)) ps (j + 1) = preP x ps := by
  rw [prePL_drop hj ht] at h; rw [h2, List.append_assoc]; exact h
theorem preq_part {x t : S44} {j : Nat} {q q2 : List (S44 × List Int)} {ps : List Int} (hj : j < x.f4.length) (ht : rd_T44 x.f4 (j : Int) = t) (h : q ++ prePL (x.f4.drop j) ps j = preP x ps) (h2 : q2 <+: preP t (ps ++ [(j : Int)])) : (q ++ q2) <+: preP x ps := by
  rw [prePL_drop hj ht] at h
  obtain ⟨r, hr⟩ := h2
  exact ⟨r ++ prePL (x.f4.drop (j + 1)) ps (j + 1), by rw [← h, ← hr]; simp [List.append_assoc]⟩
theorem preq_len {x t : S44} {j : Nat} {q : List (S44 × List Int)} {ps : List Int} (hj : j < x.f4.length) (ht : rd_T44 x.f4 (j : Int) = t) (h : q ++ prePL (x.f4.drop j) ps j = preP x ps) : q.length + (preT t).length ≤ (preT x).length := by
  have h2 := congrArg (List.map (·.1)) h
  rw [List.map_append, prePL_fst, preP_fst] at h2
  have := pre_len hj ht h2
  rwa [List.length_map] at this
theorem preq_end {x : S44} {q : List (S44 × List Int)} {ps : List Int} (h : q ++ prePL (x.f4.drop x.f4.length) ps x.f4.length = preP x ps) : q = preP x ps := by simpa [prePL] using h
/-- what a round gets: a path, a value that is a tree of w, the path's numbers -/
abbrev Np (w : World) := { x : Value × Value × S44 × List Int // NodeAt w x.2.2.1 x.2.1 }
def encP {w : World} (x : Np w) : Array Value := #[x.1.1, x.1.2.1]
def Np.desc {w : World} (x : Np w) : S44 × List Int := (x.1.2.2.1, x.1.2.2.2)
def Np.reads {w : World} (B : Nat) (x : Np w) (W : World) : Prop := W.ownsRow B 3 1 x.1.1 x.1.2.2.2.length (x.1.2.2.2.map (Value.int .i64))
/-- what a round keeps: all below n₀, and all cells from B on but rows of paths -/
def KpM (n₀ B : Nat) (W W' : World) : Prop := Below n₀ W W' ∧ ∀ (b : Nat) (cs : Array Value) (t : TypeId) (fr : Nat × Nat), B ≤ b → W.heap[b]? = some (.cells cs t fr) → t ≠ 49 → W'.heap[b]? = some (.cells cs t fr)
theorem KpM.trans {n B : Nat} {x y z : World} (h : KpM n B x y) (k : KpM n B y z) : KpM n B x z := ⟨h.1.trans k.1, fun b cs t fr hb hc ht => k.2 b cs t fr hb (h.2 b cs t fr hb hc ht) ht⟩
theorem KpM.of_grown {n B : Nat} {x y : World} (h : x.grownBy y none) (hn : n ≤ x.heap.size) : KpM n B x y :=
  ⟨(Below.refl n x).grown h hn (fun k e => by cases e), fun b cs t fr hb hc _ => blk_grown hc h (by simp)⟩
theorem KpM.putObj {n B : Nat} {w1 W : World} {l : Nat} {o : Obj} (o' : Obj) (hn : n ≤ w1.heap.size) (hn2 : w1.heap.size ≤ l) (hl : W.heap[l]? = some o) (ho : o.isCells = false) (hw : o.isWalk = false) : KpM n B W (W.putObj l o') :=
  ⟨belowK_b hn W l o o' hn2 hl ho hw, fun b cs t fr hb hc _ => by
    have hne : b ≠ l := by rintro rfl; rw [hl] at hc; cases hc; cases ho
    rw [World.putObj_heap_other hne]; exact hc⟩

set_option maxRecDepth 100000 in
set_option maxHeartbeats 16000000 in
theorem downp_in (w0 : World) (l B N By Bd : Nat) (hNb : N ≤ 1099511627776) (J Jx : List (Np w0) → World → Prop)
    (hB0 : w0.heap.size ≤ B) (hJG : ∀ (s : List (Np w0)) (A A' : World), J s A → A.grownBy A' none → J s A')
    (hY : ∀ m pre x W, J pre W → Np.reads B x W → pre.length < N → YieldAt Fence.wide m Try.prog l (encP x) W fun e W' =>
      (e = .returned (.bool true) ∧ J (pre ++ [x]) W' ∧ KpM w0.heap.size B W W') ∨ (e = .returned (.bool false) ∧ Jx (pre ++ [x]) W')) (k : Nat) :
    ∀ (x : S44) (n : Nat) (p v : Value) (qs : List Int) (ps : List Value) (pre : List (Np w0)) (W : World), ps = qs.map (Value.int .i64) → (preT x).length ≤ k → NodeAt w0 x v → Below w0.heap.size w0 W → J pre W → pre.length + (preT x).length ≤ N →
      ps.length ≤ pre.length → W.ownsRow B 3 1 p ps.length ps →
      W.heap[By]? = some (.cells #[.func (.yield l) #[] #[]] 82 (0, 0)) → W.heap[Bd]? = some (.cells #[.func (.func 50) #[] #[.pointer (some ⟨By, 0, none⟩), .pointer (some ⟨Bd, 0, none⟩)]] 82 (0, 0)) →
      B ≤ By → B ≤ Bd →
      CallsIn Fence.wide n Try.prog 50 #[p, v, .pointer (some ⟨By, 0, none⟩), .pointer (some ⟨Bd, 0, none⟩)] W fun e W' =>
        (e = .returned (.bool true) ∧ (∃ q : List (Np w0), q.map Np.desc = preP x qs ∧ J (pre ++ q) W') ∧ KpM w0.heap.size B W W') ∨ (e = .returned (.bool false) ∧ ∃ q : List (Np w0), q.map Np.desc <+: preP x qs ∧ Jx (pre ++ q) W') := by
  induction k with
  | zero => intro x n p v qs ps pre W hps hk; obtain ⟨a, b, c, d, l⟩ := x; simp [preT] at hk
  | succ k ih =>
  intro x n p v qs ps pre W hps hk hn hB hJ hN hpl hp hy hdn gy gd
  have hdd : ∀ k : Nat, (Fence.wide.depth.isSome = true → 1 ≤ k) := fun k h => by cases h
  obtain ⟨A, c, rfl, hc, hC⟩ := id hn
  obtain ⟨Ap, cp, rfl, hpr⟩ : ∃ Ap cp, p = .slice Ap ps.length cp ∧ ((Ap = none ∧ ps = [] ∧ cp = 0) ∨ ∃ g, Ap = some ⟨g, 0, none⟩ ∧ B ≤ g ∧ ps.length ≤ cp ∧ ∃ cs, W.heap[g]? = some (.cells cs 3 (0, 0)) ∧ cs.toList.take ps.length = ps) := path_open hp
  unfold VE at hn ⊢
  have cy : W.cell? ⟨By, 0, none⟩ = some (.func (.yield l) #[] #[]) := by simp [World.cell?, hy]
  have cd : W.cell? ⟨Bd, 0, none⟩ = some (.func (.func 50) #[] #[.pointer (some ⟨By, 0, none⟩), .pointer (some ⟨Bd, 0, none⟩)]) := by simp [World.cell?, hdn]
  refine callsIn_of_wp Try.func50 rfl trivial ?_ rfl
  simp only [Try.ntmps50, List.size_toArray, List.length_cons, List.length_nil, Nat.reduceAdd, Nat.reduceSub, Array.replicate_succ, Array.replicate_zero, List.push_toArray, List.append_toArray, List.nil_append, List.cons_append]
  have hlt := blk_lt hy
  have cy2 : ∀ o, (W.alloc o).cell? ⟨By, 0, none⟩ = some (.func (.yield l) #[] #[]) := fun o => by rw [Below.cell ((Below.refl W.heap.size W).alloc (Nat.le_refl _) o) (p := ⟨By, 0, none⟩) hlt]; exact cy
  have hge : B ≤ W.heap.size := by omega
  obtain ⟨bx, hbx⟩ : ∃ bx : Obj, bx = .cells #[.int .i64 x.f0, .bool x.f1, .int .u64 x.f2, .string x.f3, .slice A x.f4.length c] 44 (0, 0) := ⟨_, rfl⟩
  obtain ⟨xe, hxe, hxs, hxr⟩ : ∃ xe : Np w0, encP xe = #[.slice Ap ps.length cp, .agg #[.int .i64 x.f0, .bool x.f1, .int .u64 x.f2, .string x.f3, .slice A x.f4.length c]] ∧ Np.desc xe = (x, qs) ∧ ∀ W' : World, W'.ownsRow B 3 1 (.slice Ap ps.length cp) ps.length ps → Np.reads B xe W' := ⟨⟨(.slice Ap ps.length cp, VE x A c, x, qs), hn⟩, rfl, rfl, fun W' h => by
    have hl : qs.length = ps.length := by rw [hps, List.length_map]
    show W'.ownsRow B 3 1 (.slice Ap ps.length cp) qs.length (qs.map (Value.int .i64))
    rw [hl, ← hps]; exact h⟩
  obtain ⟨fn, tmps, assign, body, hyy, hR0⟩ := hY (n - 1) pre xe _ (hJG _ _ _ hJ (World.grownBy_alloc W bx none)) (hxr _ (own_moved hp (fun g cs hg hh => blk_alloc hh _))) (by obtain ⟨a, b, c, d, l⟩ := x; simp [preT] at hN; omega)
  have hR := hR0.mono (R' := fun e W2 => (e = .returned (.bool true) ∧ J (pre ++ [xe]) W2 ∧ KpM w0.heap.size B (W.alloc bx) W2 ∧ W2.heap[W.heap.size]? = some bx ∧ W2.cell? ⟨W.heap.size, 4, none⟩ = some (.slice A x.f4.length c)) ∨ (e = .returned (.bool false) ∧ Jx (pre ++ [xe]) W2))
    (fun e W2 h => h.elim (fun ⟨he, hj, hk⟩ => .inl (by subst hbx; have hb := hk.2 _ _ _ _ hge (heap_alloc_new W _) (by decide); exact ⟨he, hj, hk, hb, (blk_cell hb 4).trans rfl⟩)) .inr)
  clear hR0
  have HPS : Hid _ := Lib.hid hps
  clear hps hxr
  rw [hxe] at hyy
  subst hbx
  gi_wp2_with (first | ((try refine ⟨hdd _, ?_⟩); refine hR.mono ?_; clear hR; rintro e W2 (⟨rfl, hJ2, hk2, hbx2, cx2⟩ | ⟨rfl, hx2⟩)))
  · -- the loop over what is within
    have hk0 : KpM w0.heap.size B W W2 := (KpM.of_grown (World.grownBy_alloc W _ none) hB.size).trans hk2
    gi_loopg [17] x.f4.length (fun kq v17 wr => ∃ (j : Nat) (q : List (Np w0)), v17 = .int .i64 j ∧ j + kq = x.f4.length ∧ q.map Np.desc ++ prePL (x.f4.drop j) qs j = preP x qs ∧ 1 ≤ q.length ∧ J (pre ++ q) wr ∧ KpM w0.heap.size B W wr)
    case atStart => exact ⟨0, [xe], rfl, by omega, by rw [preP_eq, List.map_cons, List.map_nil, hxs]; rfl, by simp, hJ2, hk0⟩
    case round =>
      clear hJ2 hk2 hbx2 cx2 hk0
      obtain ⟨j, q, rfl, hj, hq, hq1, hJq, hkq⟩ := hrel
      cases gk with
      | zero =>
        obtain rfl : j = x.f4.length := by omega
        gi_wp2
        exact bodyPost_ret (results_tmp Try.results50 _ _ _) rfl (.inl ⟨rfl, ⟨q, preq_end hq, hJq⟩, hkq⟩)
      | succ d =>
        have hlt : (j : Int) < (x.f4.length : Int) := by omega
        have hy' : wr.cell? ⟨By, 0, none⟩ = some (.func (.yield l) #[] #[]) := (blk_cell (hkq.2 _ _ _ _ gy hy (by decide)) 0).trans rfl
        have hd' : wr.cell? ⟨Bd, 0, none⟩ = some (.func (.func 50) #[] #[.pointer (some ⟨By, 0, none⟩), .pointer (some ⟨Bd, 0, none⟩)]) := (blk_cell (hkq.2 _ _ _ _ gd hdn (by decide)) 0).trans rfl
        have hBq := hB.trans hkq.1
        obtain ⟨ad, A4, c4, rfl, z0, z1, z2, z3, z4, hl4, hC4⟩ := at_T44 hC (j : Int) (by omega) hlt
        obtain ⟨t, ht⟩ : ∃ t, rd_T44 x.f4 (j : Int) = t := ⟨_, rfl⟩
        rw [ht] at z0 z1 z2 z3 z4 hl4 hC4
        simp only [Int.toNat_natCast] at z0 z1 z2 z3 z4
        have e0 := (hBq.cell (World.block_lt_of_cell? _ _ z0)).trans z0
        have e1 := (hBq.cell (World.block_lt_of_cell? _ _ z1)).trans z1
        have e2 := (hBq.cell (World.block_lt_of_cell? _ _ z2)).trans z2
        have e3 := (hBq.cell (World.block_lt_of_cell? _ _ z3)).trans z3
        have e4 := (hBq.cell (World.block_lt_of_cell? _ _ z4)).trans z4
        clear z0 z1 z2 z3 z4
        have hjn : j < x.f4.length := by omega
        have hlen := preq_len hjn ht hq
        have hql : (q.map Np.desc).length = q.length := List.length_map ..
        have hNt : NodeAt w0 t (.agg #[.int .i64 t.f0, .bool t.f1, .int .u64 t.f2, .string t.f3, .slice A4 t.f4.length c4]) := ⟨A4, c4, rfl, hl4, hC4⟩
        have hkt : (preT t).length ≤ k := by rw [hql] at hlen; omega
        have hbig : x.f4.length < 9223372036854775807 := by have h_ := len_preL x.f4; rw [preT_eq, List.length_cons] at hN; omega
        have hb1 : (ps.length + 1) * 8 ≤ 140737488355328 := by omega
        have hb2 : ps.length + 1 ≤ maxLen := by simp only [maxLen]; omega
        have hcall : ∀ (v1 : Value) (w1 : World), w1.ownsRow (((wr.alloc (.cells #[.int .i64 t.f0, .bool t.f1, .int .u64 t.f2, .string t.f3, .slice A4 t.f4.length c4] 44)).alloc (.cells #[.int .i64 j] 3))).drew.heap.size 3 1 v1 (ps.length + 1) (ps ++ [.int .i64 j]) → (((wr.alloc (.cells #[.int .i64 t.f0, .bool t.f1, .int .u64 t.f2, .string t.f3, .slice A4 t.f4.length c4] 44)).alloc (.cells #[.int .i64 j] 3))).drew.grownBy w1 none → Calls Try.prog 50 #[v1, .agg #[.int .i64 t.f0, .bool t.f1, .int .u64 t.f2, .string t.f3, .slice A4 t.f4.length c4], .pointer (some ⟨By, 0, none⟩), .pointer (some ⟨Bd, 0, none⟩)] w1 fun e W3 => ∃ b, e = .returned (.bool b) ∧ (b = true → ∃ q2 : List (Np w0), q2.map Np.desc = preP t (qs ++ [(j : Int)]) ∧ J (pre ++ (q ++ q2)) W3 ∧ KpM w0.heap.size B W W3) ∧ (b = false → ∃ q2 : List (Np w0), q2.map Np.desc <+: preP t (qs ++ [(j : Int)]) ∧ Jx (pre ++ (q ++ q2)) W3) := by
          intro v1 w1 hown hg
          have hg0 : wr.grownBy w1 none := World.grownBy.trans (World.grownBy.trans (World.grownBy_alloc wr _ none) (World.grownBy_alloc _ _ none)) (undrew hg)
          have hk1 : KpM w0.heap.size B wr w1 := KpM.of_grown hg0 hBq.size
          have hW1 := hkq.trans hk1
          refine (callsIn_wide.1 (ih t 0 v1 _ (qs ++ [(j : Int)]) (ps ++ [.int .i64 j]) (pre ++ q) w1 (by rw [List.map_append, ← HPS.out]; rfl) hkt hNt (hB.trans hW1.1) (hJG _ _ _ hJq hg0) (by rw [List.length_append]; rw [hql] at hlen; omega) (by simp only [List.length_append, List.length_cons, List.length_nil]; omega) (by rw [List.length_append, List.length_cons, List.length_nil]; exact own_weaken hown (by show B ≤ (((wr.alloc (.cells #[.int .i64 t.f0, .bool t.f1, .int .u64 t.f2, .string t.f3, .slice A4 t.f4.length c4] 44)).alloc (.cells #[.int .i64 j] 3))).heap.size; simp only [World.size_alloc]; have := hkq.1.size; have := blk_lt (hkq.2 _ _ _ _ gd hdn (by decide)); omega)) (hW1.2 _ _ _ _ gy hy (by decide)) (hW1.2 _ _ _ _ gd hdn (by decide)) gy gd)).mono ?_
          rintro e W3 (⟨rfl, ⟨q3, h3, hJ3⟩, hk3⟩ | ⟨rfl, q3, h3, hx3⟩)
          · exact ⟨true, rfl, fun _ => ⟨q3, h3, by rw [← List.append_assoc]; exact hJ3, hW1.trans hk3⟩, (fun h => (by cases h))⟩
          · exact ⟨false, rfl, (fun h => (by cases h)), fun _ => ⟨q3, h3, by rw [← List.append_assoc]; exact hx3⟩⟩
        gi_upto_region 6 with (fail)
        have hBd := blk_lt (hkq.2 _ _ _ _ gd hdn (by decide))
        have hnw : ∀ o, ((wr.alloc (.cells #[.int .i64 t.f0, .bool t.f1, .int .u64 t.f2, .string t.f3, .slice A4 t.f4.length c4] 44)).alloc o).heap[wr.heap.size + 1]? = some o := fun o => by have h_ := heap_alloc_new (wr.alloc (.cells #[.int .i64 t.f0, .bool t.f1, .int .u64 t.f2, .string t.f3, .slice A4 t.f4.length c4] 44)) o; rwa [World.size_alloc] at h_
        have hall : ∀ w' : World, w'.heap[Bd]? = some (.cells #[.func (.func 50) #[] #[.pointer (some ⟨By, 0, none⟩), .pointer (some ⟨Bd, 0, none⟩)]] 82 (0, 0)) → w'.heap[wr.heap.size]? = some (.cells #[.int .i64 t.f0, .bool t.f1, .int .u64 t.f2, .string t.f3, .slice A4 t.f4.length c4] 44) → w'.cell? ⟨Bd, 0, none⟩ = some (.func (.func 50) #[] #[.pointer (some ⟨By, 0, none⟩), .pointer (some ⟨Bd, 0, none⟩)]) ∧ w'.cell? ⟨wr.heap.size, 0, none⟩ = some (.int .i64 t.f0) ∧ w'.cell? ⟨wr.heap.size, 1, none⟩ = some (.bool t.f1) ∧ w'.cell? ⟨wr.heap.size, 2, none⟩ = some (.int .u64 t.f2) ∧ w'.cell? ⟨wr.heap.size, 3, none⟩ = some (.string t.f3) ∧ w'.cell? ⟨wr.heap.size, 4, none⟩ = some (.slice A4 t.f4.length c4) := fun w' h0 h1 => ⟨(blk_cell h0 0).trans rfl, (blk_cell h1 0).trans rfl, (blk_cell h1 1).trans rfl, (blk_cell h1 2).trans rfl, (blk_cell h1 3).trans rfl, (blk_cell h1 4).trans rfl⟩
        have bd0 := hkq.2 _ _ _ _ gd hdn (by decide)
        have bd1 := blk_alloc bd0 (.cells #[.int .i64 t.f0, .bool t.f1, .int .u64 t.f2, .string t.f3, .slice A4 t.f4.length c4] 44)
        have bd2 := blk_alloc bd1 (.cells #[.int .i64 j] 3)
        have bx1 := heap_alloc_new wr (.cells #[.int .i64 t.f0, .bool t.f1, .int .u64 t.f2, .string t.f3, .slice A4 t.f4.length c4] 44)
        have bx2 := blk_alloc bx1 (.cells #[.int .i64 j] 3)
        have hall2 : ∀ w1 : World, (((wr.alloc (.cells #[.int .i64 t.f0, .bool t.f1, .int .u64 t.f2, .string t.f3, .slice A4 t.f4.length c4] 44)).alloc (.cells #[.int .i64 j] 3))).drew.grownBy w1 none → w1.cell? ⟨Bd, 0, none⟩ = some (.func (.func 50) #[] #[.pointer (some ⟨By, 0, none⟩), .pointer (some ⟨Bd, 0, none⟩)]) ∧ w1.cell? ⟨wr.heap.size, 0, none⟩ = some (.int .i64 t.f0) ∧ w1.cell? ⟨wr.heap.size, 1, none⟩ = some (.bool t.f1) ∧ w1.cell? ⟨wr.heap.size, 2, none⟩ = some (.int .u64 t.f2) ∧ w1.cell? ⟨wr.heap.size, 3, none⟩ = some (.string t.f3) ∧ w1.cell? ⟨wr.heap.size, 4, none⟩ = some (.slice A4 t.f4.length c4) := fun w1 hg => hall w1 (blk_grown (w := (((wr.alloc (.cells #[.int .i64 t.f0, .bool t.f1, .int .u64 t.f2, .string t.f3, .slice A4 t.f4.length c4] 44)).alloc (.cells #[.int .i64 j] 3))).drew) bd2 hg (by simp)) (blk_grown (w := (((wr.alloc (.cells #[.int .i64 t.f0, .bool t.f1, .int .u64 t.f2, .string t.f3, .slice A4 t.f4.length c4] 44)).alloc (.cells #[.int .i64 j] 3))).drew) bx2 hg (by simp))
        obtain ⟨k10, k11, k12, k13, k14, k15⟩ := hall _ bd1 bx1
        obtain ⟨k20, k21, k22, k23, k24, k25⟩ := hall _ bd2 bx2
        clear bd0 bd1 bd2 bx1 bx2 hall
        refine wpIn_wide.2 ?_
        clear HPS
        rcases hpr with ⟨rfl, rfl, rfl⟩ | ⟨gp, rfl, hgp, hcp, cs, hcs, htk⟩
        case' inl =>
          go_region_law (first | (refine step_append_nil rfl _ _ _ 3 (.int .i64 0) 1 8 (by rfl) Try.underlying49 info3 rfl (by decide) ⟨wr.heap.size + 1, 0, none⟩ [.int .i64 j] (by rfl) (by rfl) rfl (World.news_of_block (cs := #[.int .i64 j]) (t := 3) (fr := (0, 0)) (hnw _)) (by simp [Value.oneCell']) (by decide) ?_; intro v1 w1 hown1 hg1; obtain ⟨k30, k31, k32, k33, k34, k35⟩ := hall2 _ hg1) | (go_simp; go_at_call 50; refine (hcall _ _ hown1 hg1).mono ?_; rintro e W3 ⟨b, rfl, hb⟩; dsimp only))
        case' inr =>
          have gq := hkq.2 _ _ _ _ hgp hcs (by decide)
          go_region_law (first | (refine step_append_cut rfl _ _ _ 3 (.int .i64 0) 1 8 (by rfl) Try.underlying49 info3 rfl (by decide) ⟨gp, 0, none⟩ ⟨wr.heap.size + 1, 0, none⟩ ps.length ps [.int .i64 j] (by rfl) (by rfl) (by simp) (path_cells (blk_alloc (blk_alloc gq _) _) htk) rfl (World.news_of_block (cs := #[.int .i64 j]) (t := 3) (fr := (0, 0)) (hnw _)) hb1 hb2 ?_; intro v1 w1 hown1 hg1; obtain ⟨k30, k31, k32, k33, k34, k35⟩ := hall2 _ hg1) | (go_simp; go_at_call 50; refine (hcall _ _ hown1 hg1).mono ?_; rintro e W3 ⟨b, rfl, hb⟩; dsimp only))
        all_goals
          cases b
          · obtain ⟨q2, hq2, hx3⟩ := hb.2 rfl
            gi_wp2
            exact bodyPost_ret (results_tmp Try.results50 _ _ _) rfl (.inr ⟨rfl, q ++ q2, by rw [List.map_append]; exact preq_part hjn ht hq hq2, hx3⟩)
          · obtain ⟨q2, hq2, hJ3, hk3⟩ := hb.1 rfl
            gi_wp2
            gi_roundg d
            case rel => exact ⟨j + 1, q ++ q2, by first | exact congrArg (Value.int .i64) (wrap_j hjn hbig) | exact congrArg (Value.int .i64) (show (j : Int) + 1 = ((j + 1 : Nat) : Int) by omega), by omega, by rw [List.map_append]; exact preq_next hjn ht hq hq2, by rw [List.length_append]; omega, hJ3, hk3⟩
            case measure => omega
  · refine bodyPost_ret (results_tmp Try.results50 _ _ _) rfl (.inr ⟨rfl, [xe], ?_, hx2⟩)
    rw [preP_eq, List.map_cons, List.map_nil, hxs]
    exact ⟨prePL x.f4 qs 0, rfl⟩
set_option maxRecDepth 100000 in
set_option maxHeartbeats 4000000 in
theorem each1p_in (w0 : World) (n l Bv B N : Nat) (hNb : N ≤ 1099511627776) (J Jx : List (Np w0) → World → Prop)
    (hB0 : w0.heap.size ≤ B) (hJG : ∀ (s : List (Np w0)) (A A' : World), J s A → A.grownBy A' none → J s A')
    (hY : ∀ m pre x W, J pre W → Np.reads B x W → pre.length < N → YieldAt Fence.wide m Try.prog l (encP x) W fun e W' =>
      (e = .returned (.bool true) ∧ J (pre ++ [x]) W' ∧ KpM w0.heap.size B W W') ∨ (e = .returned (.bool false) ∧ Jx (pre ++ [x]) W'))
    (x : S44) (A : Option Addr) (c : Nat) (hc : x.f4.length ≤ c) (hC : Kd.C k44 w0 A x.f4.length x.f4) (hN : (preT x).length ≤ N) (W : World) (hBW : Below w0.heap.size w0 W) (hBle : B ≤ W.heap.size)
    (hv : W.heap[Bv]? = some (.cells #[.int .i64 x.f0, .bool x.f1, .int .u64 x.f2, .string x.f3, .slice A x.f4.length c] 44 (0, 0))) (h0 : J [] W) :
    CallsIn Fence.wide n Try.prog 49 #[.func (.yield l) #[] #[], .pointer (some ⟨Bv, 0, none⟩)] W fun e W' => (∃ v, e = .returned v) ∧
      ((∃ ys : List (Np w0), ys.map Np.desc = preP x [] ∧ J ys W') ∨ (∃ pre : List (Np w0), pre.map Np.desc <+: preP x [] ∧ Jx pre W')) := by
  have hdd : ∀ k : Nat, (Fence.wide.depth.isSome = true → 1 ≤ k) := fun k h => by cases h
  have c0 : W.cell? ⟨Bv, 0, none⟩ = _ := (blk_cell hv 0).trans rfl
  have c1 : W.cell? ⟨Bv, 1, none⟩ = _ := (blk_cell hv 1).trans rfl
  have c2 : W.cell? ⟨Bv, 2, none⟩ = _ := (blk_cell hv 2).trans rfl
  have c3 : W.cell? ⟨Bv, 3, none⟩ = _ := (blk_cell hv 3).trans rfl
  have c4 : W.cell? ⟨Bv, 4, none⟩ = _ := (blk_cell hv 4).trans rfl
  have n0 := World.new_ne W _ c0
  have n1 := World.new_ne W _ c1
  have n2 := World.new_ne W _ c2
  have n3 := World.new_ne W _ c3
  have n4 := World.new_ne W _ c4
  have hlt := blk_lt hv
  have hX : ∀ o o' : Obj, ((W.alloc o).alloc o').heap[W.heap.size + 1]? = some o' := fun o o' => by have h_ := heap_alloc_new (W.alloc o) o'; rwa [World.size_alloc] at h_
  have cn : ((W.alloc (.cells #[.func (.yield l) #[] #[]] 82)).alloc (.cells #[.nilFunc] 82)).cell? ⟨W.heap.size + 1, 0, none⟩ = some .nilFunc := (blk_cell (hX _ _) 0).trans rfl
  have fn_ : ((W.alloc (.cells #[.func (.yield l) #[] #[]] 82)).alloc (.cells #[.nilFunc] 82)).frozen? ⟨W.heap.size + 1, 0, none⟩ = false := blk_frozen (hX _ _) 0
  have hne1 : Bv ≠ W.heap.size + 1 := by omega
  have hne2 : W.heap.size + 1 ≠ Bv := by omega
  refine callsIn_of_wp Try.func49 rfl trivial ?_ rfl
  simp only [Try.ntmps49, List.size_toArray, List.length_cons, List.length_nil, Nat.reduceAdd, Nat.reduceSub, Array.replicate_succ, Array.replicate_zero, List.push_toArray, List.append_toArray, List.nil_append, List.cons_append]
  have hne3 : W.heap.size ≠ W.heap.size + 1 := by omega
  have hg1 : W.grownBy (W.alloc (.cells #[.func (.yield l) #[] #[]] 82)) none := World.grownBy_alloc W _ none
  have hyb := blk_alloc (heap_alloc_new W (.cells #[.func (.yield l) #[] #[]] 82)) (.cells #[.func (.func 50) #[] #[.pointer (some ⟨W.heap.size, 0, none⟩), .pointer (some ⟨W.heap.size + 1, 0, none⟩)]] 82)
  have hdb := hX (.cells #[.func (.yield l) #[] #[]] 82) (.cells #[.func (.func 50) #[] #[.pointer (some ⟨W.heap.size, 0, none⟩), .pointer (some ⟨W.heap.size + 1, 0, none⟩)]] 82)
  have hgg := World.grownBy.trans hg1 (World.grownBy_alloc (W.alloc (.cells #[.func (.yield l) #[] #[]] 82)) (.cells #[.func (.func 50) #[] #[.pointer (some ⟨W.heap.size, 0, none⟩), .pointer (some ⟨W.heap.size + 1, 0, none⟩)]] 82) none)
  have hBB := hBW.grown hgg hBW.size (fun k e => by cases e)
  have hD := downp_in w0 l B N W.heap.size (W.heap.size + 1) hNb J Jx hB0 hJG hY (preT x).length x (n - 1) (.slice none 0 0) _ [] [] [] _ rfl (Nat.le_refl _) ⟨A, c, rfl, hc, hC⟩ hBB (hJG _ _ _ h0 hgg) (by simpa using hN) (Nat.le_refl _) (World.ownsRow_nil _ _ _ _) hyb hdb hBle (by omega)
  clear hyb hdb hgg hBB hg1 hY hJG
  gi_wp2_with (refine ⟨trivial, hdd _, ?_⟩; gi_at_call 50; refine hD.mono ?_; clear hD; rintro e W3 (⟨rfl, ⟨q, hq, hJq⟩, hk⟩ | ⟨rfl, q, hq, hx⟩))
  · go_end0
    exact ⟨⟨_, rfl⟩, .inl ⟨q, hq, by simpa using hJq⟩⟩
  · go_end0
    exact ⟨⟨_, rfl⟩, .inr ⟨q, hq, by simpa using hx⟩⟩


/-- what the iterator does to the memory: new blocks alone -/
def AbN (_ : Nat) (A B : World) : Prop := A.grownBy B none
theorem eachp_seq (w0 : World) (n Bv B : Nat) (x : S44) (A : Option Addr) (c : Nat) (hNb : (preT x).length ≤ 1099511627776) (hc : x.f4.length ≤ c) (hC : Kd.C k44 w0 A x.f4.length x.f4) (w : World)
    (hB0 : w0.heap.size ≤ B) (hBw : Below w0.heap.size w0 w) (hBle : B ≤ w.heap.size) (hv : w.heap[Bv]? = some (.cells #[.int .i64 x.f0, .bool x.f1, .int .u64 x.f2, .string x.f3, .slice A x.f4.length c] 44 (0, 0))) :
    SeqG Fence.wide n Try.prog 49 #[.pointer (some ⟨Bv, 0, none⟩)] (encP (w := w0)) (KpM w0.heap.size B) AbN (fun x W => Np.reads B x W) (fun ys => ys.map Np.desc = preP x []) (fun pre => pre.map Np.desc <+: preP x []) (preT x).length w :=
  fun l J Jx W hW hJ hY h0 => each1p_in w0 n l Bv B (preT x).length hNb J Jx hB0 hJ (fun m pre x W hj hr hl => YieldAt_anyDepth rfl m (hY pre x W hj hr hl)) x A c hc hC (Nat.le_refl _) W (hBw.trans (hW.mono hBw.size)) (Nat.le_trans hBle hW.size) (blk_below hv hW) h0
end Go.Proofs.Ytfcfnnkepjoncaa.Hand
