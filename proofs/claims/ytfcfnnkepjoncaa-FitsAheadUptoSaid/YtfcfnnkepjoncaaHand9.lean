import Derived.RangeFuncNested
import Derived.RangeFuncBound
import Derived.RangeFuncCalls
import Derived.RangeFuncLeaves
import Derived.Shelf.Abstract
import Derived.Shelf.RegionOpen
import Derived.WalkKit
import Derived.OwnWalkIn
import Derived.TacticsInMore
import Derived.LoopNIn
import Derived.LoopIn
import Derived.Sort.LoopGhostIn
import Derived.Sort.CutIn
import Derived.Maps.AppendAt
import Derived.ArgAppend
import Derived.Deep.RegionHeld3
import Derived.Deep.AppendLies
import Derived.Deep.RegionLaw
import Derived.Deep.DrawnRows
import Derived.Test.YtfcfnnkepjoncaaPCx6
namespace Go.Proofs.Ytfcfnnkepjoncaa.Hand
open Go.RowKit Go.Shelf Go.Proofs.YtfcfnnkepjoncaaW.PrintWords Go.Proofs.YtfcfnnkepjoncaaW.PrintLast Go.Proofs.YtfcfnnkepjoncaaW.PrintMore Go.Proofs.Ytfcfnnkepjoncaa.PC
attribute [local go_sem] Oper.semAt_some
set_option linter.unusedVariables false
set_option linter.unusedSimpArgs false

theorem room_of_none {F : Fence} (hd : F.depth = none) (k : Nat) : F.room k := fun d h => by rw [hd] at h; cases h
theorem RoundIn_anyDepth {F : Fence} (hd : F.depth = none) {m m' : Nat} {P : Program} {l : Nat} {f : FuncId} {tmps : Array Value} {assign body : Code} {w : World} {R : Ending → World → Prop}
    (h : RoundIn F m P l f tmps assign body w R) : RoundIn F m' P l f tmps assign body w R := ⟨h.1, fun c cs _ => h.2 c cs (room_of_none hd _)⟩
theorem YieldAt_anyDepth {F : Fence} (hd : F.depth = none) {m : Nat} (m' : Nat) {P : Program} {l : Nat} {args : Array Value} {W : World} {R : Ending → World → Prop} (h : YieldAt F m P l args W R) : YieldAt F m' P l args W R := by
  obtain ⟨fn, tmps, assign, body, hy, hR⟩ := h
  exact ⟨fn, tmps, assign, body, hy, RoundIn_anyDepth hd hR⟩

/-- a tree's value, its slice at an address -/
def VE (x : S44) (A : Option Addr) (c : Nat) : Value := .agg #[.int .i64 x.f0, .bool x.f1, .int .u64 x.f2, .string x.f3, .slice A x.f4.length c]
/-- the value v is the tree x in w -/
def NodeAt (w : World) (x : S44) (v : Value) : Prop := ∃ A c, v = VE x A c ∧ x.f4.length ≤ c ∧ Kd.C k44 w A x.f4.length x.f4
mutual
/-- a tree's values, each ahead of those within it -/
def preT : S44 → List S44
  | ⟨a, b, c, d, l⟩ => ⟨a, b, c, d, l⟩ :: preL l
def preL : List S44 → List S44
  | [] => []
  | t :: ts => preT t ++ preL ts
end
/-- what a round gets: a path, a value that is a tree of w -/
abbrev Nd (w : World) (Pp : S44 → Prop) := { x : Value × Value × S44 // NodeAt w x.2.2 x.2.1 ∧ Pp x.2.2 }
def encN {w : World} {Pp : S44 → Prop} (x : Nd w Pp) : Array Value := #[x.1.1, x.1.2.1]
/-- what a round keeps: all below n₀, and all cells from B on -/
def KpN (n₀ B : Nat) (W W' : World) : Prop := Below n₀ W W' ∧ ∀ (b : Nat) (cs : Array Value) (t : TypeId) (fr : Nat × Nat), B ≤ b → W.heap[b]? = some (.cells cs t fr) → W'.heap[b]? = some (.cells cs t fr)

theorem KpN.trans {n B : Nat} {x y z : World} (h : KpN n B x y) (k : KpN n B y z) : KpN n B x z := ⟨h.1.trans k.1, fun b cs t fr hb hc => k.2 b cs t fr hb (h.2 b cs t fr hb hc)⟩
theorem KpN.of_grown {n B : Nat} {x y : World} (h : x.grownBy y none) (hn : n ≤ x.heap.size) : KpN n B x y :=
  ⟨(Below.refl n x).grown h hn (fun k e => by cases e), fun b cs t fr hb hc => blk_grown hc h (by simp)⟩
theorem preT_eq (x : S44) : preT x = x :: preL x.f4 := by obtain ⟨a, b, c, d, l⟩ := x; rw [preT]
theorem preL_drop {l : List S44} {j : Nat} {t : S44} (hj : j < l.length) (ht : rd_T44 l (j : Int) = t) : preL (l.drop j) = preT t ++ preL (l.drop (j + 1)) := by
  rw [List.drop_eq_getElem_cons hj, preL]
  have : l[j] = t := by rw [← ht]; unfold rd_T44; simp [List.getD_eq_getElem?_getD, List.getElem?_eq_getElem hj]
  rw [this]
theorem pre_next {x t : S44} {j : Nat} {q q2 : List S44} (hj : j < x.f4.length) (ht : rd_T44 x.f4 (j : Int) = t) (h : q ++ preL (x.f4.drop j) = preT x) (h2 : q2 = preT t) : (q ++ q2) ++ preL (x.f4.drop (j + 1)) = preT x := by
  rw [preL_drop hj ht] at h; rw [h2, List.append_assoc]; exact h
theorem pre_part {x t : S44} {j : Nat} {q q2 : List S44} (hj : j < x.f4.length) (ht : rd_T44 x.f4 (j : Int) = t) (h : q ++ preL (x.f4.drop j) = preT x) (h2 : q2 <+: preT t) : (q ++ q2) <+: preT x := by
  rw [preL_drop hj ht] at h
  obtain ⟨r, hr⟩ := h2
  exact ⟨r ++ preL (x.f4.drop (j + 1)), by rw [← h, ← hr]; simp [List.append_assoc]⟩
theorem pre_len {x t : S44} {j : Nat} {q : List S44} (hj : j < x.f4.length) (ht : rd_T44 x.f4 (j : Int) = t) (h : q ++ preL (x.f4.drop j) = preT x) : q.length + (preT t).length ≤ (preT x).length := by
  rw [preL_drop hj ht] at h; rw [← h]; simp only [List.length_append]; omega
theorem mem_preL {l : List S44} {j : Nat} {t u : S44} (hj : j < l.length) (ht : rd_T44 l (j : Int) = t) (hu : u ∈ preT t) : u ∈ preL l := by
  have h : ∀ (a b : List S44), preL (a ++ b) = preL a ++ preL b := fun a b => by
    induction a with
    | nil => rfl
    | cons t ts ih => rw [List.cons_append, preL, ih, preL, List.append_assoc]
  have h1 := h (l.take j) (l.drop j)
  rw [List.take_append_drop, preL_drop hj ht] at h1
  rw [h1]; simp [hu]
theorem pre_mem {x t u : S44} {j : Nat} (hj : j < x.f4.length) (ht : rd_T44 x.f4 (j : Int) = t) (hu : u ∈ preT t) : u ∈ preT x := by
  rw [preT_eq]; exact List.mem_cons_of_mem _ (mem_preL hj ht hu)
theorem pre_end {x : S44} {q : List S44} (h : q ++ preL (x.f4.drop x.f4.length) = preT x) : q = preT x := by simpa [preL] using h
theorem step_append_nil {P : Program} {ops : Array Oper} {o : Oper} {a : Act} {Q : Exit → Act → World → Prop} {K : Act → World → Prop} {E : Prop} {W : World} (hgd : o.guard = none) (s x : Operand) (t e : TypeId) (z : Value) (size bytes : Nat)
    (ho : o.op = .call { callee := .builtin .append, args := #[s, x], argTypes := #[t, t] })
    (ht : P.underlying t = some (.slice e)) (hinfo : (P.info? e).map (fun i => (i.zero, i.size, i.bytes)) = some (some z, size, bytes)) (hz : z.cells.size = size) (hs0 : 0 < size)
    (ad : Addr) (ys : List Value) (hs : a.eval s = .slice none 0 0) (hx : a.eval x = .slice (some ad) 1 1)
    (hys : ys.length = size) (hnews : ∀ j u, ys[j]? = some u → W.cell? (ad.add j) = some u) (h1 : ∀ u ∈ ys, u.oneCell' = true) (hl : bytes ≤ 140737488355328)
    (h : ∀ v1 w1, w1.ownsRow W.heap.size e size v1 1 ys → W.grownBy w1 none → K (a.put o.dst v1) w1) :
    if Region.wanted o (yielded ops a.tmps) = true then Oper.wp P o a W K Q else E := by
  have hw : Region.wanted o (yielded ops a.tmps) = true := by simp [Region.wanted, hgd]
  rw [if_pos hw]
  obtain ⟨i0, hi, hzz⟩ := Option.map_eq_some_iff.1 hinfo
  simp only [Prod.mk.injEq] at hzz
  obtain ⟨hz0, hz1, hz2⟩ := hzz
  obtain ⟨v1, w1, hr, hown, hg, _, _⟩ := run_append_own_at (P := P) W W.heap.size t o.type e i0 z size bytes ht hi hz0 hz1 hz2 hz hs0 (.slice none 0 0) 0 [] (World.ownsRow_nil _ _ _ _) ad 1 1 ys (by rw [hys]; simp) hnews h1 (by simp [maxLen]) (by omega) (Nat.le_refl _)
  unfold Oper.wp execOp
  simp only [ho, resolve, invoke, builtin, Sem.run_bind, Sem.run_pure, Result.andThen_ok, List.map_toArray, List.map_cons, List.map_nil, hs, hx, hr]
  exact h v1 w1 (by simpa using hown) hg
theorem undrew {a b : World} {row : Option Nat} (h : a.drew.grownBy b row) : a.grownBy b row := ⟨h.os, h.tape, h.output, h.size, h.block⟩
theorem len_preL (l : List S44) : l.length ≤ (preL l).length := by
  induction l with
  | nil => simp
  | cons t ts ih => rw [preL, preT_eq]; simp only [List.length_cons, List.length_append]; omega
theorem wrap_j {j n : Nat} (h : j < n) (hn : n < 9223372036854775807) : wrap64 ((j : Int) + 1) = ((j + 1 : Nat) : Int) := by unfold wrap64; omega
theorem path_open {W : World} {B : Nat} {p : Value} {ps : List Value} (h : W.ownsRow B 3 1 p ps.length ps) :
    ∃ Ap cp, p = .slice Ap ps.length cp ∧ ((Ap = none ∧ ps = [] ∧ cp = 0) ∨ ∃ g, Ap = some ⟨g, 0, none⟩ ∧ B ≤ g ∧ ps.length ≤ cp ∧ ∃ cs, W.heap[g]? = some (.cells cs 3 (0, 0)) ∧ cs.toList.take ps.length = ps) := by
  obtain ⟨h1, h2⟩ := h
  rcases h2 with ⟨rfl, hn⟩ | ⟨g, cap, cur, rfl, hg, hc, hle, _, _, ht⟩
  · exact ⟨none, 0, by rw [hn], .inl ⟨rfl, List.length_eq_zero_iff.1 hn, rfl⟩⟩
  · exact ⟨_, cap, rfl, .inr ⟨g, rfl, hg, hle, cur, hc, by simpa using ht⟩⟩
theorem info3 : (Try.prog.info? 3).map (fun i => (i.zero, i.size, i.bytes)) = some (some (.int .i64 0), 1, 8) := by kernel_rfl
theorem path_cells {W : World} {g : Nat} {cs : Array Value} {ps : List Value} (h : W.heap[g]? = some (.cells cs 3 (0, 0))) (ht : cs.toList.take ps.length = ps) : ∀ j u, ps[j]? = some u → W.cell? ((⟨g, 0, none⟩ : Addr).add j) = some u := by
  intro j u hu
  rw [← ht] at hu
  have hj : cs.toList[j]? = some u := by
    rw [List.getElem?_take] at hu
    split at hu
    · exact hu
    · cases hu
  have : (⟨g, 0, none⟩ : Addr).add j = ⟨g, j, none⟩ := by simp [Addr.add_lit]
  rw [this, blk_cell h j]
  simpa using hj
/-- an append to a slice without room, at a step of a region that draws -/
theorem step_append_cut {P : Program} {ops : Array Oper} {o : Oper} {a : Act} {Q : Exit → Act → World → Prop} {K : Act → World → Prop} {E : Prop} {W : World} (hgd : o.guard = none) (s x : Operand) (t e : TypeId) (z : Value) (size bytes : Nat)
    (ho : o.op = .call { callee := .builtin .append, args := #[s, x], argTypes := #[t, t] })
    (ht : P.underlying t = some (.slice e)) (hinfo : (P.info? e).map (fun i => (i.zero, i.size, i.bytes)) = some (some z, size, bytes)) (hz : z.cells.size = size) (hs0 : 0 < size)
    (b ad : Addr) (n : Nat) (xs ys : List Value) (hs : a.eval s = .slice (some b) n n) (hx : a.eval x = .slice (some ad) 1 1)
    (hlo : xs.length = n * size) (hold : ∀ j u, xs[j]? = some u → W.cell? (b.add j) = some u) (hys : ys.length = size) (hnews : ∀ j u, ys[j]? = some u → W.cell? (ad.add j) = some u)
    (hl : (n + 1) * bytes ≤ 140737488355328) (h63 : n + 1 ≤ maxLen)
    (h : ∀ v1 w1, w1.ownsRow W.heap.size e size v1 (n + 1) (xs ++ ys) → W.grownBy w1 none → K (a.put o.dst v1) w1) :
    if Region.wanted o (yielded ops a.tmps) = true then Oper.wp P o a W K Q else E := by
  have hw : Region.wanted o (yielded ops a.tmps) = true := by simp [Region.wanted, hgd]
  rw [if_pos hw]
  obtain ⟨i0, hi, hzz⟩ := Option.map_eq_some_iff.1 hinfo
  simp only [Prod.mk.injEq] at hzz
  obtain ⟨hz0, hz1, hz2⟩ := hzz
  obtain ⟨v1, w1, hr, hown, hg⟩ := run_append_arg_grows (P := P) W t o.type e i0 z size bytes ht hi hz0 hz1 hz2 hz hs0 b n n xs hlo hold ad 1 1 ys (by rw [hys]; simp) hnews (by omega) h63 hl
  unfold Oper.wp execOp
  simp only [ho, resolve, invoke, builtin, Sem.run_bind, Sem.run_pure, Result.andThen_ok, List.map_toArray, List.map_cons, List.map_nil, hs, hx, hr]
  exact h v1 w1 hown hg

set_option maxRecDepth 100000 in
set_option maxHeartbeats 16000000 in
theorem down_in (w0 : World) (Pp : S44 → Prop) (l B N By Bd : Nat) (hNb : N ≤ 1099511627776) (J Jx : List (Nd w0 Pp) → World → Prop)
    (hB0 : w0.heap.size ≤ B) (hJG : ∀ (s : List (Nd w0 Pp)) (A A' : World), J s A → A.grownBy A' none → J s A')
    (hY : ∀ m pre x W, J pre W → pre.length < N → YieldAt Fence.wide m Try.prog l (encN x) W fun e W' =>
      (e = .returned (.bool true) ∧ J (pre ++ [x]) W' ∧ KpN w0.heap.size B W W') ∨ (e = .returned (.bool false) ∧ Jx (pre ++ [x]) W')) (k : Nat) :
    ∀ (x : S44) (n : Nat) (p v : Value) (ps : List Value) (pre : List (Nd w0 Pp)) (W : World), (preT x).length ≤ k → (∀ t ∈ preT x, Pp t) → NodeAt w0 x v → Below w0.heap.size w0 W → J pre W → pre.length + (preT x).length ≤ N →
      ps.length ≤ pre.length → W.ownsRow B 3 1 p ps.length ps →
      W.heap[By]? = some (.cells #[.func (.yield l) #[] #[]] 82 (0, 0)) → W.heap[Bd]? = some (.cells #[.func (.func 50) #[] #[.pointer (some ⟨By, 0, none⟩), .pointer (some ⟨Bd, 0, none⟩)]] 82 (0, 0)) →
      B ≤ By → B ≤ Bd →
      CallsIn Fence.wide n Try.prog 50 #[p, v, .pointer (some ⟨By, 0, none⟩), .pointer (some ⟨Bd, 0, none⟩)] W fun e W' =>
        (e = .returned (.bool true) ∧ (∃ q : List (Nd w0 Pp), q.map (·.1.2.2) = preT x ∧ J (pre ++ q) W') ∧ KpN w0.heap.size B W W') ∨ (e = .returned (.bool false) ∧ ∃ q : List (Nd w0 Pp), q.map (·.1.2.2) <+: preT x ∧ Jx (pre ++ q) W') := by
  induction k with
  | zero => intro x n p v ps pre W hk _; obtain ⟨a, b, c, d, l⟩ := x; simp [preT] at hk
  | succ k ih =>
  intro x n p v ps pre W hk hPp hn hB hJ hN hpl hp hy hdn gy gd
  have hdd : ∀ k : Nat, (Fence.wide.depth.isSome = true → 1 ≤ k) := fun k h => by cases h
  obtain ⟨A, c, rfl, hc, hC⟩ := id hn
  obtain ⟨Ap, cp, rfl, hpr⟩ : ∃ Ap cp, p = .slice Ap ps.length cp ∧ ((Ap = none ∧ ps = [] ∧ cp = 0) ∨ ∃ g, Ap = some ⟨g, 0, none⟩ ∧ B ≤ g ∧ ps.length ≤ cp ∧ ∃ cs, W.heap[g]? = some (.cells cs 3 (0, 0)) ∧ cs.toList.take ps.length = ps) := path_open hp
  unfold VE at hn ⊢
  have cy : W.cell? ⟨By, 0, none⟩ = some (.func (.yield l) #[] #[]) := by simp [World.cell?, hy]
  have cd : W.cell? ⟨Bd, 0, none⟩ = some (.func (.func 50) #[] #[.pointer (some ⟨By, 0, none⟩), .pointer (some ⟨Bd, 0, none⟩)]) := by simp [World.cell?, hdn]
  refine callsIn_of_wp Try.func50 rfl trivial ?_ rfl
  simp only [Try.ntmps50, List.size_toArray, List.length_cons, List.length_nil, Nat.reduceAdd, Nat.reduceSub, Array.replicate_succ, Array.replicate_zero, List.push_toArray, List.append_toArray, List.nil_append, List.cons_append]
  have hlt := blk_lt hy
  have cy2 : ∀ o, (W.alloc o).cell? ⟨By, 0, none⟩ = some (.func (.yield l) #[] #[]) := fun o => by rw [Below.cell ((Below.refl W.heap.size W).alloc (Nat.le_refl _) o) (p := ⟨By, 0, none⟩) hlt]; exact cy
  have hge : B ≤ W.heap.size := by omega
  obtain ⟨bx, hbx⟩ : ∃ bx : Obj, bx = .cells #[.int .i64 x.f0, .bool x.f1, .int .u64 x.f2, .string x.f3, .slice A x.f4.length c] 44 (0, 0) := ⟨_, rfl⟩
  obtain ⟨xe, hxe, hxs⟩ : ∃ xe : Nd w0 Pp, encN xe = #[.slice Ap ps.length cp, .agg #[.int .i64 x.f0, .bool x.f1, .int .u64 x.f2, .string x.f3, .slice A x.f4.length c]] ∧ xe.1.2.2 = x := ⟨⟨(.slice Ap ps.length cp, VE x A c, x), hn, hPp x (by rw [preT_eq]; simp)⟩, rfl, rfl⟩
  obtain ⟨fn, tmps, assign, body, hyy, hR0⟩ := hY (n - 1) pre xe _ (hJG _ _ _ hJ (World.grownBy_alloc W bx none)) (by obtain ⟨a, b, c, d, l⟩ := x; simp [preT] at hN; omega)
  have hR := hR0.mono (R' := fun e W2 => (e = .returned (.bool true) ∧ J (pre ++ [xe]) W2 ∧ KpN w0.heap.size B (W.alloc bx) W2 ∧ W2.heap[W.heap.size]? = some bx ∧ W2.cell? ⟨W.heap.size, 4, none⟩ = some (.slice A x.f4.length c)) ∨ (e = .returned (.bool false) ∧ Jx (pre ++ [xe]) W2))
    (fun e W2 h => h.elim (fun ⟨he, hj, hk⟩ => .inl (by subst hbx; have hb := hk.2 _ _ _ _ hge (heap_alloc_new W _); exact ⟨he, hj, hk, hb, (blk_cell hb 4).trans rfl⟩)) .inr)
  clear hR0
  rw [hxe] at hyy
  subst hbx
  gi_wp2_with (first | ((try refine ⟨hdd _, ?_⟩); refine hR.mono ?_; clear hR; rintro e W2 (⟨rfl, hJ2, hk2, hbx2, cx2⟩ | ⟨rfl, hx2⟩)))
  · -- the loop over what is within
    have hk0 : KpN w0.heap.size B W W2 := (KpN.of_grown (World.grownBy_alloc W _ none) hB.size).trans hk2
    gi_loopg [17] x.f4.length (fun kq v17 wr => ∃ (j : Nat) (q : List (Nd w0 Pp)), v17 = .int .i64 j ∧ j + kq = x.f4.length ∧ q.map (·.1.2.2) ++ preL (x.f4.drop j) = preT x ∧ 1 ≤ q.length ∧ J (pre ++ q) wr ∧ KpN w0.heap.size B W wr)
    case atStart => exact ⟨0, [xe], rfl, by omega, by rw [preT_eq, List.map_cons, List.map_nil, hxs]; rfl, by simp, hJ2, hk0⟩
    case round =>
      clear hJ2 hk2 hbx2 cx2 hk0
      obtain ⟨j, q, rfl, hj, hq, hq1, hJq, hkq⟩ := hrel
      cases gk with
      | zero =>
        obtain rfl : j = x.f4.length := by omega
        gi_wp2
        exact bodyPost_ret (results_tmp Try.results50 _ _ _) rfl (.inl ⟨rfl, ⟨q, pre_end hq, hJq⟩, hkq⟩)
      | succ d =>
        have hlt : (j : Int) < (x.f4.length : Int) := by omega
        have hy' : wr.cell? ⟨By, 0, none⟩ = some (.func (.yield l) #[] #[]) := (blk_cell (hkq.2 _ _ _ _ gy hy) 0).trans rfl
        have hd' : wr.cell? ⟨Bd, 0, none⟩ = some (.func (.func 50) #[] #[.pointer (some ⟨By, 0, none⟩), .pointer (some ⟨Bd, 0, none⟩)]) := (blk_cell (hkq.2 _ _ _ _ gd hdn) 0).trans rfl
        have hBq := hB.trans hkq.1
        obtain ⟨ad, A4, c4, rfl, z0, z1, z2, z3, z4, hl4, hC4⟩ := at_T44 hC (j : Int) (by omega) hlt
        obtain ⟨t, ht⟩ : ∃ t, rd_T44 x.f4 (j : Int) = t := ⟨_, rfl⟩
        rw [ht] at z0 z1 z2 z3 z4 hl4 hC4
        simp only [Int.toNat_natCast] at z0 z1 z2 z3 z4
        have e0 := (hBq.cell (World.block_lt_of_cell? _ _ z0)).trans z0
        have e1 := (hBq.cell (World.block_lt_of_cell? _ _ z1)).trans z1
        have e2 := (hBq.cell (World.block_lt_of_cell? _ _ z2)).trans z2
        have e3 := (hBq.cell (World.block_lt_of_cell? _ _ z3)).trans z3
        have e4 := (hBq.cell (World.block_lt_of_cell? _ _ z4)).trans z4
        clear z0 z1 z2 z3 z4
        have hjn : j < x.f4.length := by omega
        have hlen := pre_len hjn ht hq
        have hql : (q.map (·.1.2.2)).length = q.length := List.length_map ..
        have hNt : NodeAt w0 t (.agg #[.int .i64 t.f0, .bool t.f1, .int .u64 t.f2, .string t.f3, .slice A4 t.f4.length c4]) := ⟨A4, c4, rfl, hl4, hC4⟩
        have hkt : (preT t).length ≤ k := by rw [hql] at hlen; omega
        have hbig : x.f4.length < 9223372036854775807 := by have h_ := len_preL x.f4; rw [preT_eq, List.length_cons] at hN; omega
        have hb1 : (ps.length + 1) * 8 ≤ 140737488355328 := by omega
        have hb2 : ps.length + 1 ≤ maxLen := by simp only [maxLen]; omega
        have hcall : ∀ (v1 : Value) (w1 : World), w1.ownsRow (((wr.alloc (.cells #[.int .i64 t.f0, .bool t.f1, .int .u64 t.f2, .string t.f3, .slice A4 t.f4.length c4] 44)).alloc (.cells #[.int .i64 j] 3))).drew.heap.size 3 1 v1 (ps.length + 1) (ps ++ [.int .i64 j]) → (((wr.alloc (.cells #[.int .i64 t.f0, .bool t.f1, .int .u64 t.f2, .string t.f3, .slice A4 t.f4.length c4] 44)).alloc (.cells #[.int .i64 j] 3))).drew.grownBy w1 none → Calls Try.prog 50 #[v1, .agg #[.int .i64 t.f0, .bool t.f1, .int .u64 t.f2, .string t.f3, .slice A4 t.f4.length c4], .pointer (some ⟨By, 0, none⟩), .pointer (some ⟨Bd, 0, none⟩)] w1 fun e W3 => ∃ b, e = .returned (.bool b) ∧ (b = true → ∃ q2 : List (Nd w0 Pp), q2.map (·.1.2.2) = preT t ∧ J (pre ++ (q ++ q2)) W3 ∧ KpN w0.heap.size B W W3) ∧ (b = false → ∃ q2 : List (Nd w0 Pp), q2.map (·.1.2.2) <+: preT t ∧ Jx (pre ++ (q ++ q2)) W3) := by
          intro v1 w1 hown hg
          have hg0 : wr.grownBy w1 none := World.grownBy.trans (World.grownBy.trans (World.grownBy_alloc wr _ none) (World.grownBy_alloc _ _ none)) (undrew hg)
          have hk1 : KpN w0.heap.size B wr w1 := KpN.of_grown hg0 hBq.size
          have hW1 := hkq.trans hk1
          refine (callsIn_wide.1 (ih t 0 v1 _ (ps ++ [.int .i64 j]) (pre ++ q) w1 hkt (fun u hu => hPp u (pre_mem hjn ht hu)) hNt (hB.trans hW1.1) (hJG _ _ _ hJq hg0) (by rw [List.length_append]; rw [hql] at hlen; omega) (by simp only [List.length_append, List.length_cons, List.length_nil]; omega) (by rw [List.length_append, List.length_cons, List.length_nil]; exact own_weaken hown (by show B ≤ (((wr.alloc (.cells #[.int .i64 t.f0, .bool t.f1, .int .u64 t.f2, .string t.f3, .slice A4 t.f4.length c4] 44)).alloc (.cells #[.int .i64 j] 3))).heap.size; simp only [World.size_alloc]; have := hkq.1.size; have := blk_lt (hkq.2 _ _ _ _ gd hdn); omega)) (hW1.2 _ _ _ _ gy hy) (hW1.2 _ _ _ _ gd hdn) gy gd)).mono ?_
          rintro e W3 (⟨rfl, ⟨q3, h3, hJ3⟩, hk3⟩ | ⟨rfl, q3, h3, hx3⟩)
          · exact ⟨true, rfl, fun _ => ⟨q3, h3, by rw [← List.append_assoc]; exact hJ3, hW1.trans hk3⟩, (fun h => (by cases h))⟩
          · exact ⟨false, rfl, (fun h => (by cases h)), fun _ => ⟨q3, h3, by rw [← List.append_assoc]; exact hx3⟩⟩
        gi_upto_region 6 with (fail)
        have hBd := blk_lt (hkq.2 _ _ _ _ gd hdn)
        have hnw : ∀ o, ((wr.alloc (.cells #[.int .i64 t.f0, .bool t.f1, .int .u64 t.f2, .string t.f3, .slice A4 t.f4.length c4] 44)).alloc o).heap[wr.heap.size + 1]? = some o := fun o => by have h_ := heap_alloc_new (wr.alloc (.cells #[.int .i64 t.f0, .bool t.f1, .int .u64 t.f2, .string t.f3, .slice A4 t.f4.length c4] 44)) o; rwa [World.size_alloc] at h_
        have hall : ∀ w' : World, w'.heap[Bd]? = some (.cells #[.func (.func 50) #[] #[.pointer (some ⟨By, 0, none⟩), .pointer (some ⟨Bd, 0, none⟩)]] 82 (0, 0)) → w'.heap[wr.heap.size]? = some (.cells #[.int .i64 t.f0, .bool t.f1, .int .u64 t.f2, .string t.f3, .slice A4 t.f4.length c4] 44) → w'.cell? ⟨Bd, 0, none⟩ = some (.func (.func 50) #[] #[.pointer (some ⟨By, 0, none⟩), .pointer (some ⟨Bd, 0, none⟩)]) ∧ w'.cell? ⟨wr.heap.size, 0, none⟩ = some (.int .i64 t.f0) ∧ w'.cell? ⟨wr.heap.size, 1, none⟩ = some (.bool t.f1) ∧ w'.cell? ⟨wr.heap.size, 2, none⟩ = some (.int .u64 t.f2) ∧ w'.cell? ⟨wr.heap.size, 3, none⟩ = some (.string t.f3) ∧ w'.cell? ⟨wr.heap.size, 4, none⟩ = some (.slice A4 t.f4.length c4) := fun w' h0 h1 => ⟨(blk_cell h0 0).trans rfl, (blk_cell h1 0).trans rfl, (blk_cell h1 1).trans rfl, (blk_cell h1 2).trans rfl, (blk_cell h1 3).trans rfl, (blk_cell h1 4).trans rfl⟩
        have bd0 := hkq.2 _ _ _ _ gd hdn
        have bd1 := blk_alloc bd0 (.cells #[.int .i64 t.f0, .bool t.f1, .int .u64 t.f2, .string t.f3, .slice A4 t.f4.length c4] 44)
        have bd2 := blk_alloc bd1 (.cells #[.int .i64 j] 3)
        have bx1 := heap_alloc_new wr (.cells #[.int .i64 t.f0, .bool t.f1, .int .u64 t.f2, .string t.f3, .slice A4 t.f4.length c4] 44)
        have bx2 := blk_alloc bx1 (.cells #[.int .i64 j] 3)
        have hall2 : ∀ w1 : World, (((wr.alloc (.cells #[.int .i64 t.f0, .bool t.f1, .int .u64 t.f2, .string t.f3, .slice A4 t.f4.length c4] 44)).alloc (.cells #[.int .i64 j] 3))).drew.grownBy w1 none → w1.cell? ⟨Bd, 0, none⟩ = some (.func (.func 50) #[] #[.pointer (some ⟨By, 0, none⟩), .pointer (some ⟨Bd, 0, none⟩)]) ∧ w1.cell? ⟨wr.heap.size, 0, none⟩ = some (.int .i64 t.f0) ∧ w1.cell? ⟨wr.heap.size, 1, none⟩ = some (.bool t.f1) ∧ w1.cell? ⟨wr.heap.size, 2, none⟩ = some (.int .u64 t.f2) ∧ w1.cell? ⟨wr.heap.size, 3, none⟩ = some (.string t.f3) ∧ w1.cell? ⟨wr.heap.size, 4, none⟩ = some (.slice A4 t.f4.length c4) := fun w1 hg => hall w1 (blk_grown (w := (((wr.alloc (.cells #[.int .i64 t.f0, .bool t.f1, .int .u64 t.f2, .string t.f3, .slice A4 t.f4.length c4] 44)).alloc (.cells #[.int .i64 j] 3))).drew) bd2 hg (by simp)) (blk_grown (w := (((wr.alloc (.cells #[.int .i64 t.f0, .bool t.f1, .int .u64 t.f2, .string t.f3, .slice A4 t.f4.length c4] 44)).alloc (.cells #[.int .i64 j] 3))).drew) bx2 hg (by simp))
        obtain ⟨k10, k11, k12, k13, k14, k15⟩ := hall _ bd1 bx1
        obtain ⟨k20, k21, k22, k23, k24, k25⟩ := hall _ bd2 bx2
        clear bd0 bd1 bd2 bx1 bx2 hall
        refine wpIn_wide.2 ?_
        rcases hpr with ⟨rfl, rfl, rfl⟩ | ⟨gp, rfl, hgp, hcp, cs, hcs, htk⟩
        case' inl =>
          go_region_law (first | (refine step_append_nil rfl _ _ _ 3 (.int .i64 0) 1 8 (by rfl) Try.underlying49 info3 rfl (by decide) ⟨wr.heap.size + 1, 0, none⟩ [.int .i64 j] (by rfl) (by rfl) rfl (World.news_of_block (cs := #[.int .i64 j]) (t := 3) (fr := (0, 0)) (hnw _)) (by simp [Value.oneCell']) (by decide) ?_; intro v1 w1 hown1 hg1; obtain ⟨k30, k31, k32, k33, k34, k35⟩ := hall2 _ hg1) | (go_simp; go_at_call 50; refine (hcall _ _ hown1 hg1).mono ?_; rintro e W3 ⟨b, rfl, hb⟩; dsimp only))
        case' inr =>
          have gq := hkq.2 _ _ _ _ hgp hcs
          go_region_law (first | (refine step_append_cut rfl _ _ _ 3 (.int .i64 0) 1 8 (by rfl) Try.underlying49 info3 rfl (by decide) ⟨gp, 0, none⟩ ⟨wr.heap.size + 1, 0, none⟩ ps.length ps [.int .i64 j] (by rfl) (by rfl) (by simp) (path_cells (blk_alloc (blk_alloc gq _) _) htk) rfl (World.news_of_block (cs := #[.int .i64 j]) (t := 3) (fr := (0, 0)) (hnw _)) hb1 hb2 ?_; intro v1 w1 hown1 hg1; obtain ⟨k30, k31, k32, k33, k34, k35⟩ := hall2 _ hg1) | (go_simp; go_at_call 50; refine (hcall _ _ hown1 hg1).mono ?_; rintro e W3 ⟨b, rfl, hb⟩; dsimp only))
        all_goals
          cases b
          · obtain ⟨q2, hq2, hx3⟩ := hb.2 rfl
            gi_wp2
            exact bodyPost_ret (results_tmp Try.results50 _ _ _) rfl (.inr ⟨rfl, q ++ q2, by rw [List.map_append]; exact pre_part hjn ht hq hq2, hx3⟩)
          · obtain ⟨q2, hq2, hJ3, hk3⟩ := hb.1 rfl
            gi_wp2
            gi_roundg d
            case rel => exact ⟨j + 1, q ++ q2, by first | exact congrArg (Value.int .i64) (wrap_j hjn hbig) | exact congrArg (Value.int .i64) (show (j : Int) + 1 = ((j + 1 : Nat) : Int) by omega), by omega, by rw [List.map_append]; exact pre_next hjn ht hq hq2, by rw [List.length_append]; omega, hJ3, hk3⟩
            case measure => omega
  · refine bodyPost_ret (results_tmp Try.results50 _ _ _) rfl (.inr ⟨rfl, [xe], ?_, hx2⟩)
    rw [preT_eq, List.map_cons, List.map_nil, hxs]
    exact ⟨preL x.f4, rfl⟩
end Go.Proofs.Ytfcfnnkepjoncaa.Hand
