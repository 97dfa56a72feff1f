import Derived.Test.YtfcfnnkepjoncaaHand9
import Derived.RangeFuncFrom
import Derived.Laws.EntriesVeiled
namespace Go.Proofs.Ytfcfnnkepjoncaa.Hand
open Go.RowKit Go.Shelf Go.Proofs.YtfcfnnkepjoncaaW.PrintWords Go.Proofs.YtfcfnnkepjoncaaW.PrintLast Go.Proofs.YtfcfnnkepjoncaaW.PrintMore Go.Proofs.Ytfcfnnkepjoncaa.PC
attribute [local go_sem] Oper.semAt_some
set_option linter.unusedVariables false
set_option linter.unusedSimpArgs false

set_option maxRecDepth 100000 in
set_option maxHeartbeats 4000000 in
theorem each1_in (w0 : World) (Pp : S44 → Prop) (n l Bv B N : Nat) (hNb : N ≤ 1099511627776) (J Jx : List (Nd w0 Pp) → World → Prop)
    (hB0 : w0.heap.size ≤ B) (hJG : ∀ (s : List (Nd w0 Pp)) (A A' : World), J s A → A.grownBy A' none → J s A')
    (hY : ∀ m pre x W, J pre W → pre.length < N → YieldAt Fence.wide m Try.prog l (encN x) W fun e W' =>
      (e = .returned (.bool true) ∧ J (pre ++ [x]) W' ∧ KpN w0.heap.size B W W') ∨ (e = .returned (.bool false) ∧ Jx (pre ++ [x]) W'))
    (x : S44) (A : Option Addr) (c : Nat) (hc : x.f4.length ≤ c) (hC : Kd.C k44 w0 A x.f4.length x.f4) (hN : (preT x).length ≤ N) (hPp : ∀ t ∈ preT x, Pp t) (W : World) (hBW : Below w0.heap.size w0 W) (hBle : B ≤ W.heap.size)
    (hv : W.heap[Bv]? = some (.cells #[.int .i64 x.f0, .bool x.f1, .int .u64 x.f2, .string x.f3, .slice A x.f4.length c] 44 (0, 0))) (h0 : J [] W) :
    CallsIn Fence.wide n Try.prog 49 #[.func (.yield l) #[] #[], .pointer (some ⟨Bv, 0, none⟩)] W fun e W' => (∃ v, e = .returned v) ∧
      ((∃ ys : List (Nd w0 Pp), ys.map (·.1.2.2) = preT x ∧ J ys W') ∨ (∃ pre : List (Nd w0 Pp), pre.map (·.1.2.2) <+: preT x ∧ Jx pre W')) := by
  have hdd : ∀ k : Nat, (Fence.wide.depth.isSome = true → 1 ≤ k) := fun k h => by cases h
  have c0 : W.cell? ⟨Bv, 0, none⟩ = _ := (blk_cell hv 0).trans rfl
  have c1 : W.cell? ⟨Bv, 1, none⟩ = _ := (blk_cell hv 1).trans rfl
  have c2 : W.cell? ⟨Bv, 2, none⟩ = _ := (blk_cell hv 2).trans rfl
  have c3 : W.cell? ⟨Bv, 3, none⟩ = _ := (blk_cell hv 3).trans rfl
  have c4 : W.cell? ⟨Bv, 4, none⟩ = _ := (blk_cell hv 4).trans rfl
  have n0 := World.new_ne W _ c0
  have n1 := World.new_ne W _ c1
  have n2 := World.new_ne W _ c2
  have n3 := World.new_ne W _ c3
  have n4 := World.new_ne W _ c4
  have hlt := blk_lt hv
  have hX : ∀ o o' : Obj, ((W.alloc o).alloc o').heap[W.heap.size + 1]? = some o' := fun o o' => by have h_ := heap_alloc_new (W.alloc o) o'; rwa [World.size_alloc] at h_
  have cn : ((W.alloc (.cells #[.func (.yield l) #[] #[]] 82)).alloc (.cells #[.nilFunc] 82)).cell? ⟨W.heap.size + 1, 0, none⟩ = some .nilFunc := (blk_cell (hX _ _) 0).trans rfl
  have fn_ : ((W.alloc (.cells #[.func (.yield l) #[] #[]] 82)).alloc (.cells #[.nilFunc] 82)).frozen? ⟨W.heap.size + 1, 0, none⟩ = false := blk_frozen (hX _ _) 0
  have hne1 : Bv ≠ W.heap.size + 1 := by omega
  have hne2 : W.heap.size + 1 ≠ Bv := by omega
  refine callsIn_of_wp Try.func49 rfl trivial ?_ rfl
  simp only [Try.ntmps49, List.size_toArray, List.length_cons, List.length_nil, Nat.reduceAdd, Nat.reduceSub, Array.replicate_succ, Array.replicate_zero, List.push_toArray, List.append_toArray, List.nil_append, List.cons_append]
  have hne3 : W.heap.size ≠ W.heap.size + 1 := by omega
  have hg1 : W.grownBy (W.alloc (.cells #[.func (.yield l) #[] #[]] 82)) none := World.grownBy_alloc W _ none
  have hyb := blk_alloc (heap_alloc_new W (.cells #[.func (.yield l) #[] #[]] 82)) (.cells #[.func (.func 50) #[] #[.pointer (some ⟨W.heap.size, 0, none⟩), .pointer (some ⟨W.heap.size + 1, 0, none⟩)]] 82)
  have hdb := hX (.cells #[.func (.yield l) #[] #[]] 82) (.cells #[.func (.func 50) #[] #[.pointer (some ⟨W.heap.size, 0, none⟩), .pointer (some ⟨W.heap.size + 1, 0, none⟩)]] 82)
  have hgg := World.grownBy.trans hg1 (World.grownBy_alloc (W.alloc (.cells #[.func (.yield l) #[] #[]] 82)) (.cells #[.func (.func 50) #[] #[.pointer (some ⟨W.heap.size, 0, none⟩), .pointer (some ⟨W.heap.size + 1, 0, none⟩)]] 82) none)
  have hBB := hBW.grown hgg hBW.size (fun k e => by cases e)
  have hD := down_in w0 Pp l B N W.heap.size (W.heap.size + 1) hNb J Jx hB0 hJG hY (preT x).length x (n - 1) (.slice none 0 0) _ [] [] _ (Nat.le_refl _) hPp ⟨A, c, rfl, hc, hC⟩ hBB (hJG _ _ _ h0 hgg) (by simpa using hN) (Nat.le_refl _) (World.ownsRow_nil _ _ _ _) hyb hdb hBle (by omega)
  clear hyb hdb hgg hBB hg1 hY hJG
  gi_wp2_with (refine ⟨trivial, hdd _, ?_⟩; gi_at_call 50; refine hD.mono ?_; clear hD; rintro e W3 (⟨rfl, ⟨q, hq, hJq⟩, hk⟩ | ⟨rfl, q, hq, hx⟩))
  · go_end0
    exact ⟨⟨_, rfl⟩, .inl ⟨q, hq, by simpa using hJq⟩⟩
  · go_end0
    exact ⟨⟨_, rfl⟩, .inr ⟨q, hq, by simpa using hx⟩⟩

/-- the iterator value of value.each: all of a tree's values, in order; or the first of them. -/
theorem each_stops (w0 : World) (Pp : S44 → Prop) (n Bv B : Nat) (x : S44) (A : Option Addr) (c : Nat) (hNb : (preT x).length ≤ 1099511627776) (hPp : ∀ t ∈ preT x, Pp t) (hc : x.f4.length ≤ c) (hC : Kd.C k44 w0 A x.f4.length x.f4) (w : World)
    (hB0 : w0.heap.size ≤ B) (hBw : Below w0.heap.size w0 w) (hBle : B ≤ w.heap.size) (hv : w.heap[Bv]? = some (.cells #[.int .i64 x.f0, .bool x.f1, .int .u64 x.f2, .string x.f3, .slice A x.f4.length c] 44 (0, 0))) :
    SeqStopsK Fence.wide n Try.prog 49 #[.pointer (some ⟨Bv, 0, none⟩)] (encN (w := w0) (Pp := Pp)) (KpN w0.heap.size B) (fun ys => ys.map (·.1.2.2) = preT x) (fun pre => pre.map (·.1.2.2) <+: preT x) (preT x).length w := fun l J Jx W hW hJ _ hY h0 =>
  (each1_in w0 Pp n l Bv B (preT x).length hNb J Jx hB0 (fun s A A' hs hg => hJ s A A' none hs hg (fun r e => by cases e)) (fun m pre x W hj hl => YieldAt_anyDepth rfl m (hY pre x W hj hl)) x A c hc hC (Nat.le_refl _) hPp W (hBw.trans (hW.mono hBw.size)) (Nat.le_trans hBle hW.size) (blk_below hv hW) h0)

set_option maxHeartbeats 4000000 in
/-- value.each -/
theorem each_in (n : Nat) (x : S44) (A : Option Addr) (c : Nat) (w : World) :
    CallsIn Fence.wide n Try.prog 39 #[.agg #[.int .i64 x.f0, .bool x.f1, .int .u64 x.f2, .string x.f3, .slice A x.f4.length c]] w fun e w' => e = .returned (.func (.func 49) #[] #[.pointer (some ⟨w.heap.size, 0, none⟩)]) ∧ w' = w.alloc (.cells #[.int .i64 x.f0, .bool x.f1, .int .u64 x.f2, .string x.f3, .slice A x.f4.length c] 44) := by
  refine callsIn_of_wp Try.func39 rfl trivial ?_ rfl
  simp only [Try.ntmps39, List.size_toArray, List.length_cons, List.length_nil, Nat.reduceAdd, Nat.reduceSub, Array.replicate_succ, Array.replicate_zero, List.push_toArray, List.append_toArray, List.nil_append, List.cons_append]
  gi_wp2
  go_ret
  exact ⟨rfl, rfl⟩
end Go.Proofs.Ytfcfnnkepjoncaa.Hand
