/- fits.each: the iterator over a tree with a stack of its own, by the law of Hand15. -/
import Derived.Test.YtfcfnnkepjoncaaHand15
import Derived.WalkSmall
namespace Go.Proofs.Ytfcfnnkepjoncaa.Hand
open Go.RowKit Go.Shelf Go.Proofs.YtfcfnnkepjoncaaW.PrintWords Go.Proofs.YtfcfnnkepjoncaaW.PrintLast Go.Proofs.YtfcfnnkepjoncaaW.PrintMore Go.Proofs.Ytfcfnnkepjoncaa.PC
attribute [local go_sem] Oper.semAt_some
attribute [local go_sem ↓] Go.wp_at_zero Go.wp_at_succ
set_option linter.unusedVariables false
set_option linter.unusedSimpArgs false

/-- a value that waits, its slice at an address; its path; is it a key? -/
structure Spot where
  t : S44
  A : Option Addr
  c : Nat
  p : Value
  ps : List Int
  key : Bool
def Spot.cells (s : Spot) : List Value := [.int .i64 s.t.f0, .bool s.t.f1, .int .u64 s.t.f2, .string s.t.f3, .slice s.A s.t.f4.length s.c, s.p, .bool s.key]
/-- the stack's row: its head lies last -/
def rowOf (st : List Spot) : List Value := st.reverse.flatMap Spot.cells
theorem rowOf_cons (s : Spot) (st : List Spot) : rowOf (s :: st) = rowOf st ++ s.cells := by simp [rowOf]
theorem rowOf_len (st : List Spot) : (rowOf st).length = st.length * 7 := by
  induction st with
  | nil => rfl
  | cons s st ih => rw [rowOf_cons, List.length_append, ih, List.length_cons]; simp [Spot.cells]; omega
mutual
/-- a tree's values, each ahead of those within it, with its path, and whether it is a key -/
def preS : S44 → List Int → Bool → List (S44 × List Int × Bool)
  | ⟨a, b, c, d, l⟩, ps, key => (⟨a, b, c, d, l⟩, ps, key) :: preSL (a == 12) l ps 0
def preSL : Bool → List S44 → List Int → Nat → List (S44 × List Int × Bool)
  | _, [], _, _ => []
  | m, t :: ts, ps, i => preS t (ps ++ [(i : Int)]) (m && i % 2 == 0) ++ preSL m ts ps (i + 1)
end
def Spot.desc (s : Spot) : S44 × List Int × Bool := (s.t, s.ps, s.key)
def Spot.pre (s : Spot) : List (S44 × List Int × Bool) := preS s.t s.ps s.key
def stackPre (st : List Spot) : List (S44 × List Int × Bool) := st.flatMap Spot.pre
mutual
theorem preS_fst : ∀ (t : S44) (ps : List Int) (k : Bool), (preS t ps k).map (·.1) = preT t
  | ⟨a, b, c, d, l⟩, ps, k => by rw [preS, preT, List.map_cons, preSL_fst]
theorem preSL_fst : ∀ (m : Bool) (l : List S44) (ps : List Int) (i : Nat), (preSL m l ps i).map (·.1) = preL l
  | _, [], _, _ => by rw [preSL, preL]; rfl
  | m, t :: ts, ps, i => by rw [preSL, preL, List.map_append, preS_fst, preSL_fst]
end
theorem Spot.pre_eq (s : Spot) : s.pre = s.desc :: preSL (s.t.f0 == 12) s.t.f4 s.ps 0 := by
  obtain ⟨⟨a, b, c, d, l⟩, A, c', p, ps, k⟩ := s
  simp only [Spot.pre, Spot.desc]; rw [preS]
theorem Spot.pre_pos (s : Spot) : 1 ≤ s.pre.length := by rw [s.pre_eq]; simp
theorem stack_len (st : List Spot) : st.length ≤ (stackPre st).length := by
  induction st with
  | nil => simp
  | cons s st ih =>
    have h_ := s.pre_pos
    show st.length + 1 ≤ (s.pre ++ stackPre st).length
    rw [List.length_append]; omega
/-- what is fixed of a spot: it is a tree of w -/
def Spot.at (w : World) (s : Spot) : Prop := s.t.f4.length ≤ s.c ∧ Kd.C k44 w s.A s.t.f4.length s.t.f4
/-- its path reads -/
def Spot.reads (B : Nat) (s : Spot) (W : World) : Prop := W.ownsRow B 3 1 s.p s.ps.length (s.ps.map (Value.int .i64))
abbrev SpA (w : World) (Pp : S44 → Prop) := { s : Spot // Spot.at w s ∧ Pp s.t }
def encS {w : World} {Pp : S44 → Prop} (x : SpA w Pp) : Array Value := #[.agg x.1.cells.toArray]
/-- what the iterator does to the memory: new blocks, and a row of its own -/
def AbG (b : Nat) (A B : World) : Prop := ∃ row, A.grownBy B row ∧ ∀ r, row = some r → b ≤ r
theorem info79 : (Try.prog.info? 79).map (fun i => (i.zero, i.size, i.bytes)) = some (some (.agg #[.int .i64 0, .bool false, .int .u64 0, .string ByteArray.empty, .slice none 0 0, .slice none 0 0, .bool false]), 7, 96) := by kernel_rfl

theorem own_moved {W W' : World} {base : Nat} {e : TypeId} {size n : Nat} {v : Value} {xs : List Value} (h : W.ownsRow base e size v n xs)
    (k : ∀ g cs, base ≤ g → W.heap[g]? = some (.cells cs e (0, 0)) → W'.heap[g]? = some (.cells cs e (0, 0))) : W'.ownsRow base e size v n xs := by
  obtain ⟨h1, h2 | ⟨g, cap, cur, hv, hg, hh, r⟩⟩ := h
  · exact ⟨h1, .inl h2⟩
  · exact ⟨h1, .inr ⟨g, cap, cur, hv, hg, k g cur hg hh, r⟩⟩
theorem Spot.reads_kp {B n : Nat} {s : Spot} {W W' : World} (h : s.reads B W) (k : KpN n B W W') : s.reads B W' := own_moved h (fun g cs hg hh => k.2 g cs 3 (0, 0) hg hh)
theorem Spot.reads_none {B : Nat} {s : Spot} {W W' : World} (h : s.reads B W) (k : W.grownBy W' none) : s.reads B W' := own_moved h (fun g cs hg hh => blk_grown hh k (by simp))
/-- what holds between two rounds of the iterator -/
def FeO (w0 : World) (Pp : S44 → Prop) (B : Nat) (J : List (SpA w0 Pp) → World → Prop) (W : World) (all : List (S44 × List Int × Bool)) (kq : Nat) (v3 : Value) (wr : World) : Prop :=
  ∃ (st : List Spot) (q : List (SpA w0 Pp)), kq = (stackPre st).length ∧ q.map (·.1.desc) ++ stackPre st = all ∧ (∀ s ∈ st, s.at w0 ∧ s.reads B wr ∧ (∀ u ∈ preT s.t, Pp u) ∧ s.ps.length ≤ q.length) ∧
    wr.ownsRow W.heap.size 79 7 v3 st.length (rowOf st) ∧ J q wr ∧ Below w0.heap.size w0 wr ∧ W.heap.size ≤ wr.heap.size
theorem nil_own {W : World} {base : Nat} {e : TypeId} {size : Nat} {v : Value} {xs : List Value} (h : W.ownsRow base e size v 0 xs) : ∃ A c, v = .slice A 0 c := by
  rcases h.2 with ⟨rfl, _⟩ | ⟨g, cap, _, rfl, _⟩
  · exact ⟨_, _, rfl⟩
  · exact ⟨_, _, rfl⟩
theorem row_cell {W : World} {base g n cap : Nat} {e : TypeId} {size : Nat} {xs ys : List Value} (h : W.ownsRow base e size (.slice (some ⟨g, 0, none⟩) (n + 1) cap) (n + 1) (xs ++ ys)) (hx : xs.length = n * size) (j : Nat) (u : Value) (hj : ys[j]? = some u) :
    W.cell? ⟨g, n * size + j, none⟩ = some u := by
  obtain ⟨h1, ⟨h0, _⟩ | ⟨g', cap', cur, hv, hg, hh, hn, hc, hs, ht⟩⟩ := h
  · cases h0
  · cases hv
    rw [blk_cell hh]
    have h3 : (cur.toList.take ((n + 1) * size))[n * size + j]? = some u := by
      rw [ht, List.getElem?_append_right (by omega), hx]
      simpa using hj
    rw [List.getElem?_take] at h3
    split at h3
    · simpa using h3
    · cases h3

theorem own_cap {W : World} {base : Nat} {e : TypeId} {size g n cap : Nat} {xs : List Value} (h : W.ownsRow base e size (.slice (some ⟨g, 0, none⟩) n cap) n xs) : n ≤ cap ∧ base ≤ g ∧ ∃ cur, W.heap[g]? = some (.cells cur e (0, 0)) := by
  obtain ⟨_, ⟨h0, _⟩ | ⟨g', cap', cur, hv, hg, hh, hn, hc, hs, ht⟩⟩ := h
  · cases h0
  · cases hv; exact ⟨hn, hg, cur, hh⟩
theorem own_block {W : World} {base : Nat} {e : TypeId} {size n : Nat} {v : Value} {xs : List Value} (h : W.ownsRow base e size v n xs) : ∀ r, v.ownBlock = some r → base ≤ r ∧ ∃ cs, W.heap[r]? = some (.cells cs e (0, 0)) := by
  intro r hr
  obtain ⟨_, ⟨rfl, _⟩ | ⟨g, cap, cur, rfl, hg, hh, _⟩⟩ := h
  · cases hr
  · cases hr; exact ⟨hg, cur, hh⟩
theorem key_bit (m : Nat) : ((m : Int) % 2 == 0) = (m % 2 == 0) := by
  rw [Bool.eq_iff_iff]; simp only [beq_iff_eq]; omega
theorem c_alloc {w : World} {a : Addr} {v : Value} (h : w.cell? a = some v) (o : Obj) : (w.alloc o).cell? a = some v := (Below.cell ((Below.refl w.heap.size w).alloc (Nat.le_refl _) o) (p := a) (World.block_lt_of_cell? _ _ h)).trans h
theorem c_grown {w w1 : World} {row : Option Nat} {a : Addr} {v : Value} (h : w.cell? a = some v) (hg : w.grownBy w1 row) (hne : some a.block ≠ row) : w1.cell? a = some v := (hg.cell_far a (World.block_lt_of_cell? _ _ h) hne).trans h
theorem path_cs {W : World} {B g n cp : Nat} {ps : List Int} (h : W.ownsRow B 3 1 (.slice (some ⟨g, 0, none⟩) n cp) n (ps.map (Value.int .i64))) : ∃ cs, W.heap[g]? = some (.cells cs 3 (0, 0)) ∧ cs.toList.take n = ps.map (Value.int .i64) := by
  obtain ⟨h1, ⟨h0, _⟩ | ⟨g', cap, cur, hv, hg, hh, _, _, _, ht⟩⟩ := h
  · cases h0
  · cases hv; exact ⟨cur, hh, by simpa using ht⟩
theorem path_cells2 {W : World} {g : Nat} {cs : Array Value} {ps : List Value} {n : Nat} (h : W.heap[g]? = some (.cells cs 3 (0, 0))) (ht : cs.toList.take n = ps) : ∀ j u, ps[j]? = some u → W.cell? ((⟨g, 0, none⟩ : Addr).add j) = some u := by
  intro j u hu
  refine path_cells (ps := ps) h ?_ j u hu
  rw [← ht, List.length_take]
  by_cases h_ : n ≤ cs.toList.length
  · rw [Nat.min_eq_left h_]
  · rw [Nat.min_eq_right (by omega), List.take_of_length_le (Nat.le_refl _), List.take_of_length_le (by omega)]
/-- what holds between two rounds of the inner loop: m values within are still to be laid on the stack -/
def FeI (w0 : World) (Pp : S44 → Prop) (B : Nat) (J : List (SpA w0 Pp) → World → Prop) (W : World) (x : S44) (psx : List Int) (px : Value) (st : List Spot) (q : List (SpA w0 Pp)) (Bx : Nat) (bx : Obj) (m : Nat) (v3 v5 : Value) (wi : World) : Prop :=
  ∃ (kl : List Spot), v5 = .int .i64 ((m : Int) - 1) ∧ kl.length + m = x.f4.length ∧ stackPre kl = preSL (x.f0 == 12) (x.f4.drop m) psx m ∧ (∀ s ∈ kl ++ st, s.at w0 ∧ s.reads B wi ∧ (∀ u ∈ preT s.t, Pp u) ∧ s.ps.length ≤ q.length) ∧
    wi.ownsRow W.heap.size 79 7 v3 (kl ++ st).length (rowOf (kl ++ st)) ∧ J q wi ∧ Below w0.heap.size w0 wi ∧ W.heap.size ≤ wi.heap.size ∧ wi.heap[Bx]? = some bx ∧ wi.ownsRow B 3 1 px psx.length (psx.map (Value.int .i64)) ∧ v3.ownBlock ≠ some Bx
theorem drop_pre {m : Nat} {l : List S44} {b : Bool} {ps : List Int} {u : S44} (hm : m < l.length) (hu : rd_T44 l (m : Int) = u) : preSL b (l.drop m) ps m = preS u (ps ++ [(m : Int)]) (b && m % 2 == 0) ++ preSL b (l.drop (m + 1)) ps (m + 1) := by
  rw [List.drop_eq_getElem_cons hm, preSL]
  have h_ : l[m] = u := by rw [← hu]; unfold rd_T44; simp [List.getD_eq_getElem?_getD, List.getElem?_eq_getElem hm]
  rw [h_]
theorem fe_next {w0 : World} {Pp : S44 → Prop} {B : Nat} {J : List (SpA w0 Pp) → World → Prop} {W : World} {x : S44} {psx : List Int} {px : Value} {st : List Spot} {q : List (SpA w0 Pp)} {Bx : Nat} {bx : Obj} {m : Nat} {u3 v5 : Value} {wr w1 w2 : World} {kl : List Spot} {u : S44} {A4 : Option Addr} {c4 gp1 cp1 gg cap2 b1 : Nat} {k : Bool} {o : Obj}
    (hJG : ∀ (s : List (SpA w0 Pp)) (A A' : World), J s A → AbG W.heap.size A A' → J s A') (hBle : B ≤ W.heap.size) (hB0 : w0.heap.size ≤ B) (hpq : psx.length + 1 ≤ q.length)
    (hkl : kl.length + (m + 1) = x.f4.length) (hks : stackPre kl = preSL (x.f0 == 12) (x.f4.drop (m + 1)) psx (m + 1)) (hkst : ∀ s ∈ kl ++ st, s.at w0 ∧ s.reads B wr ∧ (∀ v ∈ preT s.t, Pp v) ∧ s.ps.length ≤ q.length)
    (hko : wr.ownsRow W.heap.size 79 7 u3 (kl ++ st).length (rowOf (kl ++ st))) (hkJ : J q wr) (hkB : Below w0.heap.size w0 wr) (hksz : W.heap.size ≤ wr.heap.size) (hkbx : wr.heap[Bx]? = some bx) (hkp : wr.ownsRow B 3 1 px psx.length (psx.map (Value.int .i64))) (hkne : u3.ownBlock ≠ some Bx)
    (hg : wr.grownBy w1 none) (hown1 : w1.ownsRow b1 3 1 (.slice (some ⟨gp1, 0, none⟩) (psx.length + 1) cp1) (psx.length + 1) (psx.map (Value.int .i64) ++ [.int .i64 m])) (hb1 : B ≤ b1)
    (hown2 : w2.ownsRow W.heap.size 79 7 (.slice (some ⟨gg, 0, none⟩) ((kl ++ st).length + 1) cap2) ((kl ++ st).length + 1) (rowOf (kl ++ st) ++ [.int .i64 u.f0, .bool u.f1, .int .u64 u.f2, .string u.f3, .slice A4 u.f4.length c4, .slice (some ⟨gp1, 0, none⟩) (psx.length + 1) cp1, .bool k]))
    (hgrow : (w1.alloc o).grownBy w2 u3.ownBlock) (hat : u3.ownBlock = some gg ∨ gg = w1.heap.size + 1)
    (hu : rd_T44 x.f4 (m : Int) = u) (hm : m < x.f4.length) (hl4 : u.f4.length ≤ c4) (hC4 : Kd.C k44 w0 A4 u.f4.length u.f4) (hP : ∀ v ∈ preT u, Pp v) (hk : k = (x.f0 == 12 && m % 2 == 0)) (hv5 : v5 = .int .i64 ((m : Int) - 1)) :
    FeI w0 Pp B J W x psx px st q Bx bx m (.slice (some ⟨gg, 0, none⟩) ((kl ++ st).length + 1) cap2) v5 w2 := by
  have hmv : ∀ g ob, w1.heap[g]? = some ob → u3.ownBlock ≠ some g → w2.heap[g]? = some ob := fun g ob hh hne => blk_grown (blk_alloc hh o) hgrow (Ne.symm hne)
  have hmr : ∀ g ob, wr.heap[g]? = some ob → u3.ownBlock ≠ some g → w2.heap[g]? = some ob := fun g ob hh hne => hmv g ob (blk_grown hh hg (by simp)) hne
  have h79 : ∀ g cs, wr.heap[g]? = some (.cells cs 3 (0, 0)) → u3.ownBlock ≠ some g := fun g cs hh e => by
    obtain ⟨_, cs', h'⟩ := own_block hko g e
    rw [hh] at h'; cases h'
  have h79' : ∀ g cs, w1.heap[g]? = some (.cells cs 3 (0, 0)) → u3.ownBlock ≠ some g := fun g cs hh e => by
    obtain ⟨_, cs', h'⟩ := own_block hko g e
    have h2 := blk_grown h' hg (by simp)
    rw [hh] at h2; cases h2
  refine ⟨⟨u, A4, c4, .slice (some ⟨gp1, 0, none⟩) (psx.length + 1) cp1, psx ++ [(m : Int)], k⟩ :: kl, hv5, by simp only [List.length_cons]; omega, ?_, ?_, ?_, ?_, ?_, ?_, hmr _ _ hkbx hkne, ?_, ?_⟩
  · show preS u (psx ++ [(m : Int)]) k ++ stackPre kl = _
    rw [hks, drop_pre hm hu, hk]
  · intro s hs
    rcases List.mem_cons.1 (by simpa using hs : s ∈ _ :: (kl ++ st)) with rfl | hs
    · refine ⟨⟨hl4, hC4⟩, ?_, hP, by simpa using hpq⟩
      have h1 := own_weaken (own_moved (W' := w2) hown1 (fun g cs hg' hh => hmv g _ hh (h79' g cs hh))) hb1
      unfold Spot.reads
      simpa using h1
    · obtain ⟨h1, h2, h3, h4⟩ := hkst s hs
      exact ⟨h1, own_moved h2 (fun g cs hg' hh => hmr g _ hh (h79 g cs hh)), h3, h4⟩
  · have h_ : rowOf (⟨u, A4, c4, .slice (some ⟨gp1, 0, none⟩) (psx.length + 1) cp1, psx ++ [(m : Int)], k⟩ :: kl ++ st) = rowOf (kl ++ st) ++ [.int .i64 u.f0, .bool u.f1, .int .u64 u.f2, .string u.f3, .slice A4 u.f4.length c4, .slice (some ⟨gp1, 0, none⟩) (psx.length + 1) cp1, .bool k] := by rw [List.cons_append, rowOf_cons]; rfl
    rw [h_]
    simpa using hown2
  · refine hJG _ _ _ (hJG _ _ _ hkJ ⟨none, World.grownBy.trans hg (World.grownBy_alloc w1 o none), fun r e => by cases e⟩) ⟨_, hgrow, fun r e => (own_block hko r e).1⟩
  · refine (((hkB.trans ((Below.refl _ _).grown hg hkB.size (fun k e => by cases e))).alloc ?_ o)).grown hgrow ?_ (fun k e => by have h_ := (own_block hko k e).1; omega)
    · have h1 := hkB.size; have h2 := hg.size; omega
    · have h1 := hkB.size; have h2 := hg.size; rw [World.size_alloc]; omega
  · have h1 := hg.size; have h2 := hgrow.size; rw [World.size_alloc] at h2; omega
  · exact own_moved hkp (fun g cs hg' hh => hmr g _ hh (h79 g cs hh))
  · intro e
    have e' : gg = Bx := by simpa [Value.ownBlock] using e
    rcases hat with h | h
    · rw [e'] at h; exact hkne h
    · have h1 := blk_lt hkbx; have h2 := hg.size; omega


set_option maxRecDepth 100000 in
set_option maxHeartbeats 8000000 in
theorem fe_in (w0 : World) (Pp : S44 → Prop) (n l Bs B N : Nat) (hNb : N ≤ 1099511627776) (J Jx : List (SpA w0 Pp) → World → Prop) (s0 : Spot) (hat : s0.at w0) (hPp : ∀ t ∈ preT s0.t, Pp t)
    (hps : s0.ps = []) (hp : s0.p = .slice none 0 0) (hN : s0.pre.length ≤ N) (W : World) (hB0 : w0.heap.size ≤ B) (hBW : Below w0.heap.size w0 W) (hBle : B ≤ W.heap.size)
    (hJG : ∀ (s : List (SpA w0 Pp)) (A A' : World), J s A → AbG W.heap.size A A' → J s A')
    (hY : ∀ m pre x W, J pre W → x.1.reads B W → pre.length < N → YieldAt Fence.wide m Try.prog l (encS x) W fun e W' =>
      (e = .returned (.bool true) ∧ J (pre ++ [x]) W' ∧ KpN w0.heap.size B W W') ∨ (e = .returned (.bool false) ∧ Jx (pre ++ [x]) W'))
    (hv : W.heap[Bs]? = some (.cells s0.cells.toArray 79 (0, 0))) (h0 : J [] W) :
    CallsIn Fence.wide n Try.prog 54 #[.func (.yield l) #[] #[], .pointer (some ⟨Bs, 0, none⟩)] W fun e W' => (∃ v, e = .returned v) ∧
      ((∃ ys : List (SpA w0 Pp), ys.map (·.1.desc) = s0.pre ∧ J ys W') ∨ (∃ pre : List (SpA w0 Pp), pre.map (·.1.desc) <+: s0.pre ∧ Jx pre W')) := by
  have hdd : ∀ k : Nat, (Fence.wide.depth.isSome = true → 1 ≤ k) := fun k h => by cases h
  obtain ⟨t, A, c, p, ps, key⟩ := s0
  dsimp only at hps hp
  subst hps hp
  have c0 : W.cell? ⟨Bs, 0, none⟩ = some (.int .i64 t.f0) := (blk_cell hv 0).trans rfl
  have c1 : W.cell? ⟨Bs, 1, none⟩ = some (.bool t.f1) := (blk_cell hv 1).trans rfl
  have c2 : W.cell? ⟨Bs, 2, none⟩ = some (.int .u64 t.f2) := (blk_cell hv 2).trans rfl
  have c3 : W.cell? ⟨Bs, 3, none⟩ = some (.string t.f3) := (blk_cell hv 3).trans rfl
  have c4 : W.cell? ⟨Bs, 4, none⟩ = some (.slice A t.f4.length c) := (blk_cell hv 4).trans rfl
  have c5 : W.cell? ⟨Bs, 5, none⟩ = some (.slice none 0 0) := (blk_cell hv 5).trans rfl
  have c6 : W.cell? ⟨Bs, 6, none⟩ = some (.bool key) := (blk_cell hv 6).trans rfl
  refine callsIn_of_wp Try.func54 rfl trivial ?_ rfl
  simp only [Try.ntmps54, List.size_toArray, List.length_cons, List.length_nil, Nat.reduceAdd, Nat.reduceSub, Array.replicate_succ, Array.replicate_zero, List.push_toArray, List.append_toArray, List.nil_append, List.cons_append]
  gi_wp2
  have hstart : FeO w0 Pp B J W (preS t [] key) (stackPre [⟨t, A, c, .slice none 0 0, [], key⟩]).length (.slice (some ⟨W.heap.size, 0, none⟩) 1 1) (W.alloc (.cells #[.int .i64 t.f0, .bool t.f1, .int .u64 t.f2, .string t.f3, .slice A t.f4.length c, .slice none 0 0, .bool key] 79)) := by
    refine ⟨[⟨t, A, c, .slice none 0 0, [], key⟩], [], rfl, by simp [stackPre, Spot.pre], ?_, ?_, ?_, ?_, by simp⟩
    · intro s hs
      obtain rfl := List.mem_singleton.1 hs
      exact ⟨hat, World.ownsRow_nil _ _ _ _, hPp, Nat.le_refl _⟩
    · exact ⟨rowOf_len _, .inr ⟨W.heap.size, 1, _, rfl, Nat.le_refl _, heap_alloc_new W _, by simp, by decide, rfl, rfl⟩⟩
    · exact hJG _ _ _ h0 ⟨none, World.grownBy_alloc W _ none, fun r e => by cases e⟩
    · exact hBW.alloc hBW.size _
  have hall : (stackPre [(⟨t, A, c, .slice none 0 0, [], key⟩ : Spot)]).length ≤ N := by simpa [stackPre] using hN
  clear c0 c1 c2 c3 c4 c5 c6 hv h0 hN hPp hat
  gi_loopg [3] ((stackPre [(⟨t, A, c, .slice none 0 0, [], key⟩ : Spot)]).length) (FeO w0 Pp B J W (preS t [] key))
  case atStart => exact hstart
  case round =>
    clear hstart
    obtain ⟨st, q, hkq, hq, hst, hown, hJq, hB1, hsz⟩ := hrel
    cases st with
    | nil =>
      obtain ⟨A3, c3, rfl⟩ := nil_own hown
      gi_wp2
      go_end0
      exact ⟨⟨_, rfl⟩, .inl ⟨q, by simpa [stackPre, Spot.pre] using hq, hJq⟩⟩
    | cons s st =>
      obtain ⟨g3, cap3, rfl⟩ := ownsRow_succ hown
      obtain ⟨⟨hsc, hsC⟩, hsr, hsP, hsq⟩ := hst s (by simp)
      have hrest : ∀ s' ∈ st, s'.at w0 ∧ s'.reads B wr ∧ (∀ u ∈ preT s'.t, Pp u) ∧ s'.ps.length ≤ q.length := fun s' h => hst s' (by simp [h])
      clear hst
      have hsl : st.length + 1 ≤ 1099511627776 := by
        have h1_ := congrArg List.length hq
        rw [List.length_append, List.length_map] at h1_
        have h3_ := stack_len (s :: st)
        have h4_ : (preS t [] key).length ≤ N := by simpa [stackPre, Spot.pre] using hall
        rw [List.length_cons] at h3_
        omega
      have hlq : q.length < N := by
        have h1_ := congrArg List.length hq
        rw [List.length_append, List.length_map] at h1_
        have h2_ := s.pre_pos
        have h3_ : (stackPre (s :: st)).length = s.pre.length + (stackPre st).length := by simp [stackPre]
        have h4_ : (preS t [] key).length ≤ N := by simpa [stackPre, Spot.pre] using hall
        omega
      obtain ⟨x, Ax, cx, px, psx, kx⟩ := s
      dsimp only at hsc hsC hsP hsq
      obtain ⟨Ap, cp, rfl, hpr⟩ : ∃ Ap cp, px = .slice Ap psx.length cp ∧ ((Ap = none ∧ psx = [] ∧ cp = 0) ∨ ∃ g, Ap = some ⟨g, 0, none⟩ ∧ B ≤ g ∧ psx.length ≤ cp ∧ ∃ cs, wr.heap[g]? = some (.cells cs 3 (0, 0)) ∧ cs.toList.take psx.length = psx.map (Value.int .i64)) := by
        have hsr' : wr.ownsRow B 3 1 px (psx.map (Value.int .i64)).length (psx.map (Value.int .i64)) := by rw [List.length_map]; exact hsr
        obtain ⟨Ap, cp, h1_, h2_⟩ := path_open hsr'
        rw [List.length_map] at h1_ h2_
        exact ⟨Ap, cp, h1_, h2_.imp (fun h => ⟨h.1, List.map_eq_nil_iff.1 h.2.1, h.2.2⟩) id⟩
      have hrow := hown
      rw [rowOf_cons] at hrow
      have z0 : wr.cell? ⟨g3, st.length * 7, none⟩ = some (.int .i64 x.f0) := row_cell hrow (rowOf_len _) 0 _ rfl
      have z1 : wr.cell? ⟨g3, st.length * 7 + 1, none⟩ = some (.bool x.f1) := row_cell hrow (rowOf_len _) 1 _ rfl
      have z2 : wr.cell? ⟨g3, st.length * 7 + 2, none⟩ = some (.int .u64 x.f2) := row_cell hrow (rowOf_len _) 2 _ rfl
      have z3 : wr.cell? ⟨g3, st.length * 7 + 3, none⟩ = some (.string x.f3) := row_cell hrow (rowOf_len _) 3 _ rfl
      have z4 : wr.cell? ⟨g3, st.length * 7 + 4, none⟩ = some (.slice Ax x.f4.length cx) := row_cell hrow (rowOf_len _) 4 _ rfl
      have z5 : wr.cell? ⟨g3, st.length * 7 + 5, none⟩ = some (.slice Ap psx.length cp) := row_cell hrow (rowOf_len _) 5 _ rfl
      have z6 : wr.cell? ⟨g3, st.length * 7 + 6, none⟩ = some (.bool kx) := row_cell hrow (rowOf_len _) 6 _ rfl
      have hpop := ownsRow_pop (rowOf_len _) hrow
      obtain ⟨bx, hbx⟩ : ∃ bx : Obj, bx = .cells #[.int .i64 x.f0, .bool x.f1, .int .u64 x.f2, .string x.f3, .slice Ax x.f4.length cx, .slice Ap psx.length cp, .bool kx] 79 (0, 0) := ⟨_, rfl⟩
      obtain ⟨xe, hxe, hxs⟩ : ∃ xe : SpA w0 Pp, encS xe = #[.agg #[.int .i64 x.f0, .bool x.f1, .int .u64 x.f2, .string x.f3, .slice Ax x.f4.length cx, .slice Ap psx.length cp, .bool kx]] ∧ xe.1 = ⟨x, Ax, cx, .slice Ap psx.length cp, psx, kx⟩ := ⟨⟨⟨x, Ax, cx, .slice Ap psx.length cp, psx, kx⟩, ⟨hsc, hsC⟩, hsP _ (by rw [preT_eq]; simp)⟩, rfl, rfl⟩
      obtain ⟨fn, tmps, assign, body, hyy, hR0⟩ := hY (n - 1) q xe (wr.alloc bx) (hJG _ _ _ hJq ⟨none, World.grownBy_alloc wr bx none, fun r e => by cases e⟩) (by rw [hxs]; exact Spot.reads_none hsr (World.grownBy_alloc wr bx none)) hlq
      rw [hxe] at hyy
      subst hbx
      obtain ⟨hcap0, hg3, cur3, hh3⟩ := own_cap hown
      have hcap : (st.length : Int) ≤ (cap3 : Int) := by omega
      have hx63 : x.f4.length < 9223372036854775807 := by
        have h_ := len_preL x.f4
        have h1_ := congrArg List.length hq
        rw [List.length_append, List.length_map] at h1_
        have h3_ : (stackPre (⟨x, Ax, cx, .slice Ap psx.length cp, psx, kx⟩ :: st)).length = (preS x psx kx).length + (stackPre st).length := by simp [stackPre, Spot.pre]
        have h4_ : (preS t [] key).length ≤ N := by simpa [stackPre, Spot.pre] using hall
        have h5_ : (preS x psx kx).length = (preT x).length := by rw [← preS_fst x psx kx, List.length_map]
        rw [preT_eq, List.length_cons] at h5_
        omega
      have hwlt : B ≤ wr.heap.size := Nat.le_trans hBle hsz
      have hR := hR0.mono (R' := fun e W2 => (e = .returned (.bool true) ∧ J (q ++ [xe]) W2 ∧ KpN w0.heap.size B (wr.alloc (.cells #[.int .i64 x.f0, .bool x.f1, .int .u64 x.f2, .string x.f3, .slice Ax x.f4.length cx, .slice Ap psx.length cp, .bool kx] 79 (0, 0))) W2 ∧ W2.heap[wr.heap.size]? = some (.cells #[.int .i64 x.f0, .bool x.f1, .int .u64 x.f2, .string x.f3, .slice Ax x.f4.length cx, .slice Ap psx.length cp, .bool kx] 79 (0, 0)) ∧ W2.cell? ⟨wr.heap.size, 4, none⟩ = some (.slice Ax x.f4.length cx)) ∨ (e = .returned (.bool false) ∧ Jx (q ++ [xe]) W2))
        (fun e W2 h => h.elim (fun ⟨he, hj, hk⟩ => .inl (by have hb := hk.2 _ _ _ _ hwlt (heap_alloc_new wr _); exact ⟨he, hj, hk, hb, (blk_cell hb 4).trans rfl⟩)) .inr)
      clear hR0
      gi_wp2_with (first | ((try refine ⟨hdd _, ?_⟩); refine hR.mono ?_; clear hR; rintro e W2 (⟨rfl, hJ2, hk2, hbx2, cx2⟩ | ⟨rfl, hx2⟩)))
      · clear z0 z1 z2 z3 z4 z5 z6
        have hin : FeI w0 Pp B J W x psx (.slice Ap psx.length cp) st (q ++ [xe]) wr.heap.size (.cells #[.int .i64 x.f0, .bool x.f1, .int .u64 x.f2, .string x.f3, .slice Ax x.f4.length cx, .slice Ap psx.length cp, .bool kx] 79 (0, 0)) x.f4.length (.slice (some ⟨g3, 0, none⟩) st.length cap3) (.int .i64 ((x.f4.length : Int) - 1)) W2 := by
          have hk0 : ∀ g cs e, B ≤ g → wr.heap[g]? = some (.cells cs e (0, 0)) → W2.heap[g]? = some (.cells cs e (0, 0)) := fun g cs e hg hh => hk2.2 g cs e (0, 0) hg (blk_alloc hh _)
          refine ⟨[], rfl, by simp, by simp [stackPre, preSL], fun s' hs' => ?_, ?_, hJ2, ?_, ?_, hbx2, ?_, by have h_ := blk_lt hh3; simp [Value.ownBlock]; omega⟩
          · obtain ⟨h1_, h2_, h3_, h4_⟩ := hrest s' (by simpa using hs')
            exact ⟨h1_, own_moved h2_ (fun g cs hg hh => hk0 g cs 3 hg hh), h3_, by rw [List.length_append]; omega⟩
          · exact own_moved hpop (fun g cs hg hh => hk0 g cs 79 (Nat.le_trans hBle hg) hh)
          · exact hB1.trans ((KpN.of_grown (B := B) (World.grownBy_alloc wr _ none) hB1.size).trans hk2).1
          · have h_ := hk2.1.size; rw [World.size_alloc] at h_; omega
          · exact own_moved hsr (fun g cs hg hh => hk0 g cs 3 hg hh)
        clear hJ2 hk2 hbx2 cx2
        obtain ⟨wo, rfl⟩ : ∃ wo : World, wo = wr := ⟨_, rfl⟩
        gi_loopg [3, 5] x.f4.length (FeI w0 Pp B J W x psx (.slice Ap psx.length cp) st (q ++ [xe]) wo.heap.size (.cells #[.int .i64 x.f0, .bool x.f1, .int .u64 x.f2, .string x.f3, .slice Ax x.f4.length cx, .slice Ap psx.length cp, .bool kx] 79 (0, 0)))
        case atStart => exact hin
        case round =>
          clear hin
          obtain ⟨kl, rfl, hkl, hks, hkst, hko, hkJ, hkB, hksz, hkbx, hkp, hkne⟩ := hrel
          have hqx : q.map (·.1.desc) ++ Spot.pre ⟨x, Ax, cx, .slice Ap psx.length cp, psx, kx⟩ ++ stackPre st = preS t [] key := by rw [← hq, List.append_assoc]; rfl
          cases gk with
          | zero =>
            gi_wp2
            gi_roundg (stackPre (kl ++ st)).length
            case rel =>
              refine ⟨kl ++ st, q ++ [xe], rfl, ?_, hkst, hko, hkJ, hkB, hksz⟩
              rw [← hqx, Spot.pre_eq, List.map_append]
              simp only [List.map_cons, List.map_nil, hxs, stackPre, List.flatMap_append]
              show _ ++ (stackPre kl ++ stackPre st) = _
              rw [hks]
              simp [Spot.desc, List.append_assoc, stackPre]
            case measure =>
              rw [hkq]
              simp only [stackPre, List.flatMap_append, List.length_append, List.flatMap_cons, Spot.pre_eq, List.length_cons]
              have h_ := congrArg List.length hks
              simp only [stackPre, List.drop_zero] at h_
              omega
          | succ m =>
            have hm : m < x.f4.length := by omega
            have hm0 : (0 : Int) ≤ (m : Int) := Int.natCast_nonneg m
            have hm1 : (m : Int) < (x.f4.length : Int) := by omega
            obtain ⟨ad, A4, c4, rfl, z0, z1, z2, z3, z4, hl4, hC4⟩ := at_T44 hsC (m : Int) hm0 hm1
            obtain ⟨u, hu⟩ : ∃ u, rd_T44 x.f4 (m : Int) = u := ⟨_, rfl⟩
            rw [hu] at z0 z1 z2 z3 z4 hl4 hC4
            simp only [Int.toNat_natCast] at z0 z1 z2 z3 z4
            have e0 := (hkB.cell (World.block_lt_of_cell? _ _ z0)).trans z0
            have e1 := (hkB.cell (World.block_lt_of_cell? _ _ z1)).trans z1
            have e2 := (hkB.cell (World.block_lt_of_cell? _ _ z2)).trans z2
            have e3 := (hkB.cell (World.block_lt_of_cell? _ _ z3)).trans z3
            have e4 := (hkB.cell (World.block_lt_of_cell? _ _ z4)).trans z4
            have had : (ad.add (m * 5)).block < w0.heap.size := World.block_lt_of_cell? _ _ z0
            clear z0 z1 z2 z3 z4
            have b0 : wr.cell? ⟨wo.heap.size, 0, none⟩ = some (.int .i64 x.f0) := (blk_cell hkbx 0).trans rfl
            have b4 : wr.cell? ⟨wo.heap.size, 4, none⟩ = some (.slice (some ad) x.f4.length cx) := (blk_cell hkbx 4).trans rfl
            have b5 : wr.cell? ⟨wo.heap.size, 5, none⟩ = some (.slice Ap psx.length cp) := (blk_cell hkbx 5).trans rfl
            have hbl := blk_lt hkbx
            have hne2 : u3.ownBlock ≠ some (ad.add (m * 5)).block := fun e => by have h_ := (own_block hko _ e).1; omega
            have had2 : (ad.add (m * 5)).block < wr.heap.size := by have h_ := hkB.size; omega
            have hkn : (kl ++ st).length + 1 ≤ 1099511627776 ∧ psx.length + 1 ≤ 1099511627776 := by
              have h1_ := congrArg List.length hqx
              rw [List.length_append, List.length_append, List.length_map, Spot.pre_eq, List.length_cons] at h1_
              have h2_ : (preSL (x.f0 == 12) x.f4 psx 0).length = (preL x.f4).length := by rw [← preSL_fst (x.f0 == 12) x.f4 psx 0, List.length_map]
              have h3_ := len_preL x.f4
              have h4_ := stack_len st
              have h5_ : (preS t [] key).length ≤ N := by simpa [stackPre, Spot.pre] using hall
              dsimp only at h1_
              rw [List.length_append]
              omega
            obtain ⟨hkn, hpn⟩ := hkn
            obtain ⟨i0, hi0, hz0, hz1, hz2⟩ := info_parts info79
            obtain ⟨kb, hkb⟩ : ∃ kb, (x.f0 == 12) = kb := ⟨_, rfl⟩
            rcases hpr with ⟨rfl, rfl, rfl⟩ | ⟨gp, rfl, hgp, hcp, hcs0⟩
            -- REGION 8 BEGINS
            · cases kb
              · simp only [List.length_nil] at b5 hpn
                gi_upto_region 8 with (fail)
                refine wpIn_wide.2 ?_
                refine start_ (n := 32) (S := fun w' => w'.cell? ⟨wo.heap.size, 0, none⟩ = some (.int .i64 x.f0) ∧ w'.cell? ⟨wo.heap.size, 4, none⟩ = some (.slice (some ad) x.f4.length cx) ∧ w'.cell? ⟨wo.heap.size, 5, none⟩ = some (.slice none 0 0) ∧ w'.cell? (ad.add (m * 5)) = some (.int .i64 u.f0) ∧ w'.cell? ⟨(ad.add (m * 5)).block, (ad.add (m * 5)).off + 1, none⟩ = some (.bool u.f1) ∧ w'.cell? ⟨(ad.add (m * 5)).block, (ad.add (m * 5)).off + 2, none⟩ = some (.int .u64 u.f2) ∧ w'.cell? ⟨(ad.add (m * 5)).block, (ad.add (m * 5)).off + 3, none⟩ = some (.string u.f3) ∧ w'.cell? ⟨(ad.add (m * 5)).block, (ad.add (m * 5)).off + 4, none⟩ = some (.slice A4 u.f4.length c4)) (ds := []) #[false, false, false, false, false, false, false, false, false, false, false, false, false, false, false, false, false, false, false, false, false, false, false, false, false, false, false, false, false, false, false, false] (by kernel_rfl) rfl rfl ⟨b0, b4, b5, e0, e1, e2, e3, e4⟩ (fun hHeld => ?_)
                have hkod : wr.drew.ownsRow W.heap.size 79 7 u3 (kl ++ st).length (rowOf (kl ++ st)) := hko
                have hgd : wr.grownBy wr.drew none := undrew (World.grownBy.refl _ _)
                have hszd : wr.drew.heap.size = wr.heap.size := rfl
                generalize wr.drew = wd at hkod hgd hszd hHeld ⊢
                refine pure_ (i := 0) (N := some 35) (v := ?_) (a' := ?_) #[true, false, false, false, false, false, false, false, false, false, false, false, false, false, false, false, false, false, false, false, false, false, false, false, false, false, false, false, false, false, false, false] rfl rfl (by kernel_rfl) (fun _ _ _ h => h) (Or.inl ⟨by rfl, ?_⟩) ?_ ?_
                rotate_left
                · intro w'
                  go_simp
                  with_reducible rfl
                rotate_left
                · simp only [Act.put, List.setIfInBounds_toArray, List.set_cons_zero, List.set_cons_succ, i64_w, i32_w]
                  rfl
                refine pure_ (i := 1) (N := some 36) (v := ?_) (a' := ?_) #[true, true, false, false, false, false, false, false, false, false, false, false, false, false, false, false, false, false, false, false, false, false, false, false, false, false, false, false, false, false, false, false] rfl rfl (by kernel_rfl) (fun _ _ _ h => h) (Or.inl ⟨by rfl, ?_⟩) ?_ ?_
                rotate_left
                · intro w'
                  go_simp
                  with_reducible rfl
                rotate_left
                · simp only [Act.put, List.setIfInBounds_toArray, List.set_cons_zero, List.set_cons_succ, i64_w, i32_w]
                  rfl
                refine pure_ (i := 2) (N := some 37) (v := ?_) (a' := ?_) #[true, true, true, false, false, false, false, false, false, false, false, false, false, false, false, false, false, false, false, false, false, false, false, false, false, false, false, false, false, false, false, false] rfl rfl (by kernel_rfl) (fun _ _ _ h => h) (Or.inl ⟨by rfl, ?_⟩) ?_ ?_
                rotate_left
                · intro w'
                  go_simp
                  with_reducible rfl
                rotate_left
                · simp only [Act.put, List.setIfInBounds_toArray, List.set_cons_zero, List.set_cons_succ, i64_w, i32_w]
                  rfl
                refine pure_ (i := 4) (N := some 39) (v := ?_) (a' := ?_) #[true, true, true, false, true, false, false, false, false, false, false, false, false, false, false, false, false, false, false, false, false, false, false, false, false, false, false, false, false, false, false, false] rfl rfl (by kernel_rfl) (fun _ _ _ h => h) (Or.inl ⟨by rfl, ?_⟩) ?_ ?_
                rotate_left
                · intro w'
                  go_simp
                  with_reducible rfl
                rotate_left
                · simp only [Act.put, List.setIfInBounds_toArray, List.set_cons_zero, List.set_cons_succ, i64_w, i32_w]
                  rfl
                refine pure_ (i := 7) (N := some 42) (v := ?_) (a' := ?_) #[true, true, true, false, true, false, false, true, false, false, false, false, false, false, false, false, false, false, false, false, false, false, false, false, false, false, false, false, false, false, false, false] rfl rfl (by kernel_rfl) (fun _ _ _ h => h) (Or.inl ⟨by rfl, ?_⟩) ?_ ?_
                rotate_left
                · intro w'
                  go_simp
                  with_reducible rfl
                rotate_left
                · simp only [Act.put, List.setIfInBounds_toArray, List.set_cons_zero, List.set_cons_succ, i64_w, i32_w]
                  rfl
                refine pure_ (i := 9) (N := some 44) (v := ?_) (a' := ?_) #[true, true, true, false, true, false, false, true, false, true, false, false, false, false, false, false, false, false, false, false, false, false, false, false, false, false, false, false, false, false, false, false] rfl rfl (by kernel_rfl) (fun _ _ _ h => h) (Or.inl ⟨by rfl, ?_⟩) ?_ ?_
                rotate_left
                · intro w'
                  go_simp
                  with_reducible rfl
                rotate_left
                · simp only [Act.put, List.setIfInBounds_toArray, List.set_cons_zero, List.set_cons_succ, i64_w, i32_w]
                  rfl
                refine pure_ (i := 12) (N := some 47) (v := ?_) (a' := ?_) #[true, true, true, false, true, false, false, true, false, true, false, false, true, false, false, false, false, false, false, false, false, false, false, false, false, false, false, false, false, false, false, false] rfl rfl (by kernel_rfl) (fun _ _ _ h => h) (Or.inl ⟨by rfl, ?_⟩) ?_ ?_
                rotate_left
                · intro w'
                  go_simp
                  with_reducible rfl
                rotate_left
                · simp only [Act.put, List.setIfInBounds_toArray, List.set_cons_zero, List.set_cons_succ, i64_w, i32_w]
                  rfl
                refine pure_ (i := 16) (N := some 51) (v := ?_) (a' := ?_) #[true, true, true, false, true, false, false, true, false, true, false, false, true, false, false, false, true, false, false, false, false, false, false, false, false, false, false, false, false, false, false, false] rfl rfl (by kernel_rfl) (fun _ _ _ h => h) (Or.inl ⟨by rfl, ?_⟩) ?_ ?_
                rotate_left
                · intro w'
                  go_simp
                  with_reducible rfl
                rotate_left
                · simp only [Act.put, List.setIfInBounds_toArray, List.set_cons_zero, List.set_cons_succ, i64_w, i32_w]
                  rfl
                refine pure_ (i := 19) (N := some 54) (v := ?_) (a' := ?_) #[true, true, true, false, true, false, false, true, false, true, false, false, true, false, false, false, true, false, false, true, false, false, false, false, false, false, false, false, false, false, false, false] rfl rfl (by kernel_rfl) (fun _ _ _ h => h) (Or.inl ⟨by rfl, ?_⟩) ?_ ?_
                rotate_left
                · intro w'
                  go_simp
                  with_reducible rfl
                rotate_left
                · simp only [Act.put, List.setIfInBounds_toArray, List.set_cons_zero, List.set_cons_succ, i64_w, i32_w]
                  rfl
                refine pure_ (i := 20) (N := some 55) (v := ?_) (a' := ?_) #[true, true, true, false, true, false, false, true, false, true, false, false, true, false, false, false, true, false, false, true, true, false, false, false, false, false, false, false, false, false, false, false] rfl rfl (by kernel_rfl) (fun _ _ _ h => h) (Or.inl ⟨by rfl, ?_⟩) ?_ ?_
                rotate_left
                · intro w'
                  go_simp
                  with_reducible rfl
                rotate_left
                · simp only [Act.put, List.setIfInBounds_toArray, List.set_cons_zero, List.set_cons_succ, i64_w, i32_w]
                  rfl
                refine take_ (i := 3) (N := some 38) (v := ?_) (a' := ?_) #[true, true, true, true, true, false, false, true, false, true, false, false, true, false, false, false, true, false, false, true, true, false, false, false, false, false, false, false, false, false, false, false] rfl rfl (by kernel_rfl) (fun _ _ _ h => h) (Or.inl ⟨by rfl, ?_⟩) hHeld ?_ ?_
                rotate_left
                · rintro w' ⟨s0, s1, s2, s3, s4, s5, s6, s7⟩
                  go_simp
                  with_reducible rfl
                rotate_left
                · simp only [Act.put, List.setIfInBounds_toArray, List.set_cons_zero, List.set_cons_succ, i64_w, i32_w]
                  rfl
                refine pure_ (i := 5) (N := some 40) (v := ?_) (a' := ?_) #[true, true, true, true, true, true, false, true, false, true, false, false, true, false, false, false, true, false, false, true, true, false, false, false, false, false, false, false, false, false, false, false] rfl rfl (by kernel_rfl) (fun _ _ _ h => h) (Or.inl ⟨by rfl, ?_⟩) ?_ ?_
                rotate_left
                · intro w'
                  go_simp
                  with_reducible rfl
                rotate_left
                · simp only [Act.put, List.setIfInBounds_toArray, List.set_cons_zero, List.set_cons_succ, i64_w, i32_w]
                  rfl
                refine take_ (i := 6) (N := some 41) (v := ?_) (a' := ?_) #[true, true, true, true, true, true, true, true, false, true, false, false, true, false, false, false, true, false, false, true, true, false, false, false, false, false, false, false, false, false, false, false] rfl rfl (by kernel_rfl) (fun _ _ _ h => h) (Or.inl ⟨by rfl, ?_⟩) hHeld ?_ ?_
                rotate_left
                · rintro w' ⟨s0, s1, s2, s3, s4, s5, s6, s7⟩
                  go_simp
                  with_reducible rfl
                rotate_left
                · simp only [Act.put, List.setIfInBounds_toArray, List.set_cons_zero, List.set_cons_succ, i64_w, i32_w]
                  rfl
                refine take_ (i := 8) (N := some 43) (v := ?_) (a' := ?_) #[true, true, true, true, true, true, true, true, true, true, false, false, true, false, false, false, true, false, false, true, true, false, false, false, false, false, false, false, false, false, false, false] rfl rfl (by kernel_rfl) (fun _ _ _ h => h) (Or.inl ⟨by rfl, ?_⟩) hHeld ?_ ?_
                rotate_left
                · rintro w' ⟨s0, s1, s2, s3, s4, s5, s6, s7⟩
                  go_simp
                  with_reducible rfl
                rotate_left
                · simp only [Act.put, List.setIfInBounds_toArray, List.set_cons_zero, List.set_cons_succ, i64_w, i32_w]
                  rfl
                refine take_ (i := 10) (N := some 45) (v := ?_) (a' := ?_) #[true, true, true, true, true, true, true, true, true, true, true, false, true, false, false, false, true, false, false, true, true, false, false, false, false, false, false, false, false, false, false, false] rfl rfl (by kernel_rfl) (fun _ _ _ h => h) (Or.inl ⟨by rfl, ?_⟩) hHeld ?_ ?_
                rotate_left
                · rintro w' ⟨s0, s1, s2, s3, s4, s5, s6, s7⟩
                  go_simp
                  with_reducible rfl
                rotate_left
                · simp only [Act.put, List.setIfInBounds_toArray, List.set_cons_zero, List.set_cons_succ, i64_w, i32_w]
                  rfl
                refine pure_ (i := 11) (N := some 46) (v := ?_) (a' := ?_) #[true, true, true, true, true, true, true, true, true, true, true, true, true, false, false, false, true, false, false, true, true, false, false, false, false, false, false, false, false, false, false, false] rfl rfl (by kernel_rfl) (fun _ _ _ h => h) (Or.inl ⟨by rfl, ?_⟩) ?_ ?_
                rotate_left
                · intro w'
                  go_simp
                  with_reducible rfl
                rotate_left
                · simp only [Act.put, List.setIfInBounds_toArray, List.set_cons_zero, List.set_cons_succ, i64_w, i32_w]
                  rfl
                refine take_ (i := 13) (N := some 48) (v := ?_) (a' := ?_) #[true, true, true, true, true, true, true, true, true, true, true, true, true, true, false, false, true, false, false, true, true, false, false, false, false, false, false, false, false, false, false, false] rfl rfl (by kernel_rfl) (fun _ _ _ h => h) (Or.inl ⟨by rfl, ?_⟩) hHeld ?_ ?_
                rotate_left
                · rintro w' ⟨s0, s1, s2, s3, s4, s5, s6, s7⟩
                  go_simp
                  with_reducible rfl
                rotate_left
                · simp only [Act.put, List.setIfInBounds_toArray, List.set_cons_zero, List.set_cons_succ, i64_w, i32_w]
                  rfl
                refine pure_ (i := 14) (N := some 49) (v := ?_) (a' := ?_) #[true, true, true, true, true, true, true, true, true, true, true, true, true, true, true, false, true, false, false, true, true, false, false, false, false, false, false, false, false, false, false, false] rfl rfl (by kernel_rfl) (fun _ _ _ h => h) (Or.inl ⟨by rfl, ?_⟩) ?_ ?_
                rotate_left
                · intro w'
                  go_simp
                  with_reducible rfl
                rotate_left
                · simp only [Act.put, List.setIfInBounds_toArray, List.set_cons_zero, List.set_cons_succ, i64_w, i32_w]
                  rfl
                refine pure_ (i := 15) (N := some 50) (v := ?_) (a' := ?_) #[true, true, true, true, true, true, true, true, true, true, true, true, true, true, true, true, true, false, false, true, true, false, false, false, false, false, false, false, false, false, false, false] rfl rfl (by kernel_rfl) (fun _ _ _ h => h) (Or.inl ⟨by rfl, ?_⟩) ?_ ?_
                rotate_left
                · intro w'
                  go_simp
                  with_reducible rfl
                rotate_left
                · simp only [Act.put, List.setIfInBounds_toArray, List.set_cons_zero, List.set_cons_succ, i64_w, i32_w]
                  rfl
                refine take_ (i := 21) (N := some 56) (v := ?_) (a' := ?_) #[true, true, true, true, true, true, true, true, true, true, true, true, true, true, true, true, true, false, false, true, true, true, false, false, false, false, false, false, false, false, false, false] rfl rfl (by kernel_rfl) (fun _ _ _ h => h) (Or.inl ⟨by rfl, ?_⟩) hHeld ?_ ?_
                rotate_left
                · rintro w' ⟨s0, s1, s2, s3, s4, s5, s6, s7⟩
                  go_simp
                  with_reducible rfl
                rotate_left
                · simp only [Act.put, List.setIfInBounds_toArray, List.set_cons_zero, List.set_cons_succ, i64_w, i32_w]
                  rfl
                refine pure_ (i := 22) (N := some 57) (v := ?_) (a' := ?_) #[true, true, true, true, true, true, true, true, true, true, true, true, true, true, true, true, true, false, false, true, true, true, true, false, false, false, false, false, false, false, false, false] rfl rfl (by kernel_rfl) (fun _ _ _ h => h) (Or.inl ⟨by rfl, ?_⟩) ?_ ?_
                rotate_left
                · intro w'
                  go_simp
                  with_reducible rfl
                rotate_left
                · simp only [Act.put, List.setIfInBounds_toArray, List.set_cons_zero, List.set_cons_succ, i64_w, i32_w]
                  rfl
                refine one_ (i := 17) (N := some 52) #[true, true, true, true, true, true, true, true, true, true, true, true, true, true, true, true, true, true, false, true, true, true, true, false, false, false, false, false, false, false, false, false] rfl rfl (by kernel_rfl) (by decide) (fun K hK => ?_)
                refine value_ (w1 := ?_) (v := ?_) (by rfl) rfl ?_ ?_
                rotate_left 2
                · go_simp
                  constructor
                  · rfl
                  · rfl
                refine hK.out _ _ ⟨(c_alloc hHeld.1 _), (c_alloc hHeld.2.1 _), (c_alloc hHeld.2.2.1 _), (c_alloc hHeld.2.2.2.1 _), (c_alloc hHeld.2.2.2.2.1 _), (c_alloc hHeld.2.2.2.2.2.1 _), (c_alloc hHeld.2.2.2.2.2.2.1 _), (c_alloc hHeld.2.2.2.2.2.2.2 _)⟩ (fun hHeld => ?_)
                clear hK K
                refine norm_ (a' := ?_) ?_ ?_
                rotate_left
                · show Act.put _ (some 52) _ = _
                  simp only [Act.put, List.setIfInBounds_toArray, List.set_cons_zero, List.set_cons_succ, i64_w, i32_w]
                  rfl
                refine one_ (i := 18) (N := some 53) #[true, true, true, true, true, true, true, true, true, true, true, true, true, true, true, true, true, true, true, true, true, true, true, false, false, false, false, false, false, false, false, false] rfl rfl (by kernel_rfl) (by decide) (fun K hK => ?_)
                refine step_append_nil rfl _ _ _ 3 (.int .i64 0) 1 8 (by rfl) Try.underlying49 info3 rfl (by decide) ⟨wr.heap.size, 0, none⟩ [.int .i64 m] (by rfl) (by rfl) rfl (World.news_of_block (cs := #[.int .i64 m]) (t := 3) (fr := (0, 0)) (by rw [← hszd]; exact heap_alloc_new wd _)) (by simp [Value.oneCell']) (by decide) ?_
                intro v1 w1 hown1 hg1
                obtain ⟨gp1, cp1, rfl⟩ := ownsRow_succ hown1
                have hg01 : wd.grownBy w1 none := World.grownBy.trans (World.grownBy_alloc wd _ none) hg1
                have hko1 : w1.ownsRow W.heap.size 79 7 u3 (kl ++ st).length (rowOf (kl ++ st)) := own_moved hkod (fun g cs hg hh => blk_grown hh hg01 (by simp))
                have hs01 := hg01.size
                refine hK.out _ _ ⟨(c_grown hHeld.1 hg1 (by simp)), (c_grown hHeld.2.1 hg1 (by simp)), (c_grown hHeld.2.2.1 hg1 (by simp)), (c_grown hHeld.2.2.2.1 hg1 (by simp)), (c_grown hHeld.2.2.2.2.1 hg1 (by simp)), (c_grown hHeld.2.2.2.2.2.1 hg1 (by simp)), (c_grown hHeld.2.2.2.2.2.2.1 hg1 (by simp)), (c_grown hHeld.2.2.2.2.2.2.2 hg1 (by simp))⟩ (fun hHeld => ?_)
                clear hK K
                refine norm_ (a' := ?_) ?_ ?_
                rotate_left
                · show Act.put _ (some 53) _ = _
                  simp only [Act.put, List.setIfInBounds_toArray, List.set_cons_zero, List.set_cons_succ, i64_w, i32_w]
                  rfl
                refine pure_ (i := 23) (N := some 58) (v := ?_) (a' := ?_) #[true, true, true, true, true, true, true, true, true, true, true, true, true, true, true, true, true, true, true, true, true, true, true, true, false, false, false, false, false, false, false, false] rfl rfl (by kernel_rfl) (fun _ _ _ h => h) (Or.inl ⟨by rfl, ?_⟩) ?_ ?_
                rotate_left
                · intro w'
                  go_simp
                  with_reducible rfl
                rotate_left
                · simp only [Act.put, List.setIfInBounds_toArray, List.set_cons_zero, List.set_cons_succ, i64_w, i32_w]
                  rfl
                refine pure_ (i := 24) (N := some 59) (v := undef) (a' := ?_) #[true, true, true, true, true, true, true, true, true, true, true, true, true, true, true, true, true, true, true, true, true, true, true, true, true, false, false, false, false, false, false, false] rfl rfl (by kernel_rfl) (fun _ _ _ h => h) (Or.inr ⟨by rfl, rfl⟩) ?_ ?_
                rotate_left
                · simp only [Act.put, List.setIfInBounds_toArray, List.set_cons_zero, List.set_cons_succ, i64_w, i32_w]
                  rfl
                refine pure_ (i := 25) (N := some 60) (v := undef) (a' := ?_) #[true, true, true, true, true, true, true, true, true, true, true, true, true, true, true, true, true, true, true, true, true, true, true, true, true, true, false, false, false, false, false, false] rfl rfl (by kernel_rfl) (fun _ _ _ h => h) (Or.inr ⟨by rfl, rfl⟩) ?_ ?_
                rotate_left
                · simp only [Act.put, List.setIfInBounds_toArray, List.set_cons_zero, List.set_cons_succ, i64_w, i32_w]
                  rfl
                refine pure_ (i := 26) (N := some 61) (v := undef) (a' := ?_) #[true, true, true, true, true, true, true, true, true, true, true, true, true, true, true, true, true, true, true, true, true, true, true, true, true, true, true, false, false, false, false, false] rfl rfl (by kernel_rfl) (fun _ _ _ h => h) (Or.inr ⟨by rfl, rfl⟩) ?_ ?_
                rotate_left
                · simp only [Act.put, List.setIfInBounds_toArray, List.set_cons_zero, List.set_cons_succ, i64_w, i32_w]
                  rfl
                refine pure_ (i := 27) (N := some 62) (v := ?_) (a' := ?_) #[true, true, true, true, true, true, true, true, true, true, true, true, true, true, true, true, true, true, true, true, true, true, true, true, true, true, true, true, false, false, false, false] rfl rfl (by kernel_rfl) (fun _ _ _ h => h) (Or.inl ⟨by rfl, ?_⟩) ?_ ?_
                rotate_left
                · intro w'
                  go_simp
                  with_reducible rfl
                rotate_left
                · simp only [Act.put, List.setIfInBounds_toArray, List.set_cons_zero, List.set_cons_succ, i64_w, i32_w]
                  rfl
                refine pure_ (i := 28) (N := some 63) (v := ?_) (a' := ?_) #[true, true, true, true, true, true, true, true, true, true, true, true, true, true, true, true, true, true, true, true, true, true, true, true, true, true, true, true, true, false, false, false] rfl rfl (by kernel_rfl) (fun _ _ _ h => h) (Or.inl ⟨by rfl, ?_⟩) ?_ ?_
                rotate_left
                · intro w'
                  go_simp
                  with_reducible rfl
                rotate_left
                · simp only [Act.put, List.setIfInBounds_toArray, List.set_cons_zero, List.set_cons_succ, i64_w, i32_w]
                  rfl
                refine one_ (i := 29) (N := some 64) #[true, true, true, true, true, true, true, true, true, true, true, true, true, true, true, true, true, true, true, true, true, true, true, true, true, true, true, true, true, true, false, false] rfl rfl (by kernel_rfl) (by decide) (fun K hK => ?_)
                refine value_ (w1 := ?_) (v := ?_) (by rfl) rfl ?_ ?_
                rotate_left 2
                · go_simp
                  constructor
                  · rfl
                  · rfl
                refine hK.out _ _ ⟨(c_alloc hHeld.1 _), (c_alloc hHeld.2.1 _), (c_alloc hHeld.2.2.1 _), (c_alloc hHeld.2.2.2.1 _), (c_alloc hHeld.2.2.2.2.1 _), (c_alloc hHeld.2.2.2.2.2.1 _), (c_alloc hHeld.2.2.2.2.2.2.1 _), (c_alloc hHeld.2.2.2.2.2.2.2 _)⟩ (fun hHeld => ?_)
                clear hK K
                refine norm_ (a' := ?_) ?_ ?_
                rotate_left
                · show Act.put _ (some 64) _ = _
                  simp only [Act.put, List.setIfInBounds_toArray, List.set_cons_zero, List.set_cons_succ, i64_w, i32_w]
                  rfl
                refine one_ (i := 30) (N := some 65) #[true, true, true, true, true, true, true, true, true, true, true, true, true, true, true, true, true, true, true, true, true, true, true, true, true, true, true, true, true, true, true, false] rfl rfl (by kernel_rfl) (by decide) (fun K hK => ?_)
                refine step_append_lies _ (by rfl) _ _ _ (by rfl) W.heap.size 79 i0 _ 7 96 Try.underlying86 hi0 hz0 hz1 hz2 rfl (by omega) u3 (kl ++ st).length (rowOf (kl ++ st)) (by rfl) (own_alloc hko1 _) ⟨w1.heap.size, 0, none⟩ 1 1 [.int .i64 u.f0, .bool u.f1, .int .u64 u.f2, .string u.f3, .slice A4 u.f4.length c4, .slice (some ⟨gp1, 0, none⟩) (0 + 1) cp1, .bool false] (by rfl) (by rfl) (World.news_of_block (cs := #[.int .i64 u.f0, .bool u.f1, .int .u64 u.f2, .string u.f3, .slice A4 u.f4.length c4, .slice (some ⟨gp1, 0, none⟩) (0 + 1) cp1, .bool false]) (t := 79) (fr := (0, 0)) (heap_alloc_new w1 _)) (by simp [Value.oneCell']) (by omega) (by simp only [maxLen]; omega) (by omega) (by rw [World.size_alloc]; omega) (w1.heap.size + 1) (by rw [World.size_alloc]) ?_
                intro gg cap2 w2 hown2 hgrow hat hlt2
                refine hK.out _ _ ⟨(c_grown hHeld.1 hgrow (by first | exact Ne.symm hkne | exact Ne.symm hne2)), (c_grown hHeld.2.1 hgrow (by first | exact Ne.symm hkne | exact Ne.symm hne2)), (c_grown hHeld.2.2.1 hgrow (by first | exact Ne.symm hkne | exact Ne.symm hne2)), (c_grown hHeld.2.2.2.1 hgrow (by first | exact Ne.symm hkne | exact Ne.symm hne2)), (c_grown hHeld.2.2.2.2.1 hgrow (by first | exact Ne.symm hkne | exact Ne.symm hne2)), (c_grown hHeld.2.2.2.2.2.1 hgrow (by first | exact Ne.symm hkne | exact Ne.symm hne2)), (c_grown hHeld.2.2.2.2.2.2.1 hgrow (by first | exact Ne.symm hkne | exact Ne.symm hne2)), (c_grown hHeld.2.2.2.2.2.2.2 hgrow (by first | exact Ne.symm hkne | exact Ne.symm hne2))⟩ (fun hHeld => ?_)
                clear hK K
                refine norm_ (a' := ?_) ?_ ?_
                rotate_left
                · show Act.put _ (some 65) _ = _
                  simp only [Act.put, List.setIfInBounds_toArray, List.set_cons_zero, List.set_cons_succ, i64_w, i32_w]
                  rfl
                refine pure_ (i := 31) (N := some 3) (v := ?_) (a' := ?_) #[true, true, true, true, true, true, true, true, true, true, true, true, true, true, true, true, true, true, true, true, true, true, true, true, true, true, true, true, true, true, true, true] rfl rfl (by kernel_rfl) (fun _ _ _ h => h) (Or.inl ⟨by rfl, ?_⟩) ?_ ?_
                rotate_left
                · intro w'
                  go_simp
                  with_reducible rfl
                rotate_left
                · simp only [Act.put, List.setIfInBounds_toArray, List.set_cons_zero, List.set_cons_succ, i64_w, i32_w]
                  rfl
                refine done_ (by kernel_rfl) ?_
                gi_wp2
                gi_roundg m
                case rel => exact (by rw [← List.length_append]; exact fe_next hJG hBle hB0 (by rw [List.length_append]; exact Nat.add_le_add_right hsq 1) hkl hks hkst hko hkJ hkB hksz hkbx hkp hkne (World.grownBy.trans hgd hg01) hown1 (by rw [World.size_alloc]; omega) hown2 hgrow hat hu hm hl4 hC4 (fun v hv => hsP v (pre_mem hm hu hv)) (by rw [hkb]; rfl) (by first | rfl | exact congrArg (Value.int .i64) (by omega)))
                case measure => omega
              · simp only [List.length_nil] at b5 hpn
                gi_upto_region 8 with (fail)
                refine wpIn_wide.2 ?_
                refine start_ (n := 32) (S := fun w' => w'.cell? ⟨wo.heap.size, 0, none⟩ = some (.int .i64 x.f0) ∧ w'.cell? ⟨wo.heap.size, 4, none⟩ = some (.slice (some ad) x.f4.length cx) ∧ w'.cell? ⟨wo.heap.size, 5, none⟩ = some (.slice none 0 0) ∧ w'.cell? (ad.add (m * 5)) = some (.int .i64 u.f0) ∧ w'.cell? ⟨(ad.add (m * 5)).block, (ad.add (m * 5)).off + 1, none⟩ = some (.bool u.f1) ∧ w'.cell? ⟨(ad.add (m * 5)).block, (ad.add (m * 5)).off + 2, none⟩ = some (.int .u64 u.f2) ∧ w'.cell? ⟨(ad.add (m * 5)).block, (ad.add (m * 5)).off + 3, none⟩ = some (.string u.f3) ∧ w'.cell? ⟨(ad.add (m * 5)).block, (ad.add (m * 5)).off + 4, none⟩ = some (.slice A4 u.f4.length c4)) (ds := []) #[false, false, false, false, false, false, false, false, false, false, false, false, false, false, false, false, false, false, false, false, false, false, false, false, false, false, false, false, false, false, false, false] (by kernel_rfl) rfl rfl ⟨b0, b4, b5, e0, e1, e2, e3, e4⟩ (fun hHeld => ?_)
                have hkod : wr.drew.ownsRow W.heap.size 79 7 u3 (kl ++ st).length (rowOf (kl ++ st)) := hko
                have hgd : wr.grownBy wr.drew none := undrew (World.grownBy.refl _ _)
                have hszd : wr.drew.heap.size = wr.heap.size := rfl
                generalize wr.drew = wd at hkod hgd hszd hHeld ⊢
                refine pure_ (i := 0) (N := some 35) (v := ?_) (a' := ?_) #[true, false, false, false, false, false, false, false, false, false, false, false, false, false, false, false, false, false, false, false, false, false, false, false, false, false, false, false, false, false, false, false] rfl rfl (by kernel_rfl) (fun _ _ _ h => h) (Or.inl ⟨by rfl, ?_⟩) ?_ ?_
                rotate_left
                · intro w'
                  go_simp
                  with_reducible rfl
                rotate_left
                · simp only [Act.put, List.setIfInBounds_toArray, List.set_cons_zero, List.set_cons_succ, i64_w, i32_w]
                  rfl
                refine pure_ (i := 1) (N := some 36) (v := ?_) (a' := ?_) #[true, true, false, false, false, false, false, false, false, false, false, false, false, false, false, false, false, false, false, false, false, false, false, false, false, false, false, false, false, false, false, false] rfl rfl (by kernel_rfl) (fun _ _ _ h => h) (Or.inl ⟨by rfl, ?_⟩) ?_ ?_
                rotate_left
                · intro w'
                  go_simp
                  with_reducible rfl
                rotate_left
                · simp only [Act.put, List.setIfInBounds_toArray, List.set_cons_zero, List.set_cons_succ, i64_w, i32_w]
                  rfl
                refine pure_ (i := 2) (N := some 37) (v := ?_) (a' := ?_) #[true, true, true, false, false, false, false, false, false, false, false, false, false, false, false, false, false, false, false, false, false, false, false, false, false, false, false, false, false, false, false, false] rfl rfl (by kernel_rfl) (fun _ _ _ h => h) (Or.inl ⟨by rfl, ?_⟩) ?_ ?_
                rotate_left
                · intro w'
                  go_simp
                  with_reducible rfl
                rotate_left
                · simp only [Act.put, List.setIfInBounds_toArray, List.set_cons_zero, List.set_cons_succ, i64_w, i32_w]
                  rfl
                refine pure_ (i := 4) (N := some 39) (v := ?_) (a' := ?_) #[true, true, true, false, true, false, false, false, false, false, false, false, false, false, false, false, false, false, false, false, false, false, false, false, false, false, false, false, false, false, false, false] rfl rfl (by kernel_rfl) (fun _ _ _ h => h) (Or.inl ⟨by rfl, ?_⟩) ?_ ?_
                rotate_left
                · intro w'
                  go_simp
                  with_reducible rfl
                rotate_left
                · simp only [Act.put, List.setIfInBounds_toArray, List.set_cons_zero, List.set_cons_succ, i64_w, i32_w]
                  rfl
                refine pure_ (i := 7) (N := some 42) (v := ?_) (a' := ?_) #[true, true, true, false, true, false, false, true, false, false, false, false, false, false, false, false, false, false, false, false, false, false, false, false, false, false, false, false, false, false, false, false] rfl rfl (by kernel_rfl) (fun _ _ _ h => h) (Or.inl ⟨by rfl, ?_⟩) ?_ ?_
                rotate_left
                · intro w'
                  go_simp
                  with_reducible rfl
                rotate_left
                · simp only [Act.put, List.setIfInBounds_toArray, List.set_cons_zero, List.set_cons_succ, i64_w, i32_w]
                  rfl
                refine pure_ (i := 9) (N := some 44) (v := ?_) (a' := ?_) #[true, true, true, false, true, false, false, true, false, true, false, false, false, false, false, false, false, false, false, false, false, false, false, false, false, false, false, false, false, false, false, false] rfl rfl (by kernel_rfl) (fun _ _ _ h => h) (Or.inl ⟨by rfl, ?_⟩) ?_ ?_
                rotate_left
                · intro w'
                  go_simp
                  with_reducible rfl
                rotate_left
                · simp only [Act.put, List.setIfInBounds_toArray, List.set_cons_zero, List.set_cons_succ, i64_w, i32_w]
                  rfl
                refine pure_ (i := 12) (N := some 47) (v := ?_) (a' := ?_) #[true, true, true, false, true, false, false, true, false, true, false, false, true, false, false, false, false, false, false, false, false, false, false, false, false, false, false, false, false, false, false, false] rfl rfl (by kernel_rfl) (fun _ _ _ h => h) (Or.inl ⟨by rfl, ?_⟩) ?_ ?_
                rotate_left
                · intro w'
                  go_simp
                  with_reducible rfl
                rotate_left
                · simp only [Act.put, List.setIfInBounds_toArray, List.set_cons_zero, List.set_cons_succ, i64_w, i32_w]
                  rfl
                refine pure_ (i := 16) (N := some 51) (v := ?_) (a' := ?_) #[true, true, true, false, true, false, false, true, false, true, false, false, true, false, false, false, true, false, false, false, false, false, false, false, false, false, false, false, false, false, false, false] rfl rfl (by kernel_rfl) (fun _ _ _ h => h) (Or.inl ⟨by rfl, ?_⟩) ?_ ?_
                rotate_left
                · intro w'
                  go_simp
                  with_reducible rfl
                rotate_left
                · simp only [Act.put, List.setIfInBounds_toArray, List.set_cons_zero, List.set_cons_succ, i64_w, i32_w]
                  rfl
                refine pure_ (i := 19) (N := some 54) (v := ?_) (a' := ?_) #[true, true, true, false, true, false, false, true, false, true, false, false, true, false, false, false, true, false, false, true, false, false, false, false, false, false, false, false, false, false, false, false] rfl rfl (by kernel_rfl) (fun _ _ _ h => h) (Or.inl ⟨by rfl, ?_⟩) ?_ ?_
                rotate_left
                · intro w'
                  go_simp
                  with_reducible rfl
                rotate_left
                · simp only [Act.put, List.setIfInBounds_toArray, List.set_cons_zero, List.set_cons_succ, i64_w, i32_w]
                  rfl
                refine pure_ (i := 20) (N := some 55) (v := ?_) (a' := ?_) #[true, true, true, false, true, false, false, true, false, true, false, false, true, false, false, false, true, false, false, true, true, false, false, false, false, false, false, false, false, false, false, false] rfl rfl (by kernel_rfl) (fun _ _ _ h => h) (Or.inl ⟨by rfl, ?_⟩) ?_ ?_
                rotate_left
                · intro w'
                  go_simp
                  with_reducible rfl
                rotate_left
                · simp only [Act.put, List.setIfInBounds_toArray, List.set_cons_zero, List.set_cons_succ, i64_w, i32_w]
                  rfl
                refine take_ (i := 3) (N := some 38) (v := ?_) (a' := ?_) #[true, true, true, true, true, false, false, true, false, true, false, false, true, false, false, false, true, false, false, true, true, false, false, false, false, false, false, false, false, false, false, false] rfl rfl (by kernel_rfl) (fun _ _ _ h => h) (Or.inl ⟨by rfl, ?_⟩) hHeld ?_ ?_
                rotate_left
                · rintro w' ⟨s0, s1, s2, s3, s4, s5, s6, s7⟩
                  go_simp
                  with_reducible rfl
                rotate_left
                · simp only [Act.put, List.setIfInBounds_toArray, List.set_cons_zero, List.set_cons_succ, i64_w, i32_w]
                  rfl
                refine pure_ (i := 5) (N := some 40) (v := ?_) (a' := ?_) #[true, true, true, true, true, true, false, true, false, true, false, false, true, false, false, false, true, false, false, true, true, false, false, false, false, false, false, false, false, false, false, false] rfl rfl (by kernel_rfl) (fun _ _ _ h => h) (Or.inl ⟨by rfl, ?_⟩) ?_ ?_
                rotate_left
                · intro w'
                  go_simp
                  with_reducible rfl
                rotate_left
                · simp only [Act.put, List.setIfInBounds_toArray, List.set_cons_zero, List.set_cons_succ, i64_w, i32_w]
                  rfl
                refine take_ (i := 6) (N := some 41) (v := ?_) (a' := ?_) #[true, true, true, true, true, true, true, true, false, true, false, false, true, false, false, false, true, false, false, true, true, false, false, false, false, false, false, false, false, false, false, false] rfl rfl (by kernel_rfl) (fun _ _ _ h => h) (Or.inl ⟨by rfl, ?_⟩) hHeld ?_ ?_
                rotate_left
                · rintro w' ⟨s0, s1, s2, s3, s4, s5, s6, s7⟩
                  go_simp
                  with_reducible rfl
                rotate_left
                · simp only [Act.put, List.setIfInBounds_toArray, List.set_cons_zero, List.set_cons_succ, i64_w, i32_w]
                  rfl
                refine take_ (i := 8) (N := some 43) (v := ?_) (a' := ?_) #[true, true, true, true, true, true, true, true, true, true, false, false, true, false, false, false, true, false, false, true, true, false, false, false, false, false, false, false, false, false, false, false] rfl rfl (by kernel_rfl) (fun _ _ _ h => h) (Or.inl ⟨by rfl, ?_⟩) hHeld ?_ ?_
                rotate_left
                · rintro w' ⟨s0, s1, s2, s3, s4, s5, s6, s7⟩
                  go_simp
                  with_reducible rfl
                rotate_left
                · simp only [Act.put, List.setIfInBounds_toArray, List.set_cons_zero, List.set_cons_succ, i64_w, i32_w]
                  rfl
                refine take_ (i := 10) (N := some 45) (v := ?_) (a' := ?_) #[true, true, true, true, true, true, true, true, true, true, true, false, true, false, false, false, true, false, false, true, true, false, false, false, false, false, false, false, false, false, false, false] rfl rfl (by kernel_rfl) (fun _ _ _ h => h) (Or.inl ⟨by rfl, ?_⟩) hHeld ?_ ?_
                rotate_left
                · rintro w' ⟨s0, s1, s2, s3, s4, s5, s6, s7⟩
                  go_simp
                  with_reducible rfl
                rotate_left
                · simp only [Act.put, List.setIfInBounds_toArray, List.set_cons_zero, List.set_cons_succ, i64_w, i32_w]
                  rfl
                refine pure_ (i := 11) (N := some 46) (v := ?_) (a' := ?_) #[true, true, true, true, true, true, true, true, true, true, true, true, true, false, false, false, true, false, false, true, true, false, false, false, false, false, false, false, false, false, false, false] rfl rfl (by kernel_rfl) (fun _ _ _ h => h) (Or.inl ⟨by rfl, ?_⟩) ?_ ?_
                rotate_left
                · intro w'
                  go_simp
                  with_reducible rfl
                rotate_left
                · simp only [Act.put, List.setIfInBounds_toArray, List.set_cons_zero, List.set_cons_succ, i64_w, i32_w]
                  rfl
                refine take_ (i := 13) (N := some 48) (v := ?_) (a' := ?_) #[true, true, true, true, true, true, true, true, true, true, true, true, true, true, false, false, true, false, false, true, true, false, false, false, false, false, false, false, false, false, false, false] rfl rfl (by kernel_rfl) (fun _ _ _ h => h) (Or.inl ⟨by rfl, ?_⟩) hHeld ?_ ?_
                rotate_left
                · rintro w' ⟨s0, s1, s2, s3, s4, s5, s6, s7⟩
                  go_simp
                  with_reducible rfl
                rotate_left
                · simp only [Act.put, List.setIfInBounds_toArray, List.set_cons_zero, List.set_cons_succ, i64_w, i32_w]
                  rfl
                refine pure_ (i := 14) (N := some 49) (v := ?_) (a' := ?_) #[true, true, true, true, true, true, true, true, true, true, true, true, true, true, true, false, true, false, false, true, true, false, false, false, false, false, false, false, false, false, false, false] rfl rfl (by kernel_rfl) (fun _ _ _ h => h) (Or.inl ⟨by rfl, ?_⟩) ?_ ?_
                rotate_left
                · intro w'
                  go_simp
                  with_reducible rfl
                rotate_left
                · simp only [Act.put, List.setIfInBounds_toArray, List.set_cons_zero, List.set_cons_succ, i64_w, i32_w]
                  rfl
                refine pure_ (i := 15) (N := some 50) (v := ?_) (a' := ?_) #[true, true, true, true, true, true, true, true, true, true, true, true, true, true, true, true, true, false, false, true, true, false, false, false, false, false, false, false, false, false, false, false] rfl rfl (by kernel_rfl) (fun _ _ _ h => h) (Or.inl ⟨by rfl, ?_⟩) ?_ ?_
                rotate_left
                · intro w'
                  go_simp
                  with_reducible rfl
                rotate_left
                · simp only [Act.put, List.setIfInBounds_toArray, List.set_cons_zero, List.set_cons_succ, i64_w, i32_w]
                  rfl
                refine take_ (i := 21) (N := some 56) (v := ?_) (a' := ?_) #[true, true, true, true, true, true, true, true, true, true, true, true, true, true, true, true, true, false, false, true, true, true, false, false, false, false, false, false, false, false, false, false] rfl rfl (by kernel_rfl) (fun _ _ _ h => h) (Or.inl ⟨by rfl, ?_⟩) hHeld ?_ ?_
                rotate_left
                · rintro w' ⟨s0, s1, s2, s3, s4, s5, s6, s7⟩
                  go_simp
                  with_reducible rfl
                rotate_left
                · simp only [Act.put, List.setIfInBounds_toArray, List.set_cons_zero, List.set_cons_succ, i64_w, i32_w]
                  rfl
                refine pure_ (i := 22) (N := some 57) (v := ?_) (a' := ?_) #[true, true, true, true, true, true, true, true, true, true, true, true, true, true, true, true, true, false, false, true, true, true, true, false, false, false, false, false, false, false, false, false] rfl rfl (by kernel_rfl) (fun _ _ _ h => h) (Or.inl ⟨by rfl, ?_⟩) ?_ ?_
                rotate_left
                · intro w'
                  go_simp
                  with_reducible rfl
                rotate_left
                · simp only [Act.put, List.setIfInBounds_toArray, List.set_cons_zero, List.set_cons_succ, i64_w, i32_w]
                  rfl
                refine one_ (i := 17) (N := some 52) #[true, true, true, true, true, true, true, true, true, true, true, true, true, true, true, true, true, true, false, true, true, true, true, false, false, false, false, false, false, false, false, false] rfl rfl (by kernel_rfl) (by decide) (fun K hK => ?_)
                refine value_ (w1 := ?_) (v := ?_) (by rfl) rfl ?_ ?_
                rotate_left 2
                · go_simp
                  constructor
                  · rfl
                  · rfl
                refine hK.out _ _ ⟨(c_alloc hHeld.1 _), (c_alloc hHeld.2.1 _), (c_alloc hHeld.2.2.1 _), (c_alloc hHeld.2.2.2.1 _), (c_alloc hHeld.2.2.2.2.1 _), (c_alloc hHeld.2.2.2.2.2.1 _), (c_alloc hHeld.2.2.2.2.2.2.1 _), (c_alloc hHeld.2.2.2.2.2.2.2 _)⟩ (fun hHeld => ?_)
                clear hK K
                refine norm_ (a' := ?_) ?_ ?_
                rotate_left
                · show Act.put _ (some 52) _ = _
                  simp only [Act.put, List.setIfInBounds_toArray, List.set_cons_zero, List.set_cons_succ, i64_w, i32_w]
                  rfl
                refine one_ (i := 18) (N := some 53) #[true, true, true, true, true, true, true, true, true, true, true, true, true, true, true, true, true, true, true, true, true, true, true, false, false, false, false, false, false, false, false, false] rfl rfl (by kernel_rfl) (by decide) (fun K hK => ?_)
                refine step_append_nil rfl _ _ _ 3 (.int .i64 0) 1 8 (by rfl) Try.underlying49 info3 rfl (by decide) ⟨wr.heap.size, 0, none⟩ [.int .i64 m] (by rfl) (by rfl) rfl (World.news_of_block (cs := #[.int .i64 m]) (t := 3) (fr := (0, 0)) (by rw [← hszd]; exact heap_alloc_new wd _)) (by simp [Value.oneCell']) (by decide) ?_
                intro v1 w1 hown1 hg1
                obtain ⟨gp1, cp1, rfl⟩ := ownsRow_succ hown1
                have hg01 : wd.grownBy w1 none := World.grownBy.trans (World.grownBy_alloc wd _ none) hg1
                have hko1 : w1.ownsRow W.heap.size 79 7 u3 (kl ++ st).length (rowOf (kl ++ st)) := own_moved hkod (fun g cs hg hh => blk_grown hh hg01 (by simp))
                have hs01 := hg01.size
                refine hK.out _ _ ⟨(c_grown hHeld.1 hg1 (by simp)), (c_grown hHeld.2.1 hg1 (by simp)), (c_grown hHeld.2.2.1 hg1 (by simp)), (c_grown hHeld.2.2.2.1 hg1 (by simp)), (c_grown hHeld.2.2.2.2.1 hg1 (by simp)), (c_grown hHeld.2.2.2.2.2.1 hg1 (by simp)), (c_grown hHeld.2.2.2.2.2.2.1 hg1 (by simp)), (c_grown hHeld.2.2.2.2.2.2.2 hg1 (by simp))⟩ (fun hHeld => ?_)
                clear hK K
                refine norm_ (a' := ?_) ?_ ?_
                rotate_left
                · show Act.put _ (some 53) _ = _
                  simp only [Act.put, List.setIfInBounds_toArray, List.set_cons_zero, List.set_cons_succ, i64_w, i32_w]
                  rfl
                refine pure_ (i := 23) (N := some 58) (v := ?_) (a' := ?_) #[true, true, true, true, true, true, true, true, true, true, true, true, true, true, true, true, true, true, true, true, true, true, true, true, false, false, false, false, false, false, false, false] rfl rfl (by kernel_rfl) (fun _ _ _ h => h) (Or.inl ⟨by rfl, ?_⟩) ?_ ?_
                rotate_left
                · intro w'
                  go_simp
                  with_reducible rfl
                rotate_left
                · simp only [Act.put, List.setIfInBounds_toArray, List.set_cons_zero, List.set_cons_succ, i64_w, i32_w]
                  rfl
                refine pure_ (i := 24) (N := some 59) (v := ?_) (a' := ?_) #[true, true, true, true, true, true, true, true, true, true, true, true, true, true, true, true, true, true, true, true, true, true, true, true, true, false, false, false, false, false, false, false] rfl rfl (by kernel_rfl) (fun _ _ _ h => h) (Or.inl ⟨by rfl, ?_⟩) ?_ ?_
                rotate_left
                · intro w'
                  go_simp
                  with_reducible rfl
                rotate_left
                · simp only [Act.put, List.setIfInBounds_toArray, List.set_cons_zero, List.set_cons_succ, i64_w, i32_w]
                  rfl
                refine pure_ (i := 25) (N := some 60) (v := ?_) (a' := ?_) #[true, true, true, true, true, true, true, true, true, true, true, true, true, true, true, true, true, true, true, true, true, true, true, true, true, true, false, false, false, false, false, false] rfl rfl (by kernel_rfl) (fun _ _ _ h => h) (Or.inl ⟨by rfl, ?_⟩) ?_ ?_
                rotate_left
                · intro w'
                  go_simp
                  with_reducible rfl
                rotate_left
                · simp only [Act.put, List.setIfInBounds_toArray, List.set_cons_zero, List.set_cons_succ, i64_w, i32_w]
                  rfl
                refine pure_ (i := 26) (N := some 61) (v := ?_) (a' := ?_) #[true, true, true, true, true, true, true, true, true, true, true, true, true, true, true, true, true, true, true, true, true, true, true, true, true, true, true, false, false, false, false, false] rfl rfl (by kernel_rfl) (fun _ _ _ h => h) (Or.inl ⟨by rfl, ?_⟩) ?_ ?_
                rotate_left
                · intro w'
                  go_simp
                  with_reducible rfl
                rotate_left
                · simp only [Act.put, List.setIfInBounds_toArray, List.set_cons_zero, List.set_cons_succ, i64_w, i32_w]
                  rfl
                refine pure_ (i := 27) (N := some 62) (v := ?_) (a' := ?_) #[true, true, true, true, true, true, true, true, true, true, true, true, true, true, true, true, true, true, true, true, true, true, true, true, true, true, true, true, false, false, false, false] rfl rfl (by kernel_rfl) (fun _ _ _ h => h) (Or.inl ⟨by rfl, ?_⟩) ?_ ?_
                rotate_left
                · intro w'
                  go_simp
                  with_reducible rfl
                rotate_left
                · simp only [Act.put, List.setIfInBounds_toArray, List.set_cons_zero, List.set_cons_succ, i64_w, i32_w]
                  rfl
                refine pure_ (i := 28) (N := some 63) (v := ?_) (a' := ?_) #[true, true, true, true, true, true, true, true, true, true, true, true, true, true, true, true, true, true, true, true, true, true, true, true, true, true, true, true, true, false, false, false] rfl rfl (by kernel_rfl) (fun _ _ _ h => h) (Or.inl ⟨by rfl, ?_⟩) ?_ ?_
                rotate_left
                · intro w'
                  go_simp
                  with_reducible rfl
                rotate_left
                · simp only [Act.put, List.setIfInBounds_toArray, List.set_cons_zero, List.set_cons_succ, i64_w, i32_w]
                  rfl
                refine one_ (i := 29) (N := some 64) #[true, true, true, true, true, true, true, true, true, true, true, true, true, true, true, true, true, true, true, true, true, true, true, true, true, true, true, true, true, true, false, false] rfl rfl (by kernel_rfl) (by decide) (fun K hK => ?_)
                refine value_ (w1 := ?_) (v := ?_) (by rfl) rfl ?_ ?_
                rotate_left 2
                · go_simp
                  constructor
                  · rfl
                  · rfl
                refine hK.out _ _ ⟨(c_alloc hHeld.1 _), (c_alloc hHeld.2.1 _), (c_alloc hHeld.2.2.1 _), (c_alloc hHeld.2.2.2.1 _), (c_alloc hHeld.2.2.2.2.1 _), (c_alloc hHeld.2.2.2.2.2.1 _), (c_alloc hHeld.2.2.2.2.2.2.1 _), (c_alloc hHeld.2.2.2.2.2.2.2 _)⟩ (fun hHeld => ?_)
                clear hK K
                refine norm_ (a' := ?_) ?_ ?_
                rotate_left
                · show Act.put _ (some 64) _ = _
                  simp only [Act.put, List.setIfInBounds_toArray, List.set_cons_zero, List.set_cons_succ, i64_w, i32_w]
                  rfl
                refine one_ (i := 30) (N := some 65) #[true, true, true, true, true, true, true, true, true, true, true, true, true, true, true, true, true, true, true, true, true, true, true, true, true, true, true, true, true, true, true, false] rfl rfl (by kernel_rfl) (by decide) (fun K hK => ?_)
                refine step_append_lies _ (by rfl) _ _ _ (by rfl) W.heap.size 79 i0 _ 7 96 Try.underlying86 hi0 hz0 hz1 hz2 rfl (by omega) u3 (kl ++ st).length (rowOf (kl ++ st)) (by rfl) (own_alloc hko1 _) ⟨w1.heap.size, 0, none⟩ 1 1 [.int .i64 u.f0, .bool u.f1, .int .u64 u.f2, .string u.f3, .slice A4 u.f4.length c4, .slice (some ⟨gp1, 0, none⟩) (0 + 1) cp1, .bool ((m : Int) % 2 == 0)] (by rfl) (by rfl) (World.news_of_block (cs := #[.int .i64 u.f0, .bool u.f1, .int .u64 u.f2, .string u.f3, .slice A4 u.f4.length c4, .slice (some ⟨gp1, 0, none⟩) (0 + 1) cp1, .bool ((m : Int) % 2 == 0)]) (t := 79) (fr := (0, 0)) (heap_alloc_new w1 _)) (by simp [Value.oneCell']) (by omega) (by simp only [maxLen]; omega) (by omega) (by rw [World.size_alloc]; omega) (w1.heap.size + 1) (by rw [World.size_alloc]) ?_
                intro gg cap2 w2 hown2 hgrow hat hlt2
                refine hK.out _ _ ⟨(c_grown hHeld.1 hgrow (by first | exact Ne.symm hkne | exact Ne.symm hne2)), (c_grown hHeld.2.1 hgrow (by first | exact Ne.symm hkne | exact Ne.symm hne2)), (c_grown hHeld.2.2.1 hgrow (by first | exact Ne.symm hkne | exact Ne.symm hne2)), (c_grown hHeld.2.2.2.1 hgrow (by first | exact Ne.symm hkne | exact Ne.symm hne2)), (c_grown hHeld.2.2.2.2.1 hgrow (by first | exact Ne.symm hkne | exact Ne.symm hne2)), (c_grown hHeld.2.2.2.2.2.1 hgrow (by first | exact Ne.symm hkne | exact Ne.symm hne2)), (c_grown hHeld.2.2.2.2.2.2.1 hgrow (by first | exact Ne.symm hkne | exact Ne.symm hne2)), (c_grown hHeld.2.2.2.2.2.2.2 hgrow (by first | exact Ne.symm hkne | exact Ne.symm hne2))⟩ (fun hHeld => ?_)
                clear hK K
                refine norm_ (a' := ?_) ?_ ?_
                rotate_left
                · show Act.put _ (some 65) _ = _
                  simp only [Act.put, List.setIfInBounds_toArray, List.set_cons_zero, List.set_cons_succ, i64_w, i32_w]
                  rfl
                refine pure_ (i := 31) (N := some 3) (v := ?_) (a' := ?_) #[true, true, true, true, true, true, true, true, true, true, true, true, true, true, true, true, true, true, true, true, true, true, true, true, true, true, true, true, true, true, true, true] rfl rfl (by kernel_rfl) (fun _ _ _ h => h) (Or.inl ⟨by rfl, ?_⟩) ?_ ?_
                rotate_left
                · intro w'
                  go_simp
                  with_reducible rfl
                rotate_left
                · simp only [Act.put, List.setIfInBounds_toArray, List.set_cons_zero, List.set_cons_succ, i64_w, i32_w]
                  rfl
                refine done_ (by kernel_rfl) ?_
                gi_wp2
                gi_roundg m
                case rel => exact (by rw [← List.length_append]; exact fe_next hJG hBle hB0 (by rw [List.length_append]; exact Nat.add_le_add_right hsq 1) hkl hks hkst hko hkJ hkB hksz hkbx hkp hkne (World.grownBy.trans hgd hg01) hown1 (by rw [World.size_alloc]; omega) hown2 hgrow hat hu hm hl4 hC4 (fun v hv => hsP v (pre_mem hm hu hv)) (by rw [hkb]; exact key_bit m) (by first | rfl | exact congrArg (Value.int .i64) (by omega)))
                case measure => omega
            · obtain ⟨cs', hcs2, htk⟩ := path_cs hkp
              cases kb
              · gi_upto_region 8 with (fail)
                refine wpIn_wide.2 ?_
                refine start_ (n := 32) (S := fun w' => w'.cell? ⟨wo.heap.size, 0, none⟩ = some (.int .i64 x.f0) ∧ w'.cell? ⟨wo.heap.size, 4, none⟩ = some (.slice (some ad) x.f4.length cx) ∧ w'.cell? ⟨wo.heap.size, 5, none⟩ = some (.slice (some ⟨gp, 0, none⟩) psx.length cp) ∧ w'.cell? (ad.add (m * 5)) = some (.int .i64 u.f0) ∧ w'.cell? ⟨(ad.add (m * 5)).block, (ad.add (m * 5)).off + 1, none⟩ = some (.bool u.f1) ∧ w'.cell? ⟨(ad.add (m * 5)).block, (ad.add (m * 5)).off + 2, none⟩ = some (.int .u64 u.f2) ∧ w'.cell? ⟨(ad.add (m * 5)).block, (ad.add (m * 5)).off + 3, none⟩ = some (.string u.f3) ∧ w'.cell? ⟨(ad.add (m * 5)).block, (ad.add (m * 5)).off + 4, none⟩ = some (.slice A4 u.f4.length c4)) (ds := []) #[false, false, false, false, false, false, false, false, false, false, false, false, false, false, false, false, false, false, false, false, false, false, false, false, false, false, false, false, false, false, false, false] (by kernel_rfl) rfl rfl ⟨b0, b4, b5, e0, e1, e2, e3, e4⟩ (fun hHeld => ?_)
                have hkod : wr.drew.ownsRow W.heap.size 79 7 u3 (kl ++ st).length (rowOf (kl ++ st)) := hko
                have hcsd : wr.drew.heap[gp]? = some (.cells cs' 3 (0, 0)) := hcs2
                have hgd : wr.grownBy wr.drew none := undrew (World.grownBy.refl _ _)
                have hszd : wr.drew.heap.size = wr.heap.size := rfl
                generalize wr.drew = wd at hkod hgd hszd hHeld hcsd ⊢
                refine pure_ (i := 0) (N := some 35) (v := ?_) (a' := ?_) #[true, false, false, false, false, false, false, false, false, false, false, false, false, false, false, false, false, false, false, false, false, false, false, false, false, false, false, false, false, false, false, false] rfl rfl (by kernel_rfl) (fun _ _ _ h => h) (Or.inl ⟨by rfl, ?_⟩) ?_ ?_
                rotate_left
                · intro w'
                  go_simp
                  with_reducible rfl
                rotate_left
                · simp only [Act.put, List.setIfInBounds_toArray, List.set_cons_zero, List.set_cons_succ, i64_w, i32_w]
                  rfl
                refine pure_ (i := 1) (N := some 36) (v := ?_) (a' := ?_) #[true, true, false, false, false, false, false, false, false, false, false, false, false, false, false, false, false, false, false, false, false, false, false, false, false, false, false, false, false, false, false, false] rfl rfl (by kernel_rfl) (fun _ _ _ h => h) (Or.inl ⟨by rfl, ?_⟩) ?_ ?_
                rotate_left
                · intro w'
                  go_simp
                  with_reducible rfl
                rotate_left
                · simp only [Act.put, List.setIfInBounds_toArray, List.set_cons_zero, List.set_cons_succ, i64_w, i32_w]
                  rfl
                refine pure_ (i := 2) (N := some 37) (v := ?_) (a' := ?_) #[true, true, true, false, false, false, false, false, false, false, false, false, false, false, false, false, false, false, false, false, false, false, false, false, false, false, false, false, false, false, false, false] rfl rfl (by kernel_rfl) (fun _ _ _ h => h) (Or.inl ⟨by rfl, ?_⟩) ?_ ?_
                rotate_left
                · intro w'
                  go_simp
                  with_reducible rfl
                rotate_left
                · simp only [Act.put, List.setIfInBounds_toArray, List.set_cons_zero, List.set_cons_succ, i64_w, i32_w]
                  rfl
                refine pure_ (i := 4) (N := some 39) (v := ?_) (a' := ?_) #[true, true, true, false, true, false, false, false, false, false, false, false, false, false, false, false, false, false, false, false, false, false, false, false, false, false, false, false, false, false, false, false] rfl rfl (by kernel_rfl) (fun _ _ _ h => h) (Or.inl ⟨by rfl, ?_⟩) ?_ ?_
                rotate_left
                · intro w'
                  go_simp
                  with_reducible rfl
                rotate_left
                · simp only [Act.put, List.setIfInBounds_toArray, List.set_cons_zero, List.set_cons_succ, i64_w, i32_w]
                  rfl
                refine pure_ (i := 7) (N := some 42) (v := ?_) (a' := ?_) #[true, true, true, false, true, false, false, true, false, false, false, false, false, false, false, false, false, false, false, false, false, false, false, false, false, false, false, false, false, false, false, false] rfl rfl (by kernel_rfl) (fun _ _ _ h => h) (Or.inl ⟨by rfl, ?_⟩) ?_ ?_
                rotate_left
                · intro w'
                  go_simp
                  with_reducible rfl
                rotate_left
                · simp only [Act.put, List.setIfInBounds_toArray, List.set_cons_zero, List.set_cons_succ, i64_w, i32_w]
                  rfl
                refine pure_ (i := 9) (N := some 44) (v := ?_) (a' := ?_) #[true, true, true, false, true, false, false, true, false, true, false, false, false, false, false, false, false, false, false, false, false, false, false, false, false, false, false, false, false, false, false, false] rfl rfl (by kernel_rfl) (fun _ _ _ h => h) (Or.inl ⟨by rfl, ?_⟩) ?_ ?_
                rotate_left
                · intro w'
                  go_simp
                  with_reducible rfl
                rotate_left
                · simp only [Act.put, List.setIfInBounds_toArray, List.set_cons_zero, List.set_cons_succ, i64_w, i32_w]
                  rfl
                refine pure_ (i := 12) (N := some 47) (v := ?_) (a' := ?_) #[true, true, true, false, true, false, false, true, false, true, false, false, true, false, false, false, false, false, false, false, false, false, false, false, false, false, false, false, false, false, false, false] rfl rfl (by kernel_rfl) (fun _ _ _ h => h) (Or.inl ⟨by rfl, ?_⟩) ?_ ?_
                rotate_left
                · intro w'
                  go_simp
                  with_reducible rfl
                rotate_left
                · simp only [Act.put, List.setIfInBounds_toArray, List.set_cons_zero, List.set_cons_succ, i64_w, i32_w]
                  rfl
                refine pure_ (i := 16) (N := some 51) (v := ?_) (a' := ?_) #[true, true, true, false, true, false, false, true, false, true, false, false, true, false, false, false, true, false, false, false, false, false, false, false, false, false, false, false, false, false, false, false] rfl rfl (by kernel_rfl) (fun _ _ _ h => h) (Or.inl ⟨by rfl, ?_⟩) ?_ ?_
                rotate_left
                · intro w'
                  go_simp
                  with_reducible rfl
                rotate_left
                · simp only [Act.put, List.setIfInBounds_toArray, List.set_cons_zero, List.set_cons_succ, i64_w, i32_w]
                  rfl
                refine pure_ (i := 19) (N := some 54) (v := ?_) (a' := ?_) #[true, true, true, false, true, false, false, true, false, true, false, false, true, false, false, false, true, false, false, true, false, false, false, false, false, false, false, false, false, false, false, false] rfl rfl (by kernel_rfl) (fun _ _ _ h => h) (Or.inl ⟨by rfl, ?_⟩) ?_ ?_
                rotate_left
                · intro w'
                  go_simp
                  with_reducible rfl
                rotate_left
                · simp only [Act.put, List.setIfInBounds_toArray, List.set_cons_zero, List.set_cons_succ, i64_w, i32_w]
                  rfl
                refine pure_ (i := 20) (N := some 55) (v := ?_) (a' := ?_) #[true, true, true, false, true, false, false, true, false, true, false, false, true, false, false, false, true, false, false, true, true, false, false, false, false, false, false, false, false, false, false, false] rfl rfl (by kernel_rfl) (fun _ _ _ h => h) (Or.inl ⟨by rfl, ?_⟩) ?_ ?_
                rotate_left
                · intro w'
                  go_simp
                  with_reducible rfl
                rotate_left
                · simp only [Act.put, List.setIfInBounds_toArray, List.set_cons_zero, List.set_cons_succ, i64_w, i32_w]
                  rfl
                refine take_ (i := 3) (N := some 38) (v := ?_) (a' := ?_) #[true, true, true, true, true, false, false, true, false, true, false, false, true, false, false, false, true, false, false, true, true, false, false, false, false, false, false, false, false, false, false, false] rfl rfl (by kernel_rfl) (fun _ _ _ h => h) (Or.inl ⟨by rfl, ?_⟩) hHeld ?_ ?_
                rotate_left
                · rintro w' ⟨s0, s1, s2, s3, s4, s5, s6, s7⟩
                  go_simp
                  with_reducible rfl
                rotate_left
                · simp only [Act.put, List.setIfInBounds_toArray, List.set_cons_zero, List.set_cons_succ, i64_w, i32_w]
                  rfl
                refine pure_ (i := 5) (N := some 40) (v := ?_) (a' := ?_) #[true, true, true, true, true, true, false, true, false, true, false, false, true, false, false, false, true, false, false, true, true, false, false, false, false, false, false, false, false, false, false, false] rfl rfl (by kernel_rfl) (fun _ _ _ h => h) (Or.inl ⟨by rfl, ?_⟩) ?_ ?_
                rotate_left
                · intro w'
                  go_simp
                  with_reducible rfl
                rotate_left
                · simp only [Act.put, List.setIfInBounds_toArray, List.set_cons_zero, List.set_cons_succ, i64_w, i32_w]
                  rfl
                refine take_ (i := 6) (N := some 41) (v := ?_) (a' := ?_) #[true, true, true, true, true, true, true, true, false, true, false, false, true, false, false, false, true, false, false, true, true, false, false, false, false, false, false, false, false, false, false, false] rfl rfl (by kernel_rfl) (fun _ _ _ h => h) (Or.inl ⟨by rfl, ?_⟩) hHeld ?_ ?_
                rotate_left
                · rintro w' ⟨s0, s1, s2, s3, s4, s5, s6, s7⟩
                  go_simp
                  with_reducible rfl
                rotate_left
                · simp only [Act.put, List.setIfInBounds_toArray, List.set_cons_zero, List.set_cons_succ, i64_w, i32_w]
                  rfl
                refine take_ (i := 8) (N := some 43) (v := ?_) (a' := ?_) #[true, true, true, true, true, true, true, true, true, true, false, false, true, false, false, false, true, false, false, true, true, false, false, false, false, false, false, false, false, false, false, false] rfl rfl (by kernel_rfl) (fun _ _ _ h => h) (Or.inl ⟨by rfl, ?_⟩) hHeld ?_ ?_
                rotate_left
                · rintro w' ⟨s0, s1, s2, s3, s4, s5, s6, s7⟩
                  go_simp
                  with_reducible rfl
                rotate_left
                · simp only [Act.put, List.setIfInBounds_toArray, List.set_cons_zero, List.set_cons_succ, i64_w, i32_w]
                  rfl
                refine take_ (i := 10) (N := some 45) (v := ?_) (a' := ?_) #[true, true, true, true, true, true, true, true, true, true, true, false, true, false, false, false, true, false, false, true, true, false, false, false, false, false, false, false, false, false, false, false] rfl rfl (by kernel_rfl) (fun _ _ _ h => h) (Or.inl ⟨by rfl, ?_⟩) hHeld ?_ ?_
                rotate_left
                · rintro w' ⟨s0, s1, s2, s3, s4, s5, s6, s7⟩
                  go_simp
                  with_reducible rfl
                rotate_left
                · simp only [Act.put, List.setIfInBounds_toArray, List.set_cons_zero, List.set_cons_succ, i64_w, i32_w]
                  rfl
                refine pure_ (i := 11) (N := some 46) (v := ?_) (a' := ?_) #[true, true, true, true, true, true, true, true, true, true, true, true, true, false, false, false, true, false, false, true, true, false, false, false, false, false, false, false, false, false, false, false] rfl rfl (by kernel_rfl) (fun _ _ _ h => h) (Or.inl ⟨by rfl, ?_⟩) ?_ ?_
                rotate_left
                · intro w'
                  go_simp
                  with_reducible rfl
                rotate_left
                · simp only [Act.put, List.setIfInBounds_toArray, List.set_cons_zero, List.set_cons_succ, i64_w, i32_w]
                  rfl
                refine take_ (i := 13) (N := some 48) (v := ?_) (a' := ?_) #[true, true, true, true, true, true, true, true, true, true, true, true, true, true, false, false, true, false, false, true, true, false, false, false, false, false, false, false, false, false, false, false] rfl rfl (by kernel_rfl) (fun _ _ _ h => h) (Or.inl ⟨by rfl, ?_⟩) hHeld ?_ ?_
                rotate_left
                · rintro w' ⟨s0, s1, s2, s3, s4, s5, s6, s7⟩
                  go_simp
                  with_reducible rfl
                rotate_left
                · simp only [Act.put, List.setIfInBounds_toArray, List.set_cons_zero, List.set_cons_succ, i64_w, i32_w]
                  rfl
                refine pure_ (i := 14) (N := some 49) (v := ?_) (a' := ?_) #[true, true, true, true, true, true, true, true, true, true, true, true, true, true, true, false, true, false, false, true, true, false, false, false, false, false, false, false, false, false, false, false] rfl rfl (by kernel_rfl) (fun _ _ _ h => h) (Or.inl ⟨by rfl, ?_⟩) ?_ ?_
                rotate_left
                · intro w'
                  go_simp
                  with_reducible rfl
                rotate_left
                · simp only [Act.put, List.setIfInBounds_toArray, List.set_cons_zero, List.set_cons_succ, i64_w, i32_w]
                  rfl
                refine pure_ (i := 15) (N := some 50) (v := ?_) (a' := ?_) #[true, true, true, true, true, true, true, true, true, true, true, true, true, true, true, true, true, false, false, true, true, false, false, false, false, false, false, false, false, false, false, false] rfl rfl (by kernel_rfl) (fun _ _ _ h => h) (Or.inl ⟨by rfl, ?_⟩) ?_ ?_
                rotate_left
                · intro w'
                  go_simp
                  with_reducible rfl
                rotate_left
                · simp only [Act.put, List.setIfInBounds_toArray, List.set_cons_zero, List.set_cons_succ, i64_w, i32_w]
                  rfl
                refine take_ (i := 21) (N := some 56) (v := ?_) (a' := ?_) #[true, true, true, true, true, true, true, true, true, true, true, true, true, true, true, true, true, false, false, true, true, true, false, false, false, false, false, false, false, false, false, false] rfl rfl (by kernel_rfl) (fun _ _ _ h => h) (Or.inl ⟨by rfl, ?_⟩) hHeld ?_ ?_
                rotate_left
                · rintro w' ⟨s0, s1, s2, s3, s4, s5, s6, s7⟩
                  go_simp
                  with_reducible rfl
                rotate_left
                · simp only [Act.put, List.setIfInBounds_toArray, List.set_cons_zero, List.set_cons_succ, i64_w, i32_w]
                  rfl
                refine pure_ (i := 22) (N := some 57) (v := ?_) (a' := ?_) #[true, true, true, true, true, true, true, true, true, true, true, true, true, true, true, true, true, false, false, true, true, true, true, false, false, false, false, false, false, false, false, false] rfl rfl (by kernel_rfl) (fun _ _ _ h => h) (Or.inl ⟨by rfl, ?_⟩) ?_ ?_
                rotate_left
                · intro w'
                  go_simp
                  with_reducible rfl
                rotate_left
                · simp only [Act.put, List.setIfInBounds_toArray, List.set_cons_zero, List.set_cons_succ, i64_w, i32_w]
                  rfl
                refine one_ (i := 17) (N := some 52) #[true, true, true, true, true, true, true, true, true, true, true, true, true, true, true, true, true, true, false, true, true, true, true, false, false, false, false, false, false, false, false, false] rfl rfl (by kernel_rfl) (by decide) (fun K hK => ?_)
                refine value_ (w1 := ?_) (v := ?_) (by rfl) rfl ?_ ?_
                rotate_left 2
                · go_simp
                  constructor
                  · rfl
                  · rfl
                refine hK.out _ _ ⟨(c_alloc hHeld.1 _), (c_alloc hHeld.2.1 _), (c_alloc hHeld.2.2.1 _), (c_alloc hHeld.2.2.2.1 _), (c_alloc hHeld.2.2.2.2.1 _), (c_alloc hHeld.2.2.2.2.2.1 _), (c_alloc hHeld.2.2.2.2.2.2.1 _), (c_alloc hHeld.2.2.2.2.2.2.2 _)⟩ (fun hHeld => ?_)
                clear hK K
                refine norm_ (a' := ?_) ?_ ?_
                rotate_left
                · show Act.put _ (some 52) _ = _
                  simp only [Act.put, List.setIfInBounds_toArray, List.set_cons_zero, List.set_cons_succ, i64_w, i32_w]
                  rfl
                refine one_ (i := 18) (N := some 53) #[true, true, true, true, true, true, true, true, true, true, true, true, true, true, true, true, true, true, true, true, true, true, true, false, false, false, false, false, false, false, false, false] rfl rfl (by kernel_rfl) (by decide) (fun K hK => ?_)
                refine step_append_cut rfl _ _ _ 3 (.int .i64 0) 1 8 (by rfl) Try.underlying49 info3 rfl (by decide) ⟨gp, 0, none⟩ ⟨wr.heap.size, 0, none⟩ psx.length (psx.map (Value.int .i64)) [.int .i64 m] (by rfl) (by rfl) (by simp) (path_cells2 (blk_alloc hcsd _) htk) rfl (World.news_of_block (cs := #[.int .i64 m]) (t := 3) (fr := (0, 0)) (by rw [← hszd]; exact heap_alloc_new wd _)) (by omega) (by simp only [maxLen]; omega) ?_
                intro v1 w1 hown1 hg1
                obtain ⟨gp1, cp1, rfl⟩ := ownsRow_succ hown1
                have hg01 : wd.grownBy w1 none := World.grownBy.trans (World.grownBy_alloc wd _ none) hg1
                have hko1 : w1.ownsRow W.heap.size 79 7 u3 (kl ++ st).length (rowOf (kl ++ st)) := own_moved hkod (fun g cs hg hh => blk_grown hh hg01 (by simp))
                have hs01 := hg01.size
                refine hK.out _ _ ⟨(c_grown hHeld.1 hg1 (by simp)), (c_grown hHeld.2.1 hg1 (by simp)), (c_grown hHeld.2.2.1 hg1 (by simp)), (c_grown hHeld.2.2.2.1 hg1 (by simp)), (c_grown hHeld.2.2.2.2.1 hg1 (by simp)), (c_grown hHeld.2.2.2.2.2.1 hg1 (by simp)), (c_grown hHeld.2.2.2.2.2.2.1 hg1 (by simp)), (c_grown hHeld.2.2.2.2.2.2.2 hg1 (by simp))⟩ (fun hHeld => ?_)
                clear hK K
                refine norm_ (a' := ?_) ?_ ?_
                rotate_left
                · show Act.put _ (some 53) _ = _
                  simp only [Act.put, List.setIfInBounds_toArray, List.set_cons_zero, List.set_cons_succ, i64_w, i32_w]
                  rfl
                refine pure_ (i := 23) (N := some 58) (v := ?_) (a' := ?_) #[true, true, true, true, true, true, true, true, true, true, true, true, true, true, true, true, true, true, true, true, true, true, true, true, false, false, false, false, false, false, false, false] rfl rfl (by kernel_rfl) (fun _ _ _ h => h) (Or.inl ⟨by rfl, ?_⟩) ?_ ?_
                rotate_left
                · intro w'
                  go_simp
                  with_reducible rfl
                rotate_left
                · simp only [Act.put, List.setIfInBounds_toArray, List.set_cons_zero, List.set_cons_succ, i64_w, i32_w]
                  rfl
                refine pure_ (i := 24) (N := some 59) (v := undef) (a' := ?_) #[true, true, true, true, true, true, true, true, true, true, true, true, true, true, true, true, true, true, true, true, true, true, true, true, true, false, false, false, false, false, false, false] rfl rfl (by kernel_rfl) (fun _ _ _ h => h) (Or.inr ⟨by rfl, rfl⟩) ?_ ?_
                rotate_left
                · simp only [Act.put, List.setIfInBounds_toArray, List.set_cons_zero, List.set_cons_succ, i64_w, i32_w]
                  rfl
                refine pure_ (i := 25) (N := some 60) (v := undef) (a' := ?_) #[true, true, true, true, true, true, true, true, true, true, true, true, true, true, true, true, true, true, true, true, true, true, true, true, true, true, false, false, false, false, false, false] rfl rfl (by kernel_rfl) (fun _ _ _ h => h) (Or.inr ⟨by rfl, rfl⟩) ?_ ?_
                rotate_left
                · simp only [Act.put, List.setIfInBounds_toArray, List.set_cons_zero, List.set_cons_succ, i64_w, i32_w]
                  rfl
                refine pure_ (i := 26) (N := some 61) (v := undef) (a' := ?_) #[true, true, true, true, true, true, true, true, true, true, true, true, true, true, true, true, true, true, true, true, true, true, true, true, true, true, true, false, false, false, false, false] rfl rfl (by kernel_rfl) (fun _ _ _ h => h) (Or.inr ⟨by rfl, rfl⟩) ?_ ?_
                rotate_left
                · simp only [Act.put, List.setIfInBounds_toArray, List.set_cons_zero, List.set_cons_succ, i64_w, i32_w]
                  rfl
                refine pure_ (i := 27) (N := some 62) (v := ?_) (a' := ?_) #[true, true, true, true, true, true, true, true, true, true, true, true, true, true, true, true, true, true, true, true, true, true, true, true, true, true, true, true, false, false, false, false] rfl rfl (by kernel_rfl) (fun _ _ _ h => h) (Or.inl ⟨by rfl, ?_⟩) ?_ ?_
                rotate_left
                · intro w'
                  go_simp
                  with_reducible rfl
                rotate_left
                · simp only [Act.put, List.setIfInBounds_toArray, List.set_cons_zero, List.set_cons_succ, i64_w, i32_w]
                  rfl
                refine pure_ (i := 28) (N := some 63) (v := ?_) (a' := ?_) #[true, true, true, true, true, true, true, true, true, true, true, true, true, true, true, true, true, true, true, true, true, true, true, true, true, true, true, true, true, false, false, false] rfl rfl (by kernel_rfl) (fun _ _ _ h => h) (Or.inl ⟨by rfl, ?_⟩) ?_ ?_
                rotate_left
                · intro w'
                  go_simp
                  with_reducible rfl
                rotate_left
                · simp only [Act.put, List.setIfInBounds_toArray, List.set_cons_zero, List.set_cons_succ, i64_w, i32_w]
                  rfl
                refine one_ (i := 29) (N := some 64) #[true, true, true, true, true, true, true, true, true, true, true, true, true, true, true, true, true, true, true, true, true, true, true, true, true, true, true, true, true, true, false, false] rfl rfl (by kernel_rfl) (by decide) (fun K hK => ?_)
                refine value_ (w1 := ?_) (v := ?_) (by rfl) rfl ?_ ?_
                rotate_left 2
                · go_simp
                  constructor
                  · rfl
                  · rfl
                refine hK.out _ _ ⟨(c_alloc hHeld.1 _), (c_alloc hHeld.2.1 _), (c_alloc hHeld.2.2.1 _), (c_alloc hHeld.2.2.2.1 _), (c_alloc hHeld.2.2.2.2.1 _), (c_alloc hHeld.2.2.2.2.2.1 _), (c_alloc hHeld.2.2.2.2.2.2.1 _), (c_alloc hHeld.2.2.2.2.2.2.2 _)⟩ (fun hHeld => ?_)
                clear hK K
                refine norm_ (a' := ?_) ?_ ?_
                rotate_left
                · show Act.put _ (some 64) _ = _
                  simp only [Act.put, List.setIfInBounds_toArray, List.set_cons_zero, List.set_cons_succ, i64_w, i32_w]
                  rfl
                refine one_ (i := 30) (N := some 65) #[true, true, true, true, true, true, true, true, true, true, true, true, true, true, true, true, true, true, true, true, true, true, true, true, true, true, true, true, true, true, true, false] rfl rfl (by kernel_rfl) (by decide) (fun K hK => ?_)
                refine step_append_lies _ (by rfl) _ _ _ (by rfl) W.heap.size 79 i0 _ 7 96 Try.underlying86 hi0 hz0 hz1 hz2 rfl (by omega) u3 (kl ++ st).length (rowOf (kl ++ st)) (by rfl) (own_alloc hko1 _) ⟨w1.heap.size, 0, none⟩ 1 1 [.int .i64 u.f0, .bool u.f1, .int .u64 u.f2, .string u.f3, .slice A4 u.f4.length c4, .slice (some ⟨gp1, 0, none⟩) (psx.length + 1) cp1, .bool false] (by rfl) (by rfl) (World.news_of_block (cs := #[.int .i64 u.f0, .bool u.f1, .int .u64 u.f2, .string u.f3, .slice A4 u.f4.length c4, .slice (some ⟨gp1, 0, none⟩) (psx.length + 1) cp1, .bool false]) (t := 79) (fr := (0, 0)) (heap_alloc_new w1 _)) (by simp [Value.oneCell']) (by omega) (by simp only [maxLen]; omega) (by omega) (by rw [World.size_alloc]; omega) (w1.heap.size + 1) (by rw [World.size_alloc]) ?_
                intro gg cap2 w2 hown2 hgrow hat hlt2
                refine hK.out _ _ ⟨(c_grown hHeld.1 hgrow (by first | exact Ne.symm hkne | exact Ne.symm hne2)), (c_grown hHeld.2.1 hgrow (by first | exact Ne.symm hkne | exact Ne.symm hne2)), (c_grown hHeld.2.2.1 hgrow (by first | exact Ne.symm hkne | exact Ne.symm hne2)), (c_grown hHeld.2.2.2.1 hgrow (by first | exact Ne.symm hkne | exact Ne.symm hne2)), (c_grown hHeld.2.2.2.2.1 hgrow (by first | exact Ne.symm hkne | exact Ne.symm hne2)), (c_grown hHeld.2.2.2.2.2.1 hgrow (by first | exact Ne.symm hkne | exact Ne.symm hne2)), (c_grown hHeld.2.2.2.2.2.2.1 hgrow (by first | exact Ne.symm hkne | exact Ne.symm hne2)), (c_grown hHeld.2.2.2.2.2.2.2 hgrow (by first | exact Ne.symm hkne | exact Ne.symm hne2))⟩ (fun hHeld => ?_)
                clear hK K
                refine norm_ (a' := ?_) ?_ ?_
                rotate_left
                · show Act.put _ (some 65) _ = _
                  simp only [Act.put, List.setIfInBounds_toArray, List.set_cons_zero, List.set_cons_succ, i64_w, i32_w]
                  rfl
                refine pure_ (i := 31) (N := some 3) (v := ?_) (a' := ?_) #[true, true, true, true, true, true, true, true, true, true, true, true, true, true, true, true, true, true, true, true, true, true, true, true, true, true, true, true, true, true, true, true] rfl rfl (by kernel_rfl) (fun _ _ _ h => h) (Or.inl ⟨by rfl, ?_⟩) ?_ ?_
                rotate_left
                · intro w'
                  go_simp
                  with_reducible rfl
                rotate_left
                · simp only [Act.put, List.setIfInBounds_toArray, List.set_cons_zero, List.set_cons_succ, i64_w, i32_w]
                  rfl
                refine done_ (by kernel_rfl) ?_
                gi_wp2
                gi_roundg m
                case rel => exact (by rw [← List.length_append]; exact fe_next hJG hBle hB0 (by rw [List.length_append]; exact Nat.add_le_add_right hsq 1) hkl hks hkst hko hkJ hkB hksz hkbx hkp hkne (World.grownBy.trans hgd hg01) hown1 (by rw [World.size_alloc]; omega) hown2 hgrow hat hu hm hl4 hC4 (fun v hv => hsP v (pre_mem hm hu hv)) (by rw [hkb]; rfl) (by first | rfl | exact congrArg (Value.int .i64) (by omega)))
                case measure => omega
              · gi_upto_region 8 with (fail)
                refine wpIn_wide.2 ?_
                refine start_ (n := 32) (S := fun w' => w'.cell? ⟨wo.heap.size, 0, none⟩ = some (.int .i64 x.f0) ∧ w'.cell? ⟨wo.heap.size, 4, none⟩ = some (.slice (some ad) x.f4.length cx) ∧ w'.cell? ⟨wo.heap.size, 5, none⟩ = some (.slice (some ⟨gp, 0, none⟩) psx.length cp) ∧ w'.cell? (ad.add (m * 5)) = some (.int .i64 u.f0) ∧ w'.cell? ⟨(ad.add (m * 5)).block, (ad.add (m * 5)).off + 1, none⟩ = some (.bool u.f1) ∧ w'.cell? ⟨(ad.add (m * 5)).block, (ad.add (m * 5)).off + 2, none⟩ = some (.int .u64 u.f2) ∧ w'.cell? ⟨(ad.add (m * 5)).block, (ad.add (m * 5)).off + 3, none⟩ = some (.string u.f3) ∧ w'.cell? ⟨(ad.add (m * 5)).block, (ad.add (m * 5)).off + 4, none⟩ = some (.slice A4 u.f4.length c4)) (ds := []) #[false, false, false, false, false, false, false, false, false, false, false, false, false, false, false, false, false, false, false, false, false, false, false, false, false, false, false, false, false, false, false, false] (by kernel_rfl) rfl rfl ⟨b0, b4, b5, e0, e1, e2, e3, e4⟩ (fun hHeld => ?_)
                have hkod : wr.drew.ownsRow W.heap.size 79 7 u3 (kl ++ st).length (rowOf (kl ++ st)) := hko
                have hcsd : wr.drew.heap[gp]? = some (.cells cs' 3 (0, 0)) := hcs2
                have hgd : wr.grownBy wr.drew none := undrew (World.grownBy.refl _ _)
                have hszd : wr.drew.heap.size = wr.heap.size := rfl
                generalize wr.drew = wd at hkod hgd hszd hHeld hcsd ⊢
                refine pure_ (i := 0) (N := some 35) (v := ?_) (a' := ?_) #[true, false, false, false, false, false, false, false, false, false, false, false, false, false, false, false, false, false, false, false, false, false, false, false, false, false, false, false, false, false, false, false] rfl rfl (by kernel_rfl) (fun _ _ _ h => h) (Or.inl ⟨by rfl, ?_⟩) ?_ ?_
                rotate_left
                · intro w'
                  go_simp
                  with_reducible rfl
                rotate_left
                · simp only [Act.put, List.setIfInBounds_toArray, List.set_cons_zero, List.set_cons_succ, i64_w, i32_w]
                  rfl
                refine pure_ (i := 1) (N := some 36) (v := ?_) (a' := ?_) #[true, true, false, false, false, false, false, false, false, false, false, false, false, false, false, false, false, false, false, false, false, false, false, false, false, false, false, false, false, false, false, false] rfl rfl (by kernel_rfl) (fun _ _ _ h => h) (Or.inl ⟨by rfl, ?_⟩) ?_ ?_
                rotate_left
                · intro w'
                  go_simp
                  with_reducible rfl
                rotate_left
                · simp only [Act.put, List.setIfInBounds_toArray, List.set_cons_zero, List.set_cons_succ, i64_w, i32_w]
                  rfl
                refine pure_ (i := 2) (N := some 37) (v := ?_) (a' := ?_) #[true, true, true, false, false, false, false, false, false, false, false, false, false, false, false, false, false, false, false, false, false, false, false, false, false, false, false, false, false, false, false, false] rfl rfl (by kernel_rfl) (fun _ _ _ h => h) (Or.inl ⟨by rfl, ?_⟩) ?_ ?_
                rotate_left
                · intro w'
                  go_simp
                  with_reducible rfl
                rotate_left
                · simp only [Act.put, List.setIfInBounds_toArray, List.set_cons_zero, List.set_cons_succ, i64_w, i32_w]
                  rfl
                refine pure_ (i := 4) (N := some 39) (v := ?_) (a' := ?_) #[true, true, true, false, true, false, false, false, false, false, false, false, false, false, false, false, false, false, false, false, false, false, false, false, false, false, false, false, false, false, false, false] rfl rfl (by kernel_rfl) (fun _ _ _ h => h) (Or.inl ⟨by rfl, ?_⟩) ?_ ?_
                rotate_left
                · intro w'
                  go_simp
                  with_reducible rfl
                rotate_left
                · simp only [Act.put, List.setIfInBounds_toArray, List.set_cons_zero, List.set_cons_succ, i64_w, i32_w]
                  rfl
                refine pure_ (i := 7) (N := some 42) (v := ?_) (a' := ?_) #[true, true, true, false, true, false, false, true, false, false, false, false, false, false, false, false, false, false, false, false, false, false, false, false, false, false, false, false, false, false, false, false] rfl rfl (by kernel_rfl) (fun _ _ _ h => h) (Or.inl ⟨by rfl, ?_⟩) ?_ ?_
                rotate_left
                · intro w'
                  go_simp
                  with_reducible rfl
                rotate_left
                · simp only [Act.put, List.setIfInBounds_toArray, List.set_cons_zero, List.set_cons_succ, i64_w, i32_w]
                  rfl
                refine pure_ (i := 9) (N := some 44) (v := ?_) (a' := ?_) #[true, true, true, false, true, false, false, true, false, true, false, false, false, false, false, false, false, false, false, false, false, false, false, false, false, false, false, false, false, false, false, false] rfl rfl (by kernel_rfl) (fun _ _ _ h => h) (Or.inl ⟨by rfl, ?_⟩) ?_ ?_
                rotate_left
                · intro w'
                  go_simp
                  with_reducible rfl
                rotate_left
                · simp only [Act.put, List.setIfInBounds_toArray, List.set_cons_zero, List.set_cons_succ, i64_w, i32_w]
                  rfl
                refine pure_ (i := 12) (N := some 47) (v := ?_) (a' := ?_) #[true, true, true, false, true, false, false, true, false, true, false, false, true, false, false, false, false, false, false, false, false, false, false, false, false, false, false, false, false, false, false, false] rfl rfl (by kernel_rfl) (fun _ _ _ h => h) (Or.inl ⟨by rfl, ?_⟩) ?_ ?_
                rotate_left
                · intro w'
                  go_simp
                  with_reducible rfl
                rotate_left
                · simp only [Act.put, List.setIfInBounds_toArray, List.set_cons_zero, List.set_cons_succ, i64_w, i32_w]
                  rfl
                refine pure_ (i := 16) (N := some 51) (v := ?_) (a' := ?_) #[true, true, true, false, true, false, false, true, false, true, false, false, true, false, false, false, true, false, false, false, false, false, false, false, false, false, false, false, false, false, false, false] rfl rfl (by kernel_rfl) (fun _ _ _ h => h) (Or.inl ⟨by rfl, ?_⟩) ?_ ?_
                rotate_left
                · intro w'
                  go_simp
                  with_reducible rfl
                rotate_left
                · simp only [Act.put, List.setIfInBounds_toArray, List.set_cons_zero, List.set_cons_succ, i64_w, i32_w]
                  rfl
                refine pure_ (i := 19) (N := some 54) (v := ?_) (a' := ?_) #[true, true, true, false, true, false, false, true, false, true, false, false, true, false, false, false, true, false, false, true, false, false, false, false, false, false, false, false, false, false, false, false] rfl rfl (by kernel_rfl) (fun _ _ _ h => h) (Or.inl ⟨by rfl, ?_⟩) ?_ ?_
                rotate_left
                · intro w'
                  go_simp
                  with_reducible rfl
                rotate_left
                · simp only [Act.put, List.setIfInBounds_toArray, List.set_cons_zero, List.set_cons_succ, i64_w, i32_w]
                  rfl
                refine pure_ (i := 20) (N := some 55) (v := ?_) (a' := ?_) #[true, true, true, false, true, false, false, true, false, true, false, false, true, false, false, false, true, false, false, true, true, false, false, false, false, false, false, false, false, false, false, false] rfl rfl (by kernel_rfl) (fun _ _ _ h => h) (Or.inl ⟨by rfl, ?_⟩) ?_ ?_
                rotate_left
                · intro w'
                  go_simp
                  with_reducible rfl
                rotate_left
                · simp only [Act.put, List.setIfInBounds_toArray, List.set_cons_zero, List.set_cons_succ, i64_w, i32_w]
                  rfl
                refine take_ (i := 3) (N := some 38) (v := ?_) (a' := ?_) #[true, true, true, true, true, false, false, true, false, true, false, false, true, false, false, false, true, false, false, true, true, false, false, false, false, false, false, false, false, false, false, false] rfl rfl (by kernel_rfl) (fun _ _ _ h => h) (Or.inl ⟨by rfl, ?_⟩) hHeld ?_ ?_
                rotate_left
                · rintro w' ⟨s0, s1, s2, s3, s4, s5, s6, s7⟩
                  go_simp
                  with_reducible rfl
                rotate_left
                · simp only [Act.put, List.setIfInBounds_toArray, List.set_cons_zero, List.set_cons_succ, i64_w, i32_w]
                  rfl
                refine pure_ (i := 5) (N := some 40) (v := ?_) (a' := ?_) #[true, true, true, true, true, true, false, true, false, true, false, false, true, false, false, false, true, false, false, true, true, false, false, false, false, false, false, false, false, false, false, false] rfl rfl (by kernel_rfl) (fun _ _ _ h => h) (Or.inl ⟨by rfl, ?_⟩) ?_ ?_
                rotate_left
                · intro w'
                  go_simp
                  with_reducible rfl
                rotate_left
                · simp only [Act.put, List.setIfInBounds_toArray, List.set_cons_zero, List.set_cons_succ, i64_w, i32_w]
                  rfl
                refine take_ (i := 6) (N := some 41) (v := ?_) (a' := ?_) #[true, true, true, true, true, true, true, true, false, true, false, false, true, false, false, false, true, false, false, true, true, false, false, false, false, false, false, false, false, false, false, false] rfl rfl (by kernel_rfl) (fun _ _ _ h => h) (Or.inl ⟨by rfl, ?_⟩) hHeld ?_ ?_
                rotate_left
                · rintro w' ⟨s0, s1, s2, s3, s4, s5, s6, s7⟩
                  go_simp
                  with_reducible rfl
                rotate_left
                · simp only [Act.put, List.setIfInBounds_toArray, List.set_cons_zero, List.set_cons_succ, i64_w, i32_w]
                  rfl
                refine take_ (i := 8) (N := some 43) (v := ?_) (a' := ?_) #[true, true, true, true, true, true, true, true, true, true, false, false, true, false, false, false, true, false, false, true, true, false, false, false, false, false, false, false, false, false, false, false] rfl rfl (by kernel_rfl) (fun _ _ _ h => h) (Or.inl ⟨by rfl, ?_⟩) hHeld ?_ ?_
                rotate_left
                · rintro w' ⟨s0, s1, s2, s3, s4, s5, s6, s7⟩
                  go_simp
                  with_reducible rfl
                rotate_left
                · simp only [Act.put, List.setIfInBounds_toArray, List.set_cons_zero, List.set_cons_succ, i64_w, i32_w]
                  rfl
                refine take_ (i := 10) (N := some 45) (v := ?_) (a' := ?_) #[true, true, true, true, true, true, true, true, true, true, true, false, true, false, false, false, true, false, false, true, true, false, false, false, false, false, false, false, false, false, false, false] rfl rfl (by kernel_rfl) (fun _ _ _ h => h) (Or.inl ⟨by rfl, ?_⟩) hHeld ?_ ?_
                rotate_left
                · rintro w' ⟨s0, s1, s2, s3, s4, s5, s6, s7⟩
                  go_simp
                  with_reducible rfl
                rotate_left
                · simp only [Act.put, List.setIfInBounds_toArray, List.set_cons_zero, List.set_cons_succ, i64_w, i32_w]
                  rfl
                refine pure_ (i := 11) (N := some 46) (v := ?_) (a' := ?_) #[true, true, true, true, true, true, true, true, true, true, true, true, true, false, false, false, true, false, false, true, true, false, false, false, false, false, false, false, false, false, false, false] rfl rfl (by kernel_rfl) (fun _ _ _ h => h) (Or.inl ⟨by rfl, ?_⟩) ?_ ?_
                rotate_left
                · intro w'
                  go_simp
                  with_reducible rfl
                rotate_left
                · simp only [Act.put, List.setIfInBounds_toArray, List.set_cons_zero, List.set_cons_succ, i64_w, i32_w]
                  rfl
                refine take_ (i := 13) (N := some 48) (v := ?_) (a' := ?_) #[true, true, true, true, true, true, true, true, true, true, true, true, true, true, false, false, true, false, false, true, true, false, false, false, false, false, false, false, false, false, false, false] rfl rfl (by kernel_rfl) (fun _ _ _ h => h) (Or.inl ⟨by rfl, ?_⟩) hHeld ?_ ?_
                rotate_left
                · rintro w' ⟨s0, s1, s2, s3, s4, s5, s6, s7⟩
                  go_simp
                  with_reducible rfl
                rotate_left
                · simp only [Act.put, List.setIfInBounds_toArray, List.set_cons_zero, List.set_cons_succ, i64_w, i32_w]
                  rfl
                refine pure_ (i := 14) (N := some 49) (v := ?_) (a' := ?_) #[true, true, true, true, true, true, true, true, true, true, true, true, true, true, true, false, true, false, false, true, true, false, false, false, false, false, false, false, false, false, false, false] rfl rfl (by kernel_rfl) (fun _ _ _ h => h) (Or.inl ⟨by rfl, ?_⟩) ?_ ?_
                rotate_left
                · intro w'
                  go_simp
                  with_reducible rfl
                rotate_left
                · simp only [Act.put, List.setIfInBounds_toArray, List.set_cons_zero, List.set_cons_succ, i64_w, i32_w]
                  rfl
                refine pure_ (i := 15) (N := some 50) (v := ?_) (a' := ?_) #[true, true, true, true, true, true, true, true, true, true, true, true, true, true, true, true, true, false, false, true, true, false, false, false, false, false, false, false, false, false, false, false] rfl rfl (by kernel_rfl) (fun _ _ _ h => h) (Or.inl ⟨by rfl, ?_⟩) ?_ ?_
                rotate_left
                · intro w'
                  go_simp
                  with_reducible rfl
                rotate_left
                · simp only [Act.put, List.setIfInBounds_toArray, List.set_cons_zero, List.set_cons_succ, i64_w, i32_w]
                  rfl
                refine take_ (i := 21) (N := some 56) (v := ?_) (a' := ?_) #[true, true, true, true, true, true, true, true, true, true, true, true, true, true, true, true, true, false, false, true, true, true, false, false, false, false, false, false, false, false, false, false] rfl rfl (by kernel_rfl) (fun _ _ _ h => h) (Or.inl ⟨by rfl, ?_⟩) hHeld ?_ ?_
                rotate_left
                · rintro w' ⟨s0, s1, s2, s3, s4, s5, s6, s7⟩
                  go_simp
                  with_reducible rfl
                rotate_left
                · simp only [Act.put, List.setIfInBounds_toArray, List.set_cons_zero, List.set_cons_succ, i64_w, i32_w]
                  rfl
                refine pure_ (i := 22) (N := some 57) (v := ?_) (a' := ?_) #[true, true, true, true, true, true, true, true, true, true, true, true, true, true, true, true, true, false, false, true, true, true, true, false, false, false, false, false, false, false, false, false] rfl rfl (by kernel_rfl) (fun _ _ _ h => h) (Or.inl ⟨by rfl, ?_⟩) ?_ ?_
                rotate_left
                · intro w'
                  go_simp
                  with_reducible rfl
                rotate_left
                · simp only [Act.put, List.setIfInBounds_toArray, List.set_cons_zero, List.set_cons_succ, i64_w, i32_w]
                  rfl
                refine one_ (i := 17) (N := some 52) #[true, true, true, true, true, true, true, true, true, true, true, true, true, true, true, true, true, true, false, true, true, true, true, false, false, false, false, false, false, false, false, false] rfl rfl (by kernel_rfl) (by decide) (fun K hK => ?_)
                refine value_ (w1 := ?_) (v := ?_) (by rfl) rfl ?_ ?_
                rotate_left 2
                · go_simp
                  constructor
                  · rfl
                  · rfl
                refine hK.out _ _ ⟨(c_alloc hHeld.1 _), (c_alloc hHeld.2.1 _), (c_alloc hHeld.2.2.1 _), (c_alloc hHeld.2.2.2.1 _), (c_alloc hHeld.2.2.2.2.1 _), (c_alloc hHeld.2.2.2.2.2.1 _), (c_alloc hHeld.2.2.2.2.2.2.1 _), (c_alloc hHeld.2.2.2.2.2.2.2 _)⟩ (fun hHeld => ?_)
                clear hK K
                refine norm_ (a' := ?_) ?_ ?_
                rotate_left
                · show Act.put _ (some 52) _ = _
                  simp only [Act.put, List.setIfInBounds_toArray, List.set_cons_zero, List.set_cons_succ, i64_w, i32_w]
                  rfl
                refine one_ (i := 18) (N := some 53) #[true, true, true, true, true, true, true, true, true, true, true, true, true, true, true, true, true, true, true, true, true, true, true, false, false, false, false, false, false, false, false, false] rfl rfl (by kernel_rfl) (by decide) (fun K hK => ?_)
                refine step_append_cut rfl _ _ _ 3 (.int .i64 0) 1 8 (by rfl) Try.underlying49 info3 rfl (by decide) ⟨gp, 0, none⟩ ⟨wr.heap.size, 0, none⟩ psx.length (psx.map (Value.int .i64)) [.int .i64 m] (by rfl) (by rfl) (by simp) (path_cells2 (blk_alloc hcsd _) htk) rfl (World.news_of_block (cs := #[.int .i64 m]) (t := 3) (fr := (0, 0)) (by rw [← hszd]; exact heap_alloc_new wd _)) (by omega) (by simp only [maxLen]; omega) ?_
                intro v1 w1 hown1 hg1
                obtain ⟨gp1, cp1, rfl⟩ := ownsRow_succ hown1
                have hg01 : wd.grownBy w1 none := World.grownBy.trans (World.grownBy_alloc wd _ none) hg1
                have hko1 : w1.ownsRow W.heap.size 79 7 u3 (kl ++ st).length (rowOf (kl ++ st)) := own_moved hkod (fun g cs hg hh => blk_grown hh hg01 (by simp))
                have hs01 := hg01.size
                refine hK.out _ _ ⟨(c_grown hHeld.1 hg1 (by simp)), (c_grown hHeld.2.1 hg1 (by simp)), (c_grown hHeld.2.2.1 hg1 (by simp)), (c_grown hHeld.2.2.2.1 hg1 (by simp)), (c_grown hHeld.2.2.2.2.1 hg1 (by simp)), (c_grown hHeld.2.2.2.2.2.1 hg1 (by simp)), (c_grown hHeld.2.2.2.2.2.2.1 hg1 (by simp)), (c_grown hHeld.2.2.2.2.2.2.2 hg1 (by simp))⟩ (fun hHeld => ?_)
                clear hK K
                refine norm_ (a' := ?_) ?_ ?_
                rotate_left
                · show Act.put _ (some 53) _ = _
                  simp only [Act.put, List.setIfInBounds_toArray, List.set_cons_zero, List.set_cons_succ, i64_w, i32_w]
                  rfl
                refine pure_ (i := 23) (N := some 58) (v := ?_) (a' := ?_) #[true, true, true, true, true, true, true, true, true, true, true, true, true, true, true, true, true, true, true, true, true, true, true, true, false, false, false, false, false, false, false, false] rfl rfl (by kernel_rfl) (fun _ _ _ h => h) (Or.inl ⟨by rfl, ?_⟩) ?_ ?_
                rotate_left
                · intro w'
                  go_simp
                  with_reducible rfl
                rotate_left
                · simp only [Act.put, List.setIfInBounds_toArray, List.set_cons_zero, List.set_cons_succ, i64_w, i32_w]
                  rfl
                refine pure_ (i := 24) (N := some 59) (v := ?_) (a' := ?_) #[true, true, true, true, true, true, true, true, true, true, true, true, true, true, true, true, true, true, true, true, true, true, true, true, true, false, false, false, false, false, false, false] rfl rfl (by kernel_rfl) (fun _ _ _ h => h) (Or.inl ⟨by rfl, ?_⟩) ?_ ?_
                rotate_left
                · intro w'
                  go_simp
                  with_reducible rfl
                rotate_left
                · simp only [Act.put, List.setIfInBounds_toArray, List.set_cons_zero, List.set_cons_succ, i64_w, i32_w]
                  rfl
                refine pure_ (i := 25) (N := some 60) (v := ?_) (a' := ?_) #[true, true, true, true, true, true, true, true, true, true, true, true, true, true, true, true, true, true, true, true, true, true, true, true, true, true, false, false, false, false, false, false] rfl rfl (by kernel_rfl) (fun _ _ _ h => h) (Or.inl ⟨by rfl, ?_⟩) ?_ ?_
                rotate_left
                · intro w'
                  go_simp
                  with_reducible rfl
                rotate_left
                · simp only [Act.put, List.setIfInBounds_toArray, List.set_cons_zero, List.set_cons_succ, i64_w, i32_w]
                  rfl
                refine pure_ (i := 26) (N := some 61) (v := ?_) (a' := ?_) #[true, true, true, true, true, true, true, true, true, true, true, true, true, true, true, true, true, true, true, true, true, true, true, true, true, true, true, false, false, false, false, false] rfl rfl (by kernel_rfl) (fun _ _ _ h => h) (Or.inl ⟨by rfl, ?_⟩) ?_ ?_
                rotate_left
                · intro w'
                  go_simp
                  with_reducible rfl
                rotate_left
                · simp only [Act.put, List.setIfInBounds_toArray, List.set_cons_zero, List.set_cons_succ, i64_w, i32_w]
                  rfl
                refine pure_ (i := 27) (N := some 62) (v := ?_) (a' := ?_) #[true, true, true, true, true, true, true, true, true, true, true, true, true, true, true, true, true, true, true, true, true, true, true, true, true, true, true, true, false, false, false, false] rfl rfl (by kernel_rfl) (fun _ _ _ h => h) (Or.inl ⟨by rfl, ?_⟩) ?_ ?_
                rotate_left
                · intro w'
                  go_simp
                  with_reducible rfl
                rotate_left
                · simp only [Act.put, List.setIfInBounds_toArray, List.set_cons_zero, List.set_cons_succ, i64_w, i32_w]
                  rfl
                refine pure_ (i := 28) (N := some 63) (v := ?_) (a' := ?_) #[true, true, true, true, true, true, true, true, true, true, true, true, true, true, true, true, true, true, true, true, true, true, true, true, true, true, true, true, true, false, false, false] rfl rfl (by kernel_rfl) (fun _ _ _ h => h) (Or.inl ⟨by rfl, ?_⟩) ?_ ?_
                rotate_left
                · intro w'
                  go_simp
                  with_reducible rfl
                rotate_left
                · simp only [Act.put, List.setIfInBounds_toArray, List.set_cons_zero, List.set_cons_succ, i64_w, i32_w]
                  rfl
                refine one_ (i := 29) (N := some 64) #[true, true, true, true, true, true, true, true, true, true, true, true, true, true, true, true, true, true, true, true, true, true, true, true, true, true, true, true, true, true, false, false] rfl rfl (by kernel_rfl) (by decide) (fun K hK => ?_)
                refine value_ (w1 := ?_) (v := ?_) (by rfl) rfl ?_ ?_
                rotate_left 2
                · go_simp
                  constructor
                  · rfl
                  · rfl
                refine hK.out _ _ ⟨(c_alloc hHeld.1 _), (c_alloc hHeld.2.1 _), (c_alloc hHeld.2.2.1 _), (c_alloc hHeld.2.2.2.1 _), (c_alloc hHeld.2.2.2.2.1 _), (c_alloc hHeld.2.2.2.2.2.1 _), (c_alloc hHeld.2.2.2.2.2.2.1 _), (c_alloc hHeld.2.2.2.2.2.2.2 _)⟩ (fun hHeld => ?_)
                clear hK K
                refine norm_ (a' := ?_) ?_ ?_
                rotate_left
                · show Act.put _ (some 64) _ = _
                  simp only [Act.put, List.setIfInBounds_toArray, List.set_cons_zero, List.set_cons_succ, i64_w, i32_w]
                  rfl
                refine one_ (i := 30) (N := some 65) #[true, true, true, true, true, true, true, true, true, true, true, true, true, true, true, true, true, true, true, true, true, true, true, true, true, true, true, true, true, true, true, false] rfl rfl (by kernel_rfl) (by decide) (fun K hK => ?_)
                refine step_append_lies _ (by rfl) _ _ _ (by rfl) W.heap.size 79 i0 _ 7 96 Try.underlying86 hi0 hz0 hz1 hz2 rfl (by omega) u3 (kl ++ st).length (rowOf (kl ++ st)) (by rfl) (own_alloc hko1 _) ⟨w1.heap.size, 0, none⟩ 1 1 [.int .i64 u.f0, .bool u.f1, .int .u64 u.f2, .string u.f3, .slice A4 u.f4.length c4, .slice (some ⟨gp1, 0, none⟩) (psx.length + 1) cp1, .bool ((m : Int) % 2 == 0)] (by rfl) (by rfl) (World.news_of_block (cs := #[.int .i64 u.f0, .bool u.f1, .int .u64 u.f2, .string u.f3, .slice A4 u.f4.length c4, .slice (some ⟨gp1, 0, none⟩) (psx.length + 1) cp1, .bool ((m : Int) % 2 == 0)]) (t := 79) (fr := (0, 0)) (heap_alloc_new w1 _)) (by simp [Value.oneCell']) (by omega) (by simp only [maxLen]; omega) (by omega) (by rw [World.size_alloc]; omega) (w1.heap.size + 1) (by rw [World.size_alloc]) ?_
                intro gg cap2 w2 hown2 hgrow hat hlt2
                refine hK.out _ _ ⟨(c_grown hHeld.1 hgrow (by first | exact Ne.symm hkne | exact Ne.symm hne2)), (c_grown hHeld.2.1 hgrow (by first | exact Ne.symm hkne | exact Ne.symm hne2)), (c_grown hHeld.2.2.1 hgrow (by first | exact Ne.symm hkne | exact Ne.symm hne2)), (c_grown hHeld.2.2.2.1 hgrow (by first | exact Ne.symm hkne | exact Ne.symm hne2)), (c_grown hHeld.2.2.2.2.1 hgrow (by first | exact Ne.symm hkne | exact Ne.symm hne2)), (c_grown hHeld.2.2.2.2.2.1 hgrow (by first | exact Ne.symm hkne | exact Ne.symm hne2)), (c_grown hHeld.2.2.2.2.2.2.1 hgrow (by first | exact Ne.symm hkne | exact Ne.symm hne2)), (c_grown hHeld.2.2.2.2.2.2.2 hgrow (by first | exact Ne.symm hkne | exact Ne.symm hne2))⟩ (fun hHeld => ?_)
                clear hK K
                refine norm_ (a' := ?_) ?_ ?_
                rotate_left
                · show Act.put _ (some 65) _ = _
                  simp only [Act.put, List.setIfInBounds_toArray, List.set_cons_zero, List.set_cons_succ, i64_w, i32_w]
                  rfl
                refine pure_ (i := 31) (N := some 3) (v := ?_) (a' := ?_) #[true, true, true, true, true, true, true, true, true, true, true, true, true, true, true, true, true, true, true, true, true, true, true, true, true, true, true, true, true, true, true, true] rfl rfl (by kernel_rfl) (fun _ _ _ h => h) (Or.inl ⟨by rfl, ?_⟩) ?_ ?_
                rotate_left
                · intro w'
                  go_simp
                  with_reducible rfl
                rotate_left
                · simp only [Act.put, List.setIfInBounds_toArray, List.set_cons_zero, List.set_cons_succ, i64_w, i32_w]
                  rfl
                refine done_ (by kernel_rfl) ?_
                gi_wp2
                gi_roundg m
                case rel => exact (by rw [← List.length_append]; exact fe_next hJG hBle hB0 (by rw [List.length_append]; exact Nat.add_le_add_right hsq 1) hkl hks hkst hko hkJ hkB hksz hkbx hkp hkne (World.grownBy.trans hgd hg01) hown1 (by rw [World.size_alloc]; omega) hown2 hgrow hat hu hm hl4 hC4 (fun v hv => hsP v (pre_mem hm hu hv)) (by rw [hkb]; exact key_bit m) (by first | rfl | exact congrArg (Value.int .i64) (by omega)))
                case measure => omega
            -- REGION 8 ENDS
      · refine bodyPost_ret (results_none rfl _ _ _) rfl ?_
        refine ⟨⟨_, rfl⟩, .inr ⟨q ++ [xe], ?_, hx2⟩⟩
        show (q ++ [xe]).map (·.1.desc) <+: preS t [] key
        rw [← hq, List.map_append]
        simp only [List.map_cons, List.map_nil, hxs]
        refine ⟨preSL (x.f0 == 12) x.f4 psx 0 ++ stackPre st, ?_⟩
        show _ = _ ++ (Spot.pre _ ++ stackPre st)
        rw [Spot.pre_eq]
        simp [List.append_assoc]
end Go.Proofs.Ytfcfnnkepjoncaa.Hand
