import Derived.Test.YtfcfnnkepjoncaaDoorProg
import Derived.WalkKit
import Derived.WalkSpells
import Derived.StillTactics
import Derived.OwnWalk
import Derived.Laws.Pointers
import Derived.Deep.RegionHeld3
import Derived.Deep.AppendLies
import Derived.Deep.RegionLaw
import Derived.StillTailTactics
import Derived.KernelRfl
import Derived.Outline
import Derived.Test.YtfcfnnkepjoncaaDoorWWords
import Derived.Test.YtfcfnnkepjoncaaDoorWKept
namespace Go.Proofs.YtfcfnnkepjoncaaDoor.Base
open Go.RowKit Go.Proofs.YtfcfnnkepjoncaaDoorW.PrintWords Go.Proofs.YtfcfnnkepjoncaaDoorW.PrintLast
set_option linter.unusedVariables false
set_option linter.unusedSimpArgs false

theorem info5 : (Tryd.prog.info? 5).map (fun i => (i.zero, i.size, i.bytes)) = some (some (.int .u8 0), 1, 1) := by kernel_rfl

theorem own_succ {w : World} {base e : Nat} {v : Value} {n : Nat} {xs : List Value} (h : w.ownsRow base e 1 v (n + 1) xs) : ∃ g cap, v = .slice (some ⟨g, 0, none⟩) (n + 1) cap := by
  rcases h.2 with ⟨_, h0⟩ | ⟨g, cap, _, rfl, _⟩
  · omega
  · exact ⟨g, cap, rfl⟩
theorem own_apart {w : World} {base e e' : Nat} {v : Value} {n s : Nat} {xs : List Value} (h : w.ownsRow base e s v n xs) {b : Nat} {cs : Array Value} {f : Nat × Nat} (hb : w.heap[b]? = some (.cells cs e' f)) (hne : e' ≠ e) : v.ownBlock ≠ some b := by
  intro q
  rcases h.2 with ⟨rfl, _⟩ | ⟨g, cap, cur, rfl, _, hh, _⟩
  · simp [Value.ownBlock] at q
  · simp [Value.ownBlock] at q; subst q; rw [hb] at hh; simp at hh; exact hne hh.2.1
theorem one_kept {w w1 : World} {row : Option Nat} {b : Nat} {o : Obj} (hg : w.grownBy w1 row) (hb : w.heap[b]? = some o) (hr : row ≠ some b) : w1.heap[b]? = some o := by
  rw [hg.block b (lt_of_block hb) (fun e => hr e.symm)]; exact hb
/-- put: one letter more -/
def PutPost (w : World) (go base : Nat) (ov : Value) (n : Nat) (xs : List Value) (e : Ending) (w' : World) : Prop :=
  e = .returned (.tuple #[]) ∧ ∃ v', w'.heap[go]? = some (.cells #[v'] 22 (0, 0)) ∧ w'.ownsRow base 5 1 v' n xs ∧ Below base w w' ∧ ∀ k, k < w.heap.size → k ≠ go → ov.ownBlock ≠ some k → w'.heap[k]? = w.heap[k]?

set_option maxRecDepth 100000 in
set_option maxHeartbeats 3200000 in
theorem put_any (go ga : Nat) (letters : ByteArray) (bits fill : Int) (ov : Value) (n : Nat) (xs : List Value) (i : Nat) (w : World) (base : Nat)
    (ho : w.heap[go]? = some (.cells #[ov] 22 (0, 0))) (ha : w.heap[ga]? = some (.cells #[.string letters, .int .i64 bits, .int .i64 fill] 48 (0, 0)))
    (hown : w.ownsRow base 5 1 ov n xs) (hi : i < letters.size) (hbase : base ≤ w.heap.size) (hn : n + 1 ≤ 140737488355328) (hgo : base ≤ go) :
    Calls Tryd.prog 18 #[.int .i64 i, .pointer (some ⟨go, 0, none⟩), .pointer (some ⟨ga, 0, none⟩)] w (PutPost w go base ov (n + 1) (xs ++ [.int .u8 (bt letters i)])) := by
  obtain ⟨i0, hi0, hz0, hz1, hz2⟩ := info_parts info5
  have cO : w.cell? ⟨go, 0, none⟩ = some ov := cell_of_one ho
  have cA : w.cell? ⟨ga, 0, none⟩ = some (.string letters) := by simp [World.cell?, ha]
  have lo := lt_of_block ho
  have la := lt_of_block ha
  have ao := own_apart hown ho (by decide)
  have aa := own_apart hown ha (by decide)
  have hi1 : (0 : Int) ≤ (i : Int) := by omega
  have hi2 : (i : Int) < (letters.size : Int) := by omega
  have hbt := bt_at letters (i : Int)
  go_enter Tryd.func18, Tryd.ntmps18
  go_wp2_with fail
  go_region_law (refine step_append_cells (w0 := w) (W := w.drew) base (by rfl) (.tmp 4) (.tmp 9) 22 5 (.int .u8 0) 1 1 rfl Tryd.underlying22 info5 rfl (by decide) (by decide) ov n xs [.int .u8 ((letters[i]'hi).toNat : Int)] (by rfl) (by rfl) rfl (by simp [Value.oneCell']) hown.drew (Below.refl _ _).drew hbase (by omega) ?_; intro v1 w1 hown1 hb1 hg1 hat; obtain ⟨g1, cap1, rfl⟩ := own_succ hown1; have k1 := one_kept hg1 ho ao; have c1 := cell_of_one k1; have f1 := free_of_one k1)
  all_goals
    go_end0
    have hap := own_apart hown1 k1 (by decide)
    refine ⟨rfl, _, one_setCell k1, ?_, hb1.setCell hgo _, ?_⟩
    · rw [show bt letters (i : Int) = ((letters[i]'hi).toNat : Int) from (hbt (by simpa using hi)).symm]
      exact ownsRow_setCell_other hown1 hap _
    · intro k hk hne hov
      rw [Below.heap_setCell _ _ _ _ hne]
      exact hg1.block k hk (fun e => hov e.symm)

theorem put_int (go ga : Nat) (letters : ByteArray) (bits fill : Int) (ov : Value) (n : Nat) (xs : List Value) (i : Int) (w : World) (base : Nat)
    (ho : w.heap[go]? = some (.cells #[ov] 22 (0, 0))) (ha : w.heap[ga]? = some (.cells #[.string letters, .int .i64 bits, .int .i64 fill] 48 (0, 0)))
    (hown : w.ownsRow base 5 1 ov n xs) (h0 : 0 ≤ i) (hi : i < (letters.size : Int)) (hbase : base ≤ w.heap.size) (hn : n + 1 ≤ 140737488355328) (hgo : base ≤ go) :
    Calls Tryd.prog 18 #[.int .i64 i, .pointer (some ⟨go, 0, none⟩), .pointer (some ⟨ga, 0, none⟩)] w (PutPost w go base ov (n + 1) (xs ++ [.int .u8 (bt letters i)])) := by
  obtain ⟨j, rfl⟩ := Int.eq_ofNat_of_zero_le h0
  exact put_any go ga letters bits fill ov n xs j w base ho ha hown (by omega) hbase hn hgo

/-- digits of tw bits, the highest first, and what is left -/
def drain (tw : Nat) (X N : Nat) : List Nat × Nat × Nat :=
  if h : 0 < tw ∧ tw ≤ N then ((X / 2 ^ (N - tw)) :: (drain tw (X % 2 ^ (N - tw)) (N - tw)).1, (drain tw (X % 2 ^ (N - tw)) (N - tw)).2) else ([], X, N)
termination_by N
decreasing_by all_goals omega

/-- what the two closures share: a number and how many bits it has; the widths; where what comes out goes -/
structure Bin (w : World) (gx gf gn gt gp go ga : Nat) (tw : Nat) (letters : ByteArray) (bits fill : Int) (base : Nat) (x n : Nat) (ov : Value) (k : Nat) (xs : List Value) : Prop where
  hx : w.heap[gx]? = some (.cells #[.int .i64 x] 3 (0, 0))
  hf : w.heap[gf]? = some (.cells #[.int .i64 8] 3 (0, 0))
  hn : w.heap[gn]? = some (.cells #[.int .i64 n] 3 (0, 0))
  ht : w.heap[gt]? = some (.cells #[.int .i64 tw] 3 (0, 0))
  hp : w.heap[gp]? = some (.cells #[.func (.func 18) #[] #[.pointer (some ⟨go, 0, none⟩), .pointer (some ⟨ga, 0, none⟩)]] 52 (0, 0))
  ho : w.heap[go]? = some (.cells #[ov] 22 (0, 0))
  ha : w.heap[ga]? = some (.cells #[.string letters, .int .i64 bits, .int .i64 fill] 48 (0, 0))
  own : w.ownsRow base 5 1 ov k xs

theorem Bin.drew {w : World} {gx gf gn gt gp go ga tw : Nat} {letters : ByteArray} {bits fill : Int} {base x n : Nat} {ov : Value} {k : Nat} {xs : List Value} (I : Bin w gx gf gn gt gp go ga tw letters bits fill base x n ov k xs) : Bin w.drew gx gf gn gt gp go ga tw letters bits fill base x n ov k xs :=
  ⟨I.hx, I.hf, I.hn, I.ht, I.hp, I.ho, I.ha, I.own.drew⟩
theorem blk_ne {w : World} {a b : Nat} {cs cs' : Array Value} {t t' : TypeId} {f f' : Nat × Nat} (ha : w.heap[a]? = some (.cells cs t f)) (hb : w.heap[b]? = some (.cells cs' t' f')) (h : t ≠ t') : b ≠ a := by
  rintro rfl; rw [ha] at hb; simp at hb; exact h hb.2.1
theorem far {w : World} {a b : Nat} {o : Obj} (h : w.heap[a]? = some o) (hne : a ≠ b) (u : Value) : (w.setCell ⟨b, 0, none⟩ u).heap[a]? = some o := by
  rw [Below.heap_setCell _ _ _ _ hne]; exact h
theorem Bin.setX {w : World} {gx gf gn gt gp go ga tw : Nat} {letters : ByteArray} {bits fill : Int} {base x n : Nat} {ov : Value} {k : Nat} {xs : List Value} (I : Bin w gx gf gn gt gp go ga tw letters bits fill base x n ov k xs) (hxn : gx ≠ gn) (hxf : gx ≠ gf) (hxt : gx ≠ gt) (y : Nat) :
    Bin (w.setCell ⟨gx, 0, none⟩ (.int .i64 y)) gx gf gn gt gp go ga tw letters bits fill base y n ov k xs :=
  ⟨one_setCell I.hx, far I.hf hxf.symm _, far I.hn hxn.symm _, far I.ht hxt.symm _, far I.hp (blk_ne I.hx I.hp (by decide)) _, far I.ho (blk_ne I.hx I.ho (by decide)) _, far I.ha (blk_ne I.hx I.ha (by decide)) _, ownsRow_setCell_other I.own (own_apart I.own I.hx (by decide)) _⟩
theorem Bin.setN {w : World} {gx gf gn gt gp go ga tw : Nat} {letters : ByteArray} {bits fill : Int} {base x n : Nat} {ov : Value} {k : Nat} {xs : List Value} (I : Bin w gx gf gn gt gp go ga tw letters bits fill base x n ov k xs) (hxn : gx ≠ gn) (hnf : gn ≠ gf) (hnt : gn ≠ gt) (y : Nat) :
    Bin (w.setCell ⟨gn, 0, none⟩ (.int .i64 y)) gx gf gn gt gp go ga tw letters bits fill base x y ov k xs :=
  ⟨far I.hx hxn _, far I.hf hnf.symm _, one_setCell I.hn, far I.ht hnt.symm _, far I.hp (blk_ne I.hn I.hp (by decide)) _, far I.ho (blk_ne I.hn I.ho (by decide)) _, far I.ha (blk_ne I.hn I.ha (by decide)) _, ownsRow_setCell_other I.own (own_apart I.own I.hn (by decide)) _⟩
theorem Bin.put {w w' : World} {gx gf gn gt gp go ga tw : Nat} {letters : ByteArray} {bits fill : Int} {base x n : Nat} {ov ov' : Value} {k k' : Nat} {xs xs' : List Value} (I : Bin w gx gf gn gt gp go ga tw letters bits fill base x n ov k xs)
    (ho : w'.heap[go]? = some (.cells #[ov'] 22 (0, 0))) (own : w'.ownsRow base 5 1 ov' k' xs') (hf : ∀ k, k < w.heap.size → k ≠ go → ov.ownBlock ≠ some k → w'.heap[k]? = w.heap[k]?) :
    Bin w' gx gf gn gt gp go ga tw letters bits fill base x n ov' k' xs' := by
  have kp : ∀ {b : Nat} {cs : Array Value} {t : TypeId}, w.heap[b]? = some (.cells cs t (0, 0)) → t ≠ 22 → t ≠ 5 → w'.heap[b]? = some (.cells cs t (0, 0)) := by
    intro b cs t hb h1 h2
    rw [hf b (lt_of_block hb) (blk_ne I.ho hb h1.symm) (own_apart I.own hb h2)]; exact hb
  exact ⟨kp I.hx (by decide) (by decide), kp I.hf (by decide) (by decide), kp I.hn (by decide) (by decide), kp I.ht (by decide) (by decide), kp I.hp (by decide) (by decide), ho, kp I.ha (by decide) (by decide), own⟩

/-- the letter of a digit, as a cell -/
def LC (letters : ByteArray) (d : Nat) : Value := .int .u8 (bt letters d)

def AddPost (w : World) (gx gf gn gt gp go ga : Nat) (tw : Nat) (letters : ByteArray) (bits fill : Int) (base X N : Nat) (k : Nat) (xs : List Value) (e : Ending) (w' : World) : Prop :=
  e = .returned (.tuple #[]) ∧ ∃ ov', Bin w' gx gf gn gt gp go ga tw letters bits fill base (drain tw X N).2.1 (drain tw X N).2.2 ov' (k + (drain tw X N).1.length) (xs ++ (drain tw X N).1.map (LC letters)) ∧ Below base w w'

theorem shr_nat (a b : Nat) (hb : b ≤ 64) : (a : Int) / 2 ^ b = ((a / 2 ^ b : Nat) : Int) := by
  rw [Int.natCast_ediv]; simp

theorem wrap_mid {z : Int} (h0 : 0 ≤ z) (h : z ≤ 1048576) : wrap64 z = z := by unfold wrap64; omega
theorem mask_nat (X' N2 : Nat) (h : N2 ≤ 20) (hX : X' < 2 ^ 40) : Go.bits BinOp.and IntKind.i64 (X' : Int) (wrap64 (wrap64 (2 ^ N2) - 1)) = ((X' % 2 ^ N2 : Nat) : Int) := by
  have hp : (2 : Int) ^ N2 ≤ 1048576 := by
    have := Nat.pow_le_pow_right (show 0 < 2 by decide) h
    have h2 : ((2 ^ N2 : Nat) : Int) ≤ ((2 ^ 20 : Nat) : Int) := Int.ofNat_le.2 this
    simpa using h2
  have hp0 : (0 : Int) < 2 ^ N2 := Int.pow_pos (by decide)
  rw [wrap_mid (by omega) hp, wrap_mid (by omega) (by omega), bits_mask .i64 62 (by decide) (fun n h0 h1 => by rw [IntKind.wrap_i64]; omega) N2 (by omega) _ (by omega) (by omega)]
  rw [Int.natCast_emod]; simp

set_option maxRecDepth 100000 in
set_option maxHeartbeats 3200000 in
theorem add_any (gx gf gn gt gp go ga : Nat) (tw : Nat) (letters : ByteArray) (bits fill : Int) (base x n v : Nat) (ov : Value) (k : Nat) (xs : List Value) (w : World)
    (I : Bin w gx gf gn gt gp go ga tw letters bits fill base x n ov k xs) (hxn : gx ≠ gn) (hxf : gx ≠ gf) (hxt : gx ≠ gt) (hnf : gn ≠ gf) (hnt : gn ≠ gt) (hn : n < 8) (hx : x < 2 ^ n) (hv : v < 256) (hto : 0 < tw) (hl : 2 ^ tw ≤ letters.size) (hto8 : tw ≤ 8)
    (hbx : base ≤ gx) (hbn : base ≤ gn) (hbo : base ≤ go) (hbase : base ≤ w.heap.size) (hk : k + 100 ≤ 140737488355328) :
    Calls Tryd.prog 25 #[.int .i64 v, .pointer (some ⟨gx, 0, none⟩), .pointer (some ⟨gf, 0, none⟩), .pointer (some ⟨gn, 0, none⟩), .pointer (some ⟨gt, 0, none⟩), .pointer (some ⟨gp, 0, none⟩)] w (AddPost w gx gf gn gt gp go ga tw letters bits fill base (x * 256 + v) (n + 8) k xs) := by
  have cx := cell_of_one I.hx
  have cf := cell_of_one I.hf
  have cn := cell_of_one I.hn
  have ct := cell_of_one I.ht
  have cp := cell_of_one I.hp
  have fx := free_of_one I.hx
  have fn := free_of_one I.hn
  have hx128 : x < 128 := Nat.lt_of_lt_of_le hx (Nat.pow_le_pow_right (by decide) (show n ≤ 7 from by omega))
  have e1 : wrap64 ((x : Int) * 256) = (x : Int) * 256 := by unfold wrap64; omega
  have e2 : Go.bits BinOp.or IntKind.i64 ((x : Int) * 256) (v : Int) = ((x * 256 + v : Nat) : Int) := by
    rw [bits_join .i64 62 (by decide) (fun n h0 h1 => by rw [IntKind.wrap_i64]; omega) 8 _ _ (by omega) (by omega) (by omega) (by omega) (by omega) (by omega)]; omega
  have hX : x * 256 + v < 2 ^ (n + 8) := by
    rw [Nat.pow_add]; have : x + 1 ≤ 2 ^ n := hx; have := Nat.mul_le_mul_right 256 this; omega
  generalize hXX : x * 256 + v = X at *
  clear hXX hx hx128
  go_enter Tryd.func25, Tryd.ntmps25
  go_wp2_with fail
  go_region
  all_goals clear e1 e2
  all_goals
    have I1 : Bin ((w.setCell ⟨gx, 0, none⟩ (.int .i64 X)).setCell ⟨gn, 0, none⟩ (.int .i64 ((n + 8 : Nat) : Int))).drew gx gf gn gt gp go ga tw letters bits fill base X (n + 8) ov k xs := ((I.setX hxn hxf hxt X).setN hxn hnf hnt (n + 8)).drew
    have B1 : Below base w ((w.setCell ⟨gx, 0, none⟩ (.int .i64 X)).setCell ⟨gn, 0, none⟩ (.int .i64 ((n + 8 : Nat) : Int))).drew := (((Below.refl base w).setCell hbx _).setCell hbn _).drew
    clear cx cf cn ct cp fx fn I
    go_wp2_with fail
    go_loopg [] (n + 8) (fun kN wr => ∃ (X' : Nat) (ov' : Value) (m : Nat) (ys : List Value), Bin wr gx gf gn gt gp go ga tw letters bits fill base X' kN ov' m ys ∧ X' < 2 ^ kN ∧ kN ≤ n + 8 ∧ Hid (ys ++ (drain tw X' kN).1.map (LC letters) = xs ++ (drain tw X (n + 8)).1.map (LC letters)) ∧ Hid ((drain tw X' kN).2 = (drain tw X (n + 8)).2) ∧ Hid (m + (drain tw X' kN).1.length = k + (drain tw X (n + 8)).1.length) ∧ m + kN ≤ k + (n + 8) ∧ Below base w wr)
    case atStart => exact ⟨X, ov, k, xs, by simpa using I1, hX, Nat.le_refl _, rfl, rfl, rfl, Nat.le_refl _, by simpa using B1⟩
    case round =>
      clear I1 B1 hX
      obtain ⟨X', ov', m, ys, J, hX', hkN, H1, H2, H3, hm, B⟩ := hrel
      have cx := cell_of_one J.hx
      have cf := cell_of_one J.hf
      have cn := cell_of_one J.hn
      have ct := cell_of_one J.ht
      have cp := cell_of_one J.hp
      have fx := free_of_one J.hx
      have fn := free_of_one J.hn
      by_cases hge : tw ≤ gk
      · obtain ⟨N2, rfl⟩ : ∃ N2, gk = N2 + tw := ⟨gk - tw, by omega⟩
        have hN63 : N2 ≤ 20 := by omega
        go_wp2_with fail
        obtain ⟨W, hW⟩ : ∃ W, W = wr.setCell ⟨gn, 0, none⟩ (.int .i64 (N2 : Int)) := ⟨_, rfl⟩
        have J2 := J.setN hxn hnf hnt N2
        have B2 := B.setCell (p := ⟨gn, 0, none⟩) hbn (.int .i64 (N2 : Int))
        rw [← hW] at J2 B2 ⊢
        clear hW J cx cf cn ct cp fx fn B
        have cx := cell_of_one J2.hx
        have cn := cell_of_one J2.hn
        have cp := cell_of_one J2.hp
        have hq : X' / 2 ^ N2 < 2 ^ tw := by
          rw [Nat.div_lt_iff_lt_mul (Nat.two_pow_pos N2), ← Nat.pow_add, Nat.add_comm]; exact hX'
        have hq0 : (0 : Int) ≤ (X' : Int) / 2 ^ N2 := by rw [shr_nat _ _ (by omega)]; exact Int.natCast_nonneg _
        have hq1 : (X' : Int) / 2 ^ N2 < (letters.size : Int) := by rw [shr_nat _ _ (by omega)]; exact Int.ofNat_lt.2 (Nat.lt_of_lt_of_le hq hl)
        have hbW : base ≤ W.drew.heap.size := Nat.le_trans hbase B2.size
        go_region_with (go_at_call 18; refine (put_int go ga letters bits fill ov' m ys _ _ base J2.drew.ho J2.drew.ha J2.drew.own hq0 hq1 hbW (by omega) hbo).mono ?_; rintro e W2 ⟨rfl, ov2, ho2, own2, hb2, hk2⟩; have J3 := J2.drew.put ho2 own2 hk2; have cx2 := cell_of_one J3.hx; have cn2 := cell_of_one J3.hn; have fx2 := free_of_one J3.hx)
        all_goals clear J2 cx cn cp hq0 hq1 hk2 own2 ho2
        all_goals go_wp2_with fail
        all_goals go_region
        all_goals
          have e3 := mask_nat X' N2 hN63 (Nat.lt_of_lt_of_le hX' (Nat.pow_le_pow_right (by decide) (show N2 + tw ≤ 40 from by omega)))
          rw [e3]
          clear e3
          have J4 := (J3.setX hxn hxf hxt (X' % 2 ^ N2)).drew
          have B4 := ((B2.drew.trans hb2).setCell (p := ⟨gx, 0, none⟩) hbx (.int .i64 ((X' % 2 ^ N2 : Nat) : Int))).drew
          have hd : drain tw X' (N2 + tw) = ((X' / 2 ^ N2) :: (drain tw (X' % 2 ^ N2) N2).1, (drain tw (X' % 2 ^ N2) N2).2) := by
            rw [drain, dif_pos ⟨hto, hge⟩, Nat.add_sub_cancel]
          have G1 : Hid ((ys ++ [Value.int IntKind.u8 (bt letters ((X' : Int) / 2 ^ N2))]) ++ (drain tw (X' % 2 ^ N2) N2).1.map (LC letters) = xs ++ (drain tw X (n + 8)).1.map (LC letters)) := by
            have := H1.out; rw [hd] at this; show _ = _; rw [← this, shr_nat _ _ (by omega)]; simp [LC]
          have G2 : Hid ((drain tw (X' % 2 ^ N2) N2).2 = (drain tw X (n + 8)).2) := by
            have := H2.out; rw [hd] at this; exact this
          have G3 : Hid ((m + 1) + (drain tw (X' % 2 ^ N2) N2).1.length = k + (drain tw X (n + 8)).1.length) := by
            have := H3.out; rw [hd] at this; show _ = _; rw [← this]; simp; omega
          clear hd H1 H2 H3 J3 B2 hb2 hq hbW cx2 cn2 fx2
          have hml : X' % 2 ^ N2 < 2 ^ N2 := Nat.mod_lt _ (Nat.two_pow_pos _)
          go_wp2
          go_roundg N2
          case measure => omega
          case rel => exact ⟨X' % 2 ^ N2, ov2, m + 1, _, J4, hml, by omega, G1, G2, G3, by omega, B4⟩
      · have hd : drain tw X' gk = ([], X', gk) := by rw [drain, dif_neg (fun h => hge h.2)]
        have q1 := H1.out
        have q2 := H2.out
        have q3 := H3.out
        rw [hd] at q1 q2 q3
        clear hd H1 H2 H3
        have fin : AddPost w gx gf gn gt gp go ga tw letters bits fill base X (n + 8) k xs (.returned (.tuple #[])) wr := by
          refine ⟨rfl, ov', ?_, B⟩
          rw [← q2, ← q3, ← q1]; simpa using J
        clear q1 q2 q3 J B
        go_wp2
        go_end0
        exact fin
end Go.Proofs.YtfcfnnkepjoncaaDoor.Base
