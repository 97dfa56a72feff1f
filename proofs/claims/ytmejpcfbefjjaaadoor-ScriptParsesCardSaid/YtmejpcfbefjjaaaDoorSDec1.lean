/- base.Decode's closures: what puts a byte, what gathers the bits, what is left; base.of at Hex. -/
import Derived.Test.YtmejpcfbefjjaaaDoorSFlag
import Derived.StillTactics
import Derived.Deep.RegionHeld3
import Derived.Deep.AppendLies
import Derived.Deep.RegionLaw
import Derived.Deep.RegionWith
import Derived.StillTailTactics
import Derived.BigQuiet
namespace Go.Proofs.YtmejpcfbefjjaaaDoor.Scr
open Go.RowKit
set_option linter.unusedVariables false
set_option linter.unusedSimpArgs false
/-- bytes as cells -/
def bv (l : List Nat) : List Value := l.map (fun x : Nat => Value.int .u8 (x : Int))
theorem bv_length (l : List Nat) : (bv l).length = l.length := by simp [bv]
theorem bv_append (a b : List Nat) : bv (a ++ b) = bv a ++ bv b := by simp [bv]
theorem own_apart {w : World} {base e e' : Nat} {v : Value} {n s : Nat} {xs : List Value} (h : w.ownsRow base e s v n xs) {b : Nat} {cs : Array Value} {f : Nat × Nat} (hb : w.heap[b]? = some (.cells cs e' f)) (hne : e' ≠ e) : v.ownBlock ≠ some b := by
  intro q
  rcases h.2 with ⟨rfl, _⟩ | ⟨g, cap, cur, rfl, _, hh, _⟩
  · simp [Value.ownBlock] at q
  · simp [Value.ownBlock] at q; subst q; rw [hb] at hh; simp at hh; exact hne hh.2.1
theorem one_kept {w w1 : World} {row : Option Nat} {b : Nat} {o : Obj} (hg : w.grownBy w1 row) (hb : w.heap[b]? = some o) (hr : row ≠ some b) : w1.heap[b]? = some o := by
  rw [hg.block b (lt_of_block hb) (fun e => hr e.symm)]; exact hb
theorem own_succ {w : World} {base e : Nat} {v : Value} {n : Nat} {xs : List Value} (h : w.ownsRow base e 1 v (n + 1) xs) : ∃ g cap, v = .slice (some ⟨g, 0, none⟩) (n + 1) cap := by
  rcases h.2 with ⟨_, h0⟩ | ⟨g, cap, _, rfl, _⟩
  · omega
  · exact ⟨g, cap, rfl⟩
theorem blk_ne {w : World} {a b : Nat} {cs cs' : Array Value} {t t' : TypeId} {f f' : Nat × Nat} (ha : w.heap[a]? = some (.cells cs t f)) (hb : w.heap[b]? = some (.cells cs' t' f')) (h : t ≠ t') : b ≠ a := by
  rintro rfl; rw [ha] at hb; simp at hb; exact h hb.2.1
theorem far {w : World} {a b : Nat} {o : Obj} (h : w.heap[a]? = some o) (hne : a ≠ b) (u : Value) : (w.setCell ⟨b, 0, none⟩ u).heap[a]? = some o := by
  rw [Below.heap_setCell _ _ _ _ hne]; exact h
theorem below_drewN {B : Nat} {w w' : World} (h : Below B w w') (q : Nat) : Below B w (w'.drewN q) := ⟨h.1, h.2, h.3, h.4, h.5⟩
/-- one byte more -/
def PutPost (w : World) (go base : Nat) (ov : Value) (n : Nat) (xs : List Value) (e : Ending) (w' : World) : Prop :=
  e = .returned (.tuple #[]) ∧ ∃ v', w'.heap[go]? = some (.cells #[v'] 51 (0, 0)) ∧ w'.ownsRow base 5 1 v' n xs ∧ Below base w w' ∧ ∀ k, k < w.heap.size → k ≠ go → ov.ownBlock ≠ some k → w'.heap[k]? = w.heap[k]?
set_option maxRecDepth 100000 in
set_option maxHeartbeats 8000000 in
theorem put_calls (go : Nat) (ov : Value) (out : List Nat) (v : Nat) (w : World) (base : Nat)
    (ho : w.heap[go]? = some (.cells #[ov] 51 (0, 0))) (hown : w.ownsRow base 5 1 ov out.length (bv out)) (hv : v < 256) (hbase : base ≤ w.heap.size) (hn : out.length ≤ 10000000) (hgo : base ≤ go) :
    Calls Tryd.prog 49 #[.int .i64 v, .pointer (some ⟨go, 0, none⟩)] w (PutPost w go base ov (out ++ [v]).length (bv (out ++ [v]))) := by
  obtain ⟨i0, hi0, hz0, hz1, hz2⟩ := info_parts info8
  have cO : w.cell? ⟨go, 0, none⟩ = some ov := cell_of_one ho
  have lo := lt_of_block ho
  have ao := own_apart hown ho (by decide)
  obtain ⟨Ao, co, rfl, _⟩ := own_form hown
  go_enter Tryd.func49, Tryd.ntmps49
  go_wp2_with (at_builtin; refine wpList_append_own _ rfl _ _ 51 rfl base 5 i0 (.int .u8 0) 1 1 Tryd.underlying51 hi0 hz0 hz1 hz2 rfl (by decide) _ _ _ rfl (hown.alloc _) ⟨w.heap.size, 0, none⟩ 1 1 [.int .u8 v] rfl rfl (cell_one_new _ _ _) (one_cell rfl) (by unfold maxLen; omega) (by omega) (by rw [World.size_alloc]; omega) ?_; intro v' w5 hown5 hgrow5 _; obtain ⟨g1, cap1, rfl⟩ := own_succ hown5; have k1 : w5.heap[go]? = some (.cells #[.slice Ao out.length co] 51 (0, 0)) := one_kept hgrow5 ((Below.heap_alloc _ _ _ lo).trans ho) ao; have c1 := cell_of_one k1; have f1 := free_of_one k1)
  go_end0
  refine ⟨rfl, _, one_setCell k1, ?_, ?_, ?_⟩
  · rw [List.length_append, List.length_singleton, bv_append]
    exact ownsRow_setCell_other hown5 (own_apart hown5 k1 (by decide)) _
  · exact (((Below.refl base w).alloc hbase _).grown hgrow5 (by rw [World.size_alloc]; omega) (own_base hown)).setCell (p := ⟨go, 0, none⟩) hgo _
  · intro k hk hne hov
    rw [Below.heap_setCell _ _ _ _ hne]
    exact (hgrow5.block k (by rw [World.size_alloc]; omega) (fun e => hov e.symm)).trans (Below.heap_alloc _ _ _ hk)
/-- what the two closures share: a number and how many bits it has; the widths; where what comes out goes -/
structure Dec (w : World) (gx gf gn gt gp go ga base : Nat) (x n : Nat) (out : List Nat) (ov : Value) : Prop where
  hx : w.heap[gx]? = some (.cells #[.int .i64 x] 3 (0, 0))
  hf : w.heap[gf]? = some (.cells #[.int .i64 4] 3 (0, 0))
  hn : w.heap[gn]? = some (.cells #[.int .i64 n] 3 (0, 0))
  ht : w.heap[gt]? = some (.cells #[.int .i64 8] 3 (0, 0))
  hp : w.heap[gp]? = some (.cells #[.func (.func 49) #[] #[.pointer (some ⟨go, 0, none⟩)]] 112 (0, 0))
  ho : w.heap[go]? = some (.cells #[ov] 51 (0, 0))
  ha : w.heap[ga]? = some (.cells #[.string ⟨#[48, 49, 50, 51, 52, 53, 54, 55, 56, 57, 97, 98, 99, 100, 101, 102]⟩, .int .i64 4, .int .i64 1] 108 (0, 0))
  own : w.ownsRow base 5 1 ov out.length (bv out)
theorem Dec.drew {w : World} {gx gf gn gt gp go ga base x n : Nat} {out : List Nat} {ov : Value} (I : Dec w gx gf gn gt gp go ga base x n out ov) : Dec w.drew gx gf gn gt gp go ga base x n out ov :=
  ⟨I.hx, I.hf, I.hn, I.ht, I.hp, I.ho, I.ha, I.own.drew⟩
theorem Dec.setX {w : World} {gx gf gn gt gp go ga base x n : Nat} {out : List Nat} {ov : Value} (I : Dec w gx gf gn gt gp go ga base x n out ov) (hxn : gx ≠ gn) (hxf : gx ≠ gf) (hxt : gx ≠ gt) (y : Nat) :
    Dec (w.setCell ⟨gx, 0, none⟩ (.int .i64 y)) gx gf gn gt gp go ga base y n out ov :=
  ⟨one_setCell I.hx, far I.hf hxf.symm _, far I.hn hxn.symm _, far I.ht hxt.symm _, far I.hp (blk_ne I.hx I.hp (by decide)) _, far I.ho (blk_ne I.hx I.ho (by decide)) _, far I.ha (blk_ne I.hx I.ha (by decide)) _, ownsRow_setCell_other I.own (own_apart I.own I.hx (by decide)) _⟩
theorem Dec.setN {w : World} {gx gf gn gt gp go ga base x n : Nat} {out : List Nat} {ov : Value} (I : Dec w gx gf gn gt gp go ga base x n out ov) (hxn : gx ≠ gn) (hnf : gn ≠ gf) (hnt : gn ≠ gt) (y : Nat) :
    Dec (w.setCell ⟨gn, 0, none⟩ (.int .i64 y)) gx gf gn gt gp go ga base x y out ov :=
  ⟨far I.hx hxn _, far I.hf hnf.symm _, one_setCell I.hn, far I.ht hnt.symm _, far I.hp (blk_ne I.hn I.hp (by decide)) _, far I.ho (blk_ne I.hn I.ho (by decide)) _, far I.ha (blk_ne I.hn I.ha (by decide)) _, ownsRow_setCell_other I.own (own_apart I.own I.hn (by decide)) _⟩
theorem Dec.put {w w' : World} {gx gf gn gt gp go ga base x n : Nat} {out out' : List Nat} {ov ov' : Value} (I : Dec w gx gf gn gt gp go ga base x n out ov)
    (ho : w'.heap[go]? = some (.cells #[ov'] 51 (0, 0))) (own : w'.ownsRow base 5 1 ov' out'.length (bv out')) (hf : ∀ k, k < w.heap.size → k ≠ go → ov.ownBlock ≠ some k → w'.heap[k]? = w.heap[k]?) :
    Dec w' gx gf gn gt gp go ga base x n out' ov' := by
  have kp : ∀ {b : Nat} {cs : Array Value} {t : TypeId}, w.heap[b]? = some (.cells cs t (0, 0)) → t ≠ 51 → t ≠ 5 → w'.heap[b]? = some (.cells cs t (0, 0)) := by
    intro b cs t hb h1 h2
    rw [hf b (lt_of_block hb) (blk_ne I.ho hb h1.symm) (own_apart I.own hb h2)]; exact hb
  exact ⟨kp I.hx (by decide) (by decide), kp I.hf (by decide) (by decide), kp I.hn (by decide) (by decide), kp I.ht (by decide) (by decide), kp I.hp (by decide) (by decide), ho, kp I.ha (by decide) (by decide), own⟩
theorem or_hex (x v : Nat) (hx : x < 16) (hv : v < 16) : Go.bits BinOp.or IntKind.i64 ((x : Int) * 16) (v : Int) = ((16 * x + v : Nat) : Int) := by
  rw [bits_join .i64 62 (by decide) (fun n h0 h1 => by rw [IntKind.wrap_i64]; omega) 4 _ _ (by omega) (by omega) (by omega) (by omega) (by omega) (by omega)]; omega
set_option maxRecDepth 100000 in
set_option maxHeartbeats 8000000 in
/-- four bits, where none are gathered -/
theorem add_first (gx gf gn gt gp go ga base v : Nat) (out : List Nat) (ov : Value) (w : World)
    (I : Dec w gx gf gn gt gp go ga base 0 0 out ov) (hxn : gx ≠ gn) (hxf : gx ≠ gf) (hxt : gx ≠ gt) (hnf : gn ≠ gf) (hnt : gn ≠ gt) (hv : v < 16)
    (hbx : base ≤ gx) (hbn : base ≤ gn) :
    Calls Tryd.prog 53 #[.int .i64 v, .pointer (some ⟨gx, 0, none⟩), .pointer (some ⟨gf, 0, none⟩), .pointer (some ⟨gn, 0, none⟩), .pointer (some ⟨gt, 0, none⟩), .pointer (some ⟨gp, 0, none⟩)] w fun e w' => e = .returned (.tuple #[]) ∧ Dec w' gx gf gn gt gp go ga base v 4 out ov ∧ Below base w w' := by
  have cx := cell_of_one I.hx
  have cf := cell_of_one I.hf
  have cn := cell_of_one I.hn
  have ct := cell_of_one I.ht
  have fx := free_of_one I.hx
  have fn := free_of_one I.hn
  have e2 := or_hex 0 v (by omega) hv
  simp only [Int.natCast_zero, Int.zero_mul, Nat.mul_zero, Nat.zero_add] at e2
  go_enter Tryd.func53, Tryd.ntmps53
  go_wp2_with fail
  go_region
  all_goals
    have I1 := ((I.setX hxn hxf hxt v).setN hxn hnf hnt 4).drew
    have B1 : Below base w ((w.setCell ⟨gx, 0, none⟩ (.int .i64 v)).setCell ⟨gn, 0, none⟩ (.int .i64 ((4 : Nat) : Int))).drew := (((Below.refl base w).setCell (p := ⟨gx, 0, none⟩) hbx _).setCell (p := ⟨gn, 0, none⟩) hbn _).drew
    clear cx cf cn ct fx fn e2 I
    go_wp2_with fail
    go_loopg [] 0 (fun kN wr => Dec wr gx gf gn gt gp go ga base v 4 out ov ∧ Below base w wr)
    case atStart => exact ⟨I1, B1⟩
    case round =>
      clear I1 B1
      obtain ⟨J, B⟩ := hrel
      have cn := cell_of_one J.hn
      have ct := cell_of_one J.ht
      go_wp2
      go_end0
      exact ⟨rfl, J, B⟩
theorem and0 (X : Nat) (h : X < 256) : Go.bits BinOp.and IntKind.i64 (X : Int) 0 = 0 := by
  have h1 := bits_mask .i64 62 (by decide) (fun n h0 h1 => by rw [IntKind.wrap_i64]; omega) 0 (by decide) (X : Int) (by omega) (by omega)
  simpa using h1
set_option maxRecDepth 100000 in
set_option maxHeartbeats 8000000 in
/-- four bits more: a byte -/
theorem add_second (gx gf gn gt gp go ga base x v : Nat) (out : List Nat) (ov : Value) (w : World)
    (I : Dec w gx gf gn gt gp go ga base x 4 out ov) (hxn : gx ≠ gn) (hxf : gx ≠ gf) (hxt : gx ≠ gt) (hnf : gn ≠ gf) (hnt : gn ≠ gt) (hx : x < 16) (hv : v < 16)
    (hbx : base ≤ gx) (hbn : base ≤ gn) (hbo : base ≤ go) (hbase : base ≤ w.heap.size) (hk : out.length ≤ 10000000) :
    Calls Tryd.prog 53 #[.int .i64 v, .pointer (some ⟨gx, 0, none⟩), .pointer (some ⟨gf, 0, none⟩), .pointer (some ⟨gn, 0, none⟩), .pointer (some ⟨gt, 0, none⟩), .pointer (some ⟨gp, 0, none⟩)] w fun e w' => e = .returned (.tuple #[]) ∧ ∃ ov', Dec w' gx gf gn gt gp go ga base 0 0 (out ++ [16 * x + v]) ov' ∧ Below base w w' := by
  have cx := cell_of_one I.hx
  have cf := cell_of_one I.hf
  have cn := cell_of_one I.hn
  have ct := cell_of_one I.ht
  have fx := free_of_one I.hx
  have fn := free_of_one I.hn
  have e1 : wrap64 ((x : Int) * 16) = (x : Int) * 16 := by unfold wrap64; omega
  have e2 := or_hex x v hx hv
  have hX : 16 * x + v < 256 := by omega
  generalize hXX : 16 * x + v = X at *
  clear hXX
  go_enter Tryd.func53, Tryd.ntmps53
  go_wp2_with fail
  go_region
  all_goals clear e1 e2
  all_goals
    have I1 := ((I.setX hxn hxf hxt X).setN hxn hnf hnt 8).drew
    have B1 : Below base w ((w.setCell ⟨gx, 0, none⟩ (.int .i64 X)).setCell ⟨gn, 0, none⟩ (.int .i64 ((8 : Nat) : Int))).drew := (((Below.refl base w).setCell (p := ⟨gx, 0, none⟩) hbx _).setCell (p := ⟨gn, 0, none⟩) hbn _).drew
    clear cx cf cn ct fx fn I
    go_wp2_with fail
    go_loopg [] 1 (fun kN wr => (kN = 1 ∧ Dec wr gx gf gn gt gp go ga base X 8 out ov ∨ kN = 0 ∧ ∃ ov', Dec wr gx gf gn gt gp go ga base 0 0 (out ++ [X]) ov') ∧ Below base w wr)
    case atStart => exact ⟨.inl ⟨rfl, I1⟩, B1⟩
    case round =>
      clear I1 B1
      obtain ⟨⟨rfl, J⟩ | ⟨rfl, ov', J⟩, B⟩ := hrel
      · have cn := cell_of_one J.hn
        have ct := cell_of_one J.ht
        have fn := free_of_one J.hn
        go_wp2_with fail
        have J2 := J.setN hxn hnf hnt 0
        have B2 := B.setCell (p := ⟨gn, 0, none⟩) hbn (.int .i64 ((0 : Nat) : Int))
        simp only [Int.natCast_zero] at J2 B2
        obtain ⟨W, hW⟩ : ∃ W, W = wr.setCell ⟨gn, 0, none⟩ (.int .i64 0) := ⟨_, rfl⟩
        rw [← hW] at J2 B2 ⊢
        clear hW J cn ct fn B
        have cx := cell_of_one J2.hx
        have cn := cell_of_one J2.hn
        have cp := cell_of_one J2.hp
        have hbW : base ≤ W.drew.heap.size := Nat.le_trans hbase B2.size
        go_region_with (go_at_call 49; refine (put_calls go ov out X _ base J2.drew.ho J2.drew.own hX hbW hk hbo).mono ?_; rintro e W2 ⟨rfl, ov2, ho2, own2, hb2, hk2⟩; have J3 := J2.drew.put ho2 own2 hk2; have cx2 := cell_of_one J3.hx; have cn2 := cell_of_one J3.hn; have fx2 := free_of_one J3.hx)
        all_goals clear J2 cx cn cp hk2 own2 ho2
        all_goals go_wp2_with fail
        all_goals go_region
        all_goals
          have J4 := (J3.setX hxn hxf hxt 0).drew
          have B4 := ((B2.drew.trans hb2).setCell (p := ⟨gx, 0, none⟩) hbx (.int .i64 ((0 : Nat) : Int))).drew
          clear J3 B2 hb2 hbW cx2 cn2 fx2
          simp only [Int.natCast_zero] at J4 B4
          rw [and0 X hX]
          go_wp2
          go_roundg 0
          case measure => omega
          case rel => exact ⟨.inr ⟨rfl, ov2, J4⟩, B4⟩
      · have cn := cell_of_one J.hn
        have ct := cell_of_one J.ht
        go_wp2
        go_end0
        exact ⟨rfl, ov', J, B⟩
set_option maxRecDepth 100000 in
set_option maxHeartbeats 8000000 in
/-- what is left -/
theorem left_calls (gx gn x n : Nat) (w : World) (hx : w.heap[gx]? = some (.cells #[.int .i64 x] 3 (0, 0))) (hn : w.heap[gn]? = some (.cells #[.int .i64 n] 3 (0, 0))) :
    Calls Tryd.prog 54 #[.pointer (some ⟨gx, 0, none⟩), .pointer (some ⟨gn, 0, none⟩)] w fun e w' => e = .returned (.tuple #[.int .i64 x, .int .i64 n]) ∧ w' = w.drew := by
  have cx := cell_of_one hx
  have cn := cell_of_one hn
  go_enter Tryd.func54, Tryd.ntmps54
  go_wp2_with fail
  go_region
  all_goals
    go_wp2
    go_ret2
    exact ⟨rfl, rfl⟩
theorem bits_calls (f : Fn) (a c : Array Value) (w : World) :
    Calls Tryd.prog 44 #[.int .i64 4, .int .i64 8, .func f a c] w fun e w' => e = .returned (.tuple #[.func (.func 53) #[] #[.pointer (some ⟨w.heap.size + 1 + 1 + 1, 0, none⟩), .pointer (some ⟨w.heap.size, 0, none⟩), .pointer (some ⟨w.heap.size + 1 + 1 + 1 + 1, 0, none⟩), .pointer (some ⟨w.heap.size + 1, 0, none⟩), .pointer (some ⟨w.heap.size + 1 + 1, 0, none⟩)], .func (.func 54) #[] #[.pointer (some ⟨w.heap.size + 1 + 1 + 1, 0, none⟩), .pointer (some ⟨w.heap.size + 1 + 1 + 1 + 1, 0, none⟩)]]) ∧
      w' = ((((w.alloc (.cells #[.int .i64 4] 3)).alloc (.cells #[.int .i64 8] 3)).alloc (.cells #[.func f a c] 112)).alloc (.cells #[.int .i64 0] 3)).alloc (.cells #[.int .i64 0] 3) := by
  have hmf : ∀ (fn : Fn) (first cap : Array Value) (w : World), (Instr.makeFunc fn first cap).run Tryd.prog w = .ok (.func fn first cap) w := fun _ _ _ _ => rfl
  go_enter Tryd.func44, Tryd.ntmps44
  go_wp2
  go_ret2
  exact ⟨rfl, rfl⟩
def aHex : ByteArray := ⟨#[48, 49, 50, 51, 52, 53, 54, 55, 56, 57, 97, 98, 99, 100, 101, 102]⟩
def aB64 : ByteArray := ⟨#[65, 66, 67, 68, 69, 70, 71, 72, 73, 74, 75, 76, 77, 78, 79, 80, 81, 82, 83, 84, 85, 86, 87, 88, 89, 90, 97, 98, 99, 100, 101, 102, 103, 104, 105, 106, 107, 108, 109, 110, 111, 112, 113, 114, 115, 116, 117, 118, 119, 120, 121, 122, 48, 49, 50, 51, 52, 53, 54, 55, 56, 57, 43, 47]⟩
def aU64 : ByteArray := ⟨#[65, 66, 67, 68, 69, 70, 71, 72, 73, 74, 75, 76, 77, 78, 79, 80, 81, 82, 83, 84, 85, 86, 87, 88, 89, 90, 97, 98, 99, 100, 101, 102, 103, 104, 105, 106, 107, 108, 109, 110, 111, 112, 113, 114, 115, 116, 117, 118, 119, 120, 121, 122, 48, 49, 50, 51, 52, 53, 54, 55, 56, 57, 45, 95]⟩
def aB32 : ByteArray := ⟨#[65, 66, 67, 68, 69, 70, 71, 72, 73, 74, 75, 76, 77, 78, 79, 80, 81, 82, 83, 84, 85, 86, 87, 88, 89, 90, 50, 51, 52, 53, 54, 55]⟩
def alphas : Value := .agg #[.string aHex, .int .i64 4, .int .i64 1, .string aB64, .int .i64 6, .int .i64 4, .string aU64, .int .i64 6, .int .i64 1, .string aB32, .int .i64 5, .int .i64 8]
set_option maxRecDepth 100000 in
set_option maxHeartbeats 8000000 in
theorem alphabets_any (w : World) : Calls Tryd.prog 52 #[] w fun e w' => e = .returned alphas ∧ Below w.heap.size w w' := by
  go_enter Tryd.func52, Tryd.ntmps52
  go_wp2
  refine bodyPost_ret (v := alphas) (by simp [results, Tryd.results52, go_sem, alphas, aHex, aB64, aU64, aB32]) rfl ⟨rfl, ?_⟩
  repeat (first | exact Below.refl _ _ | apply Below.drew | refine Below.alloc ?_ (Nat.le_refl _) _ | refine Below.setCell ?_ (Nat.le_refl _) _)
set_option maxRecDepth 100000 in
set_option maxHeartbeats 8000000 in
theorem of_calls (w : World) : Calls Tryd.prog 41 #[.int .i64 0] w fun e w' => e = .returned (.tuple #[.agg #[.string aHex, .int .i64 4, .int .i64 1], .bool true]) ∧ Below w.heap.size w w' := by
  have i0 : ∀ w, (Instr.index 122 alphas (.int .i64 0)).run Tryd.prog w = .ok (.agg #[.string aHex, .int .i64 4, .int .i64 1]) w := fun _ => by kernel_rfl
  go_enter Tryd.func41, Tryd.ntmps41
  go_wp2_with fail
  refine (alphabets_any _).mono ?_
  rintro e w' ⟨rfl, hb⟩
  have kb : w'.heap[w.heap.size]? = some (.cells #[.string ⟨#[]⟩, .int .i64 0, .int .i64 0] 108 (0, 0)) := (hb.block _ (by simp)).trans (heap_alloc_new w _)
  have B : Below w.heap.size w w' := ((Below.refl w.heap.size w).alloc (Nat.le_refl _) _).trans (hb.mono (by simp))
  clear hb
  have c0 : w'.cell? ⟨w.heap.size, 0, none⟩ = some (.string ⟨#[]⟩) := by simp [World.cell?, kb]
  have c1 : w'.cell? ⟨w.heap.size, 1, none⟩ = some (.int .i64 0) := by simp [World.cell?, kb]
  have c2 : w'.cell? ⟨w.heap.size, 2, none⟩ = some (.int .i64 0) := by simp [World.cell?, kb]
  have f0 : w'.frozen? ⟨w.heap.size, 0, none⟩ = false := by simp [World.frozen?, kb]
  have f1 : w'.frozen? ⟨w.heap.size, 1, none⟩ = false := by simp [World.frozen?, kb]
  have f2 : w'.frozen? ⟨w.heap.size, 2, none⟩ = false := by simp [World.frozen?, kb]
  go_wp2
  refine bodyPost_ret (v := .tuple #[.agg #[.string aHex, .int .i64 4, .int .i64 1], .bool true]) (by simp [results, Tryd.results41, go_sem, c0, c1, c2]) rfl ⟨rfl, ?_⟩
  exact ((B.setCell (Nat.le_refl _) _).setCell (Nat.le_refl _) _).setCell (Nat.le_refl _) _
end Go.Proofs.YtmejpcfbefjjaaaDoor.Scr
