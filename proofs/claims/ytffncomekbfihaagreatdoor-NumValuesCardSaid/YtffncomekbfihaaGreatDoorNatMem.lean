/- Slices of limbs in memory; nat.trim, nat.fits, slices.Clone, nat.told. -/
import Derived.Test.YtffncomekbfihaaGreatDoorNatPure
import Derived.WalkKit
import Derived.Lib.Walk
import Derived.Lib.Hide
import Derived.Lib.Builder
import Derived.Lib.SliceRun
import Derived.LoopN
import Derived.Deep.LoopGhost
import Derived.Shelf.RegionOpenPlain
import Derived.Laws.AppendOwnNone
import Derived.Laws.OwnMore
import Derived.Laws.MakeOwn
import Derived.OwnWalk
import Derived.OneCell
import Derived.Below
import Derived.BigQuiet
namespace Go.Proofs.YtffncomekbfihaaGreatDoor.Nat
open Go.RowKit Go.Shelf
set_option linter.unusedVariables false
/-- the cells of a slice of limbs -/
def Rd (w : World) (A : Option Addr) (l : List Nat) : Prop := ∀ (j x : Nat), l[j]? = some x → ∃ ad, A = some ad ∧ w.cell? (ad.add j) = some (.int .u32 (x : Int))
theorem Rd.below {w w' : World} {A : Option Addr} {l : List Nat} (h : Rd w A l) (hb : Below w.heap.size w w') : Rd w' A l := fun j x hx => by
  obtain ⟨ad, e, hc⟩ := h j x hx
  exact ⟨ad, e, (hb.cell (World.block_lt_of_cell? _ _ hc)).trans hc⟩
theorem Rd.take {w : World} {A : Option Addr} {l : List Nat} (h : Rd w A l) (n : Nat) : Rd w A (l.take n) := fun j x hx => by
  rw [List.getElem?_take] at hx
  split at hx
  · exact h j x hx
  · cases hx
theorem Rd.at {w : World} {A : Option Addr} {l : List Nat} (h : Rd w A l) {j : Nat} (hj : j < l.length) : ∃ ad x, A = some ad ∧ l[j]? = some x ∧ w.cell? (ad.add j) = some (.int .u32 (x : Int)) := by
  obtain ⟨ad, e, hc⟩ := h j l[j] (List.getElem?_eq_getElem hj)
  exact ⟨ad, _, e, List.getElem?_eq_getElem hj, hc⟩
theorem rd_nil (w : World) (A : Option Addr) : Rd w A [] := fun j x hx => by simp at hx
theorem below_step {w w1 w2 : World} (h1 : Below w.heap.size w w1) (h2 : Below w1.heap.size w1 w2) : Below w.heap.size w w2 := h1.trans (h2.mono h1.size)
set_option maxHeartbeats 4000000 in
set_option maxRecDepth 100000 in
theorem trim_calls (A : Option Addr) (l : List Nat) (c : Nat) (w : World) (hR : Rd w A l) (hc : l.length ≤ c) (hl : l.length ≤ 1099511627776) :
    Calls Tryz.prog 58 #[.slice A l.length c] w fun e w' => e = .returned (.slice A (tn l) c) ∧ Below w.heap.size w w' := by
  go_enter Tryz.func58, Tryz.ntmps58
  go_wp2
  go_loopg [3] l.length (fun kq v3 wr => v3 = .int .i64 kq ∧ kq ≤ l.length ∧ (∀ (j x : Nat), kq ≤ j → l[j]? = some x → x = 0) ∧ Below w.heap.size w wr)
  case atStart => exact ⟨rfl, Nat.le_refl _, fun j x hj hx => (by have := (List.getElem?_eq_some_iff.1 hx).1; omega), Below.refl _ w⟩
  case round =>
    obtain ⟨rfl, hk, hz, hb⟩ := hrel
    cases gk with
    | zero =>
      have e : tn l = 0 := tn_of (Nat.zero_le _) hz (.inl rfl)
      go_wp2
      go_ret
      exact ⟨by rw [e]; rfl, hb⟩
    | succ d =>
      obtain ⟨ad, x, rfl, hx, hcell⟩ := hR.at (j := d) (by omega)
      have hcell2 := (hb.cell (World.block_lt_of_cell? _ _ hcell)).trans hcell
      by_cases h0 : x = 0
      · subst h0
        go_wp2
        go_roundg d
        case rel => exact ⟨rfl, by omega, fun j x hj hx2 => by
          rcases Nat.lt_or_ge d j with h | h
          · exact hz j x h hx2
          · obtain rfl : j = d := by omega
            rw [hx] at hx2; cases hx2; rfl, hb⟩
        case measure => omega
      · have e : tn l = d + 1 := tn_of hk hz (.inr ⟨x, by simpa using hx, h0⟩)
        go_wp2
        go_ret
        exact ⟨by rw [e]; rfl, hb⟩
/-- limbs as cells -/
def cv (l : List Nat) : List Value := l.map (fun x : Nat => Value.int .u32 (x : Int))
theorem cv_length (l : List Nat) : (cv l).length = l.length := by simp [cv]
theorem cv_append (a b : List Nat) : cv (a ++ b) = cv a ++ cv b := by simp [cv]
theorem cv_set (a : List Nat) (i v : Nat) : cv (a.set i v) = (cv a).set i (.int .u32 (v : Int)) := by simp [cv, List.map_set]
theorem cv_get {a : List Nat} {i x : Nat} (h : a[i]? = some x) : (cv a)[i]? = some (.int .u32 (x : Int)) := by simp [cv, h]
theorem cv_replicate (n : Nat) : cv (List.replicate n 0) = List.replicate n (.int .u32 0) := by simp [cv]
theorem own_rd {w : World} {B T : Nat} {v : Value} {n : Nat} {l : List Nat} (h : w.ownsRow B T 1 v n (cv l)) : ∃ A c, v = .slice A l.length c ∧ n = l.length ∧ l.length ≤ c ∧ Rd w A l := by
  have hn : n = l.length := by have h1 := h.1; rw [cv_length] at h1; omega
  subst hn
  rcases h.2 with ⟨rfl, h0⟩ | ⟨g, cap, cur, rfl, hB, hg, hnc, hcm, hcs, ht⟩
  · exact ⟨none, 0, by rw [h0], rfl, by omega, fun j x hx => by have := (List.getElem?_eq_some_iff.1 hx).1; omega⟩
  · refine ⟨_, cap, rfl, rfl, hnc, fun j x hx => ⟨⟨g, 0, none⟩, rfl, ?_⟩⟩
    rw [Addr.add_lit, Nat.zero_add, h.cellAt j (by have := (List.getElem?_eq_some_iff.1 hx).1; omega)]
    exact cv_get hx
/-- a slice that holds just the limbs of a number -/
def NatV (w : World) (V : Value) (v : Nat) : Prop := ∃ A c, V = .slice A (limbs v).length c ∧ (limbs v).length ≤ c ∧ Rd w A (limbs v)
theorem NatV.below {w w' : World} {V : Value} {v : Nat} (h : NatV w V v) (hb : Below w.heap.size w w') : NatV w' V v := by
  obtain ⟨A, c, e, hc, hR⟩ := h
  exact ⟨A, c, e, hc, hR.below hb⟩
theorem own_natv {w : World} {B T : Nat} {v : Value} {n : Nat} {l : List Nat} (hl : Ok l) (h : w.ownsRow B T 1 v n (cv (tl l))) : NatV w v (nv l) := by
  rw [tl_eq hl] at h
  obtain ⟨A, c, e, _, hc, hR⟩ := own_rd h
  exact ⟨A, c, e, hc, hR⟩
/-- a slice of slices of limbs -/
def SlAt (w : World) (Al : Option Addr) (ls : List (Option Addr × List Nat × Nat)) : Prop := ∀ (j : Nat) q, ls[j]? = some q → ∃ ad, Al = some ad ∧ w.cell? (ad.add j) = some (.slice q.1 q.2.1.length q.2.2)
def Good (w : World) (q : Option Addr × List Nat × Nat) : Prop := Rd w q.1 q.2.1 ∧ q.2.1.length ≤ q.2.2 ∧ q.2.1.length ≤ 1099511627776
set_option maxHeartbeats 4000000 in
set_option maxRecDepth 100000 in
theorem fits_calls (Al : Option Addr) (ls : List (Option Addr × List Nat × Nat)) (cl : Nat) (w : World) (hL : SlAt w Al ls) (hG : ∀ q ∈ ls, Good w q) (hn : ls.length ≤ 1099511627776) :
    Calls Tryz.prog 56 #[.slice Al ls.length cl] w fun e w' => e = .returned (.bool (ls.all (fun q => decide (tn q.2.1 ≤ 4096)))) ∧ Below w.heap.size w w' := by
  have HB0 := Below.refl w.heap.size w
  go_enter Tryz.func56, Tryz.ntmps56
  go_wp2
  go_loopg [4, 7] ls.length (fun kq v4 v7 wr => ∃ j : Nat, v7 = .int .i64 j ∧ j + kq = ls.length ∧ (∀ q ∈ ls.take j, tn q.2.1 ≤ 4096) ∧ Below w.heap.size w wr)
  case atStart => exact ⟨0, rfl, by omega, (fun q hq => by simp at hq), HB0⟩
  case round =>
    clear HB0
    obtain ⟨j, rfl, hj, hp, hb⟩ := hrel
    cases gk with
    | zero =>
      obtain rfl : j = ls.length := by omega
      rw [List.take_length] at hp
      go_wp2
      go_ret
      exact ⟨by rw [show (ls.all (fun q => decide (tn q.2.1 ≤ 4096))) = true from List.all_eq_true.2 (fun q hq => decide_eq_true (hp q hq))]; rfl, hb⟩
    | succ d =>
      have hjl : j < ls.length := by omega
      have hlt : (j : Int) < (ls.length : Int) := by omega
      obtain ⟨q, hq⟩ : ∃ q, ls[j]? = some q := ⟨_, List.getElem?_eq_getElem hjl⟩
      have hqm := List.mem_of_getElem? hq
      obtain ⟨ad, rfl, hcell⟩ := hL j q hq
      have hcell2 := (hb.cell (World.block_lt_of_cell? _ _ hcell)).trans hcell
      have hg := hG q hqm
      obtain ⟨A, l, c⟩ := q
      dsimp only at hcell hcell2 hg
      have hk := trim_calls A l c wr (hg.1.below hb) hg.2.1 hg.2.2
      have hHL : Hid _ := Lib.hid hL
      have hHG : Hid _ := Lib.hid hG
      have hHp : Hid _ := Lib.hid hp
      have hHq : Hid _ := Lib.hid hq
      have htn : tn l ≤ 1099511627776 := Nat.le_trans (tn_le l) hg.2.2
      clear hL hG hp hq
      by_cases h0 : tn l ≤ 4096
      · have h1 : ¬ (4096 : Int) < (tn l : Int) := by omega
        go_wp2_with (go_at_call 58; (with_reducible refine hk.mono ?_); clear hk; rintro e1 w1 ⟨rfl, hb1⟩)
        go_roundg d
        case rel => exact ⟨j + 1, by go_num, by omega, (fun q hq2 => by
          rw [List.take_add_one, hHq.out] at hq2
          rcases List.mem_append.1 hq2 with h | h
          · exact hHp.out q h
          · simp at h; subst h; exact h0), below_step hb hb1⟩
        case measure => omega
      · have h1 : (4096 : Int) < (tn l : Int) := by omega
        go_wp2_with (go_at_call 58; (with_reducible refine hk.mono ?_); clear hk; rintro e1 w1 ⟨rfl, hb1⟩)
        go_ret
        refine ⟨?_, below_step hb hb1⟩
        rw [show (ls.all (fun q => decide (tn q.2.1 ≤ 4096))) = false from by
          rw [List.all_eq_false]
          exact ⟨_, hqm, by simpa using h0⟩]
        rfl
theorem info40 : (Tryz.prog.info? 53).map (fun i => (i.zero, i.size, i.bytes)) = some (some (.int .u32 0), 1, 4) := by kernel_rfl
set_option maxHeartbeats 4000000 in
set_option maxRecDepth 100000 in
theorem clone_calls (A : Option Addr) (l : List Nat) (c : Nat) (w : World) (hR : Rd w A l) (hc : l.length ≤ c) (hl : l.length ≤ 1099511627776) :
    Calls Tryz.prog 57 #[.slice A l.length c] w fun e w' => ∃ v', e = .returned v' ∧ w'.ownsRow w.heap.size 53 1 v' l.length (cv l) ∧ Below w.heap.size w w' := by
  obtain ⟨i0, hi, hz0, hz1, hz2⟩ := info_parts info40
  have q22 : ∀ (w : World) (a : Option Addr) (n c n' c' : Nat), (binOp .eql 50 (.slice a n c) (.slice none n' c')).run Tryz.prog w = .ok (.bool a.isNone) w := fun w a n c n' c' => Lib.run_eql_slice_nil w _ _ a n c n' c' Tryz.underlying50
  cases A with
  | none =>
    obtain rfl : l = [] := by
      cases l with
      | nil => rfl
      | cons x l => obtain ⟨ad, e, _⟩ := hR 0 x rfl; cases e
    go_enter Tryz.func57, Tryz.ntmps57
    go_wp2
    go_ret
    exact ⟨_, rfl, World.ownsRow_nil _ _ _ _, Below.refl _ _⟩
  | some ad =>
    have hcells : ∀ (i : Nat) (u : Value), (cv l)[i]? = some u → w.cell? (ad.add i) = some u := fun i u hu => by
      unfold cv at hu
      rw [List.getElem?_map] at hu
      obtain ⟨x, hx, rfl⟩ := Option.map_eq_some_iff.1 hu
      obtain ⟨ad2, e, hcx⟩ := hR i x hx
      cases e; exact hcx
    have Hc : Hid _ := Lib.hid hcells
    clear hcells hR
    go_enter Tryz.func57, Tryz.ntmps57
    go_wp2_with (at_builtin; refine wpList_append_own _ rfl _ _ 50 rfl w.heap.size 53 i0 (.int .u32 0) 1 4 Tryz.underlying50 hi hz0 hz1 hz2 rfl (by decide) _ _ _ rfl (World.ownsRow_made w #[] 0 (Nat.le_refl _) (Nat.zero_le _) rfl) ad l.length c (cv l) rfl ?qc1 ?qc2 ?qc3 ?qc4 ?qc5 ?qc6 ?_)
    case qc1 => rw [cv_length]; omega
    case qc2 => intro j u hj; exact Lib.cell?_alloc_some _ (Hc.out j u hj)
    case qc3 => intro u hu; obtain ⟨x, _, rfl⟩ := List.mem_map.1 hu; rfl
    case qc4 => unfold maxLen; omega
    case qc5 => omega
    case qc6 => simp
    intro v' w1 hown hgrow hnil
    go_wp2
    go_ret
    exact ⟨v', rfl, by simpa using hown, ((Below.refl _ w).alloc (Nat.le_refl _) _).grown hgrow (by simp) (by intro k hk; simp [Value.ownBlock] at hk; omega)⟩
theorem one_slat (w : World) (A : Option Addr) (l : List Nat) (c t : Nat) : SlAt (w.alloc (.cells #[.slice A l.length c] t)) (some ⟨w.heap.size, 0, none⟩) [(A, l, c)] := fun j q hq => by
  have hj := (List.getElem?_eq_some_iff.1 hq).1
  obtain rfl : j = 0 := by simpa using hj
  simp at hq; subst hq
  exact ⟨_, rfl, by rw [Addr.add_lit, Lib.cell_of_heap (heap_alloc_new w _)]; rfl⟩
theorem two_slat (w : World) (A : Option Addr) (l : List Nat) (c : Nat) (A' : Option Addr) (l' : List Nat) (c' t : Nat) : SlAt (w.alloc (.cells #[.slice A l.length c, .slice A' l'.length c'] t)) (some ⟨w.heap.size, 0, none⟩) [(A, l, c), (A', l', c')] := fun j q hq => by
  have hj := (List.getElem?_eq_some_iff.1 hq).1
  rcases (show j = 0 ∨ j = 1 by simp at hj; omega) with rfl | rfl
  · simp at hq; subst hq
    exact ⟨_, rfl, by rw [Addr.add_lit, Lib.cell_of_heap (heap_alloc_new w _)]; rfl⟩
  · simp at hq; subst hq
    exact ⟨_, rfl, by rw [Addr.add_lit, Lib.cell_of_heap (heap_alloc_new w _)]; rfl⟩
theorem below_alloc (w : World) (o : Obj) : Below w.heap.size w (w.alloc o) := (Below.refl _ w).alloc (Nat.le_refl _) o
theorem Good.below {w w' : World} {q : Option Addr × List Nat × Nat} (h : Good w q) (hb : Below w.heap.size w w') : Good w' q := ⟨h.1.below hb, h.2⟩
set_option maxHeartbeats 4000000 in
set_option maxRecDepth 100000 in
theorem told_calls (A : Option Addr) (l : List Nat) (c : Nat) (w : World) (hG : Good w (A, l, c)) (hO : Ok l) (h4 : tn l ≤ 4096) :
    Calls Tryz.prog 62 #[.slice A l.length c] w fun e w' => ∃ v', e = .returned (.tuple #[v', .int .i64 0]) ∧ NatV w' v' (nv l) ∧ Below w.heap.size w w' := by
  have hb0 := below_alloc w (.cells #[.slice A l.length c] 50)
  have k1 := fits_calls (some ⟨w.heap.size, 0, none⟩) [(A, l, c)] 1 _ (one_slat w A l c 50) (fun q hq => by simp at hq; subst hq; exact hG.below hb0) (by simp)
  rw [show ([(A, l, c)].all (fun q : Option Addr × List Nat × Nat => decide (tn q.2.1 ≤ 4096))) = true by simpa using h4] at k1
  simp only [List.length_cons, List.length_nil, Nat.zero_add] at k1
  have k2 := fun W (hb : Below w.heap.size w W) => trim_calls A l c W (hG.1.below hb) hG.2.1 hG.2.2
  have hle := tn_le l
  have k3 := fun W (hb : Below w.heap.size w W) => clone_calls A (tl l) c W ((hG.1.below hb).take _) (by rw [tl_length]; exact Nat.le_trans hle hG.2.1) (by rw [tl_length]; exact Nat.le_trans hle hG.2.2)
  simp only [tl_length] at k3
  go_enter Tryz.func62, Tryz.ntmps62
  go_wp2_with (first | (go_at_call 56; (with_reducible refine k1.mono ?_); clear k1; rintro e1 w1 ⟨rfl, hb1⟩; have hb2 := below_step hb0 hb1) | (go_at_call 58; (with_reducible refine (k2 _ hb2).mono ?_); clear k2; rintro e2 w2 ⟨rfl, hb3⟩; have hb4 := below_step hb2 hb3) | (go_at_call 57; (with_reducible refine (k3 _ hb4).mono ?_); clear k3; rintro e3 w3 ⟨v', rfl, hown, hb5⟩; have hb6 := below_step hb4 hb5))
  go_ret2
  exact ⟨v', rfl, own_natv hO hown, hb6⟩
end Go.Proofs.YtffncomekbfihaaGreatDoor.Nat
