/- nat.told, nat.DivSmall: the answer's slice is its own. -/
import Derived.Test.YtffncomekbfihaaGreatDoorFdec1
namespace Go.Proofs.YtffncomekbfihaaGreatDoor.Nat
open Go.RowKit Go.Shelf
set_option linter.unusedVariables false
/-- a slice with a block of its own that holds just a number's limbs -/
def OwnN (w : World) (V : Value) (v : Nat) : Prop := w.ownsRow 0 53 1 V (limbs v).length (cv (limbs v))
theorem own_ownn {w : World} {B : Nat} {V : Value} {l : List Nat} (hO : Ok l) (h : w.ownsRow B 53 1 V (tn l) (cv (tl l))) : OwnN w V (nv l) := by
  unfold OwnN
  rw [← tn_eq hO, ← tl_eq hO]
  exact own_le h (Nat.zero_le _)
theorem OwnN.natv {w : World} {V : Value} {v : Nat} (h : OwnN w V v) : NatV w V v := by
  obtain ⟨A, c, e, _, hc, hR⟩ := own_rd h
  exact ⟨A, c, e, hc, hR⟩
theorem OwnN.below {w w' : World} {V : Value} {v : Nat} (h : OwnN w V v) (hb : Below w.heap.size w w') : OwnN w' V v := own_keep h hb
/-- rows of two kinds are apart -/
theorem own_apart {w : World} {B1 B2 n1 n2 T1 T2 : Nat} {x1 x2 : List Value} {V1 V2 : Value} (h1 : w.ownsRow B1 T1 1 V1 n1 x1) (h2 : w.ownsRow B2 T2 1 V2 n2 x2) (hT : T1 ≠ T2) : V1.ownBlock = none ∨ V1.ownBlock ≠ V2.ownBlock := by
  rcases h1.2 with ⟨rfl, _⟩ | ⟨g, cap, cur, rfl, _, hg, _⟩
  · exact .inl rfl
  · right
    intro e
    rcases h2.2 with ⟨rfl, _⟩ | ⟨g2, cap2, cur2, rfl, _, hg2, _⟩
    · cases e
    · have : g = g2 := by simpa [Value.ownBlock] using e
      subst this
      rw [hg] at hg2
      exact hT (Obj.cells.inj (Option.some.inj hg2)).2.1
set_option maxHeartbeats 4000000 in
set_option maxRecDepth 100000 in
theorem toldO_calls (A : Option Addr) (l : List Nat) (c : Nat) (w : World) (hG : Good w (A, l, c)) (hO : Ok l) (h4 : tn l ≤ 4096) :
    Calls Tryz.prog 62 #[.slice A l.length c] w fun e w' => ∃ v', e = .returned (.tuple #[v', .int .i64 0]) ∧ OwnN w' v' (nv l) ∧ Below w.heap.size w w' := by
  have hb0 := below_alloc w (.cells #[.slice A l.length c] 50)
  have k1 := fits_calls (some ⟨w.heap.size, 0, none⟩) [(A, l, c)] 1 _ (one_slat w A l c 50) (fun q hq => by simp at hq; subst hq; exact hG.below hb0) (by simp)
  rw [show ([(A, l, c)].all (fun q : Option Addr × List Nat × Nat => decide (tn q.2.1 ≤ 4096))) = true by simpa using h4] at k1
  simp only [List.length_cons, List.length_nil, Nat.zero_add] at k1
  have k2 := fun W (hb : Below w.heap.size w W) => trim_calls A l c W (hG.1.below hb) hG.2.1 hG.2.2
  have hle := tn_le l
  have k3 := fun W (hb : Below w.heap.size w W) => clone_calls A (tl l) c W ((hG.1.below hb).take _) (by rw [tl_length]; exact Nat.le_trans hle hG.2.1) (by rw [tl_length]; exact Nat.le_trans hle hG.2.2)
  simp only [tl_length] at k3
  go_enter Tryz.func62, Tryz.ntmps62
  go_wp2_with (first | (go_at_call 56; (with_reducible refine k1.mono ?_); clear k1; rintro e1 w1 ⟨rfl, hb1⟩; have hb2 := below_step hb0 hb1) | (go_at_call 58; (with_reducible refine (k2 _ hb2).mono ?_); clear k2; rintro e2 w2 ⟨rfl, hb3⟩; have hb4 := below_step hb2 hb3) | (go_at_call 57; (with_reducible refine (k3 _ hb4).mono ?_); clear k3; rintro e3 w3 ⟨v', rfl, hown, hb5⟩; have hb6 := below_step hb4 hb5))
  go_ret2
  exact ⟨v', rfl, own_ownn hO hown, hb6⟩
set_option maxHeartbeats 8000000 in
set_option maxRecDepth 100000 in
theorem divSmallO_calls (A : Option Addr) (l : List Nat) (c d : Nat) (w : World) (hG : Good w (A, l, c)) (hO : Ok l) (h4 : tn l ≤ 4096) (hd0 : 0 < d) (hd : d < 4294967296) :
    Calls Tryz.prog 59 #[.slice A l.length c, .int .u32 (d : Int)] w fun e w' => ∃ v', e = .returned (.tuple #[v', .int .u32 ((nv l % d : Nat) : Int), .int .i64 0]) ∧ OwnN w' v' (nv l / d) ∧ Below w.heap.size w w' := by
  have hle := tn_le l
  have hl := hG.2.2
  dsimp only at hl
  have hb0 := below_alloc w (.cells #[.slice A l.length c] 50)
  have k0 := fits_calls (some ⟨w.heap.size, 0, none⟩) [(A, l, c)] 1 _ (one_slat w A l c 50) (fun q hq => by simp at hq; subst hq; exact hG.below hb0) (by simp)
  rw [show ([(A, l, c)].all (fun q : Option Addr × List Nat × Nat => decide (tn q.2.1 ≤ 4096))) = true by simpa using h4] at k0
  simp only [List.length_cons, List.length_nil, Nat.zero_add] at k0
  have k1 := fun W (hb : Below w.heap.size w W) => trim_calls A l c W (hG.1.below hb) hG.2.1 hG.2.2
  have k3 := fun W (hb : Below w.heap.size w W) => clone_calls A (tl l) c W ((hG.1.below hb).take _) (by rw [tl_length]; exact Nat.le_trans hle hG.2.1) (by rw [tl_length]; exact Nat.le_trans hle hG.2.2)
  simp only [tl_length] at k3
  have hdn : ¬ (d : Int) = 0 := by omega
  go_enter Tryz.func59, Tryz.ntmps59
  go_wp2_with (first | (go_at_call 56; (with_reducible refine k0.mono ?_); clear k0; rintro e1 w1 ⟨rfl, hb1⟩; have hb4 := below_step hb0 hb1) | (go_at_call 58; (with_reducible refine (k1 _ hb4).mono ?_); clear k1; rintro e2 w3 ⟨rfl, hb5⟩; have hb6 := below_step hb4 hb5) | (go_at_call 57; (with_reducible refine (k3 _ hb6).mono ?_); clear k3; rintro e3 w4 ⟨v0, rfl, hown, hb7⟩; have hb8 := below_step hb6 hb7; have hown1 := own_le hown hb6.size; clear hown; obtain ⟨Ao, co, rfl, -⟩ := own_rn hown1))
  have hT := tl_length l
  have htop : nv ((tl l).drop (tn l)) = 0 := by rw [List.drop_of_length_le (by omega)]; rfl
  generalize tn l = n at *
  clear hb0 hb1 hb4 hb5 hb6 hb7
  go_loopg [8, 9] n (fun kq v8 v9 wr => ∃ (r : Nat) (o : List Nat), v8 = .int .u32 r ∧ v9 = .int .i64 ((kq : Int) - 1) ∧ kq ≤ n ∧ o.length = n ∧ wr.ownsRow w.heap.size 53 1 (.slice Ao n co) n (cv o) ∧ Ok o ∧ o.take kq = (tl l).take kq ∧ r < d ∧ nv ((tl l).drop kq) = d * nv (o.drop kq) + r ∧ Below w.heap.size w wr)
  case atStart => exact ⟨0, tl l, rfl, rfl, Nat.le_refl _, hT, hown1, ok_tl hO, rfl, hd0, by rw [htop]; simp, hb8⟩
  case round =>
    clear hown1 hb8 htop
    obtain ⟨r, o, rfl, rfl, hk, hol, hown, hoO, hot, hr, hov, hb⟩ := hrel
    cases gk with
    | zero =>
      rw [List.drop_zero, List.drop_zero, nv_tl hO] at hov
      have hq : nv o = nv l / d := by rw [hov, Nat.mul_add_div hd0, Nat.div_eq_of_lt hr, Nat.add_zero]
      have hm : r = nv l % d := by rw [hov, Nat.mul_add_mod, Nat.mod_eq_of_lt hr]
      have hgd := own_good (l := o) hown (by omega)
      rw [hol] at hgd
      have htn := tn_le o
      have k9 := toldO_calls Ao o co wr hgd.1 hoO (by omega)
      rw [hol, hq] at k9
      rw [show ((0 : Nat) : Int) - 1 = -1 from rfl]
      clear hov hq
      subst hm
      go_wp2_with (go_at_call 62; (with_reducible refine k9.mono ?_); clear k9; rintro e5 w5 ⟨v', rfl, hv, hb8⟩)
      go_ret3
      exact ⟨v', rfl, hv, below_step hb hb8⟩
    | succ i =>
      rw [show ((i + 1 : Nat) : Int) - 1 = (i : Int) by omega]
      obtain ⟨g, co2, e2⟩ := own_form hown (by omega)
      cases e2
      obtain ⟨x, hx⟩ : ∃ x, o[i]? = some x := ⟨_, List.getElem?_eq_getElem (by omega)⟩
      have hx2 : (tl l)[i]? = some x := by
        have h1 : (o.take (i + 1))[i]? = ((tl l).take (i + 1))[i]? := by rw [hot]
        rw [List.getElem?_take, List.getElem?_take, if_pos (by omega), if_pos (by omega), hx] at h1
        exact h1.symm
      have hx32 := hoO.get hx
      have hcO := hown.cellAt i (by omega)
      rw [cv_get hx] at hcO
      have hfO := hown.frozenAt i
      have him : (i : Int) < (n : Int) := by omega
      have k3 := fun W => div32_calls r x d W hr hx32 hd
      have e1 := Nat.div_add_mod (r * 4294967296 + x) d
      have hr2 := Nat.mod_lt (r * 4294967296 + x) hd0
      have hq32 : (r * 4294967296 + x) / d < 4294967296 := by rw [Nat.div_lt_iff_lt_mul hd0]; have := Nat.mul_le_mul_right 4294967296 (show r + 1 ≤ d from hr); omega
      generalize (r * 4294967296 + x) / d = q at *
      generalize (r * 4294967296 + x) % d = r2 at *
      go_wp2_with (go_at_call 105; (with_reducible refine (k3 _).mono ?_); clear k3; rintro e6 w6 ⟨rfl, hb6⟩; have hown6 := own_keep hown hb6; clear hown; have hcO6 := hown6.cellAt i (by omega); rw [cv_get hx] at hcO6; have hfO6 := hown6.frozenAt i)
      have hst := (hown6.stored i (.int .u32 (q : Int))).1
      go_roundg i
      case rel => exact ⟨r2, o.set i q, rfl, by go_num, by omega, by rw [List.length_set]; exact hol, by rw [cv_set]; exact hst, hoO.set _ _ hq32, by
          rw [List.take_set_of_le (Nat.le_refl _)]
          have h1 : (o.take (i + 1)).take i = ((tl l).take (i + 1)).take i := by rw [hot]
          rwa [List.take_take, List.take_take, Nat.min_eq_left (by omega)] at h1, hr2, by
          rw [nv_drop hx2, hov]
          have h1 : nv ((o.set i q).drop i) = q + 4294967296 * nv (o.drop (i + 1)) := by
            rw [nv_drop (List.getElem?_set_self (by omega)), List.drop_set_of_lt (by omega)]
          rw [h1, Nat.mul_add, Nat.mul_add, ← Nat.mul_assoc d, Nat.mul_comm d 4294967296, Nat.mul_assoc]
          omega, (below_step hb hb6).setCell (p := ⟨g, i, none⟩) (own_lo hown6 g rfl) _⟩
      case measure => omega
theorem divs_o {w : World} {V : Value} {a d : Nat} (h1 : NatA w V a) (ha : (limbs a).length ≤ 4096) (hd0 : 0 < d) (hd : d < 4294967296) :
    Calls Tryz.prog 59 #[V, .int .u32 (d : Int)] w fun e w' => ∃ v', e = .returned (.tuple #[v', .int .u32 ((a % d : Nat) : Int), .int .i64 0]) ∧ OwnN w' v' (a / d) ∧ Below w.heap.size w w' := by
  obtain ⟨A, l, c, rfl, hG, hO, rfl⟩ := h1
  exact divSmallO_calls A l c d w hG hO (by rw [tn_eq hO]; exact ha) hd0 hd
end Go.Proofs.YtffncomekbfihaaGreatDoor.Nat
