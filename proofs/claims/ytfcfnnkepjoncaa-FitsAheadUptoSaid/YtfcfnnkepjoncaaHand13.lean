import Derived.Test.YtfcfnnkepjoncaaHand12
import Derived.Test.YtfcfnnkepjoncaaPCx2
namespace Go.Proofs.Ytfcfnnkepjoncaa.Hand
open Go.RowKit Go.Shelf Go.Proofs.YtfcfnnkepjoncaaW.PrintWords Go.Proofs.YtfcfnnkepjoncaaW.PrintLast Go.Proofs.YtfcfnnkepjoncaaW.PrintMore Go.Proofs.Ytfcfnnkepjoncaa.PC
theorem leaf_some (a : Int) (b : Bool) (c : Int) (d : ByteArray) (l : List S44) : ∃ r, value_Leaf.f a b c d l = some r := by
  unfold value_Leaf.f; repeat' split
  all_goals exact ⟨_, rfl⟩
theorem depth_loop (l : List S44) (hl : l.length < 9223372036854775807) (h : ∀ i : Nat, i < l.length → ∃ r, Ev (fun k => value_Depth.f k (rd_T44 l i).f0 (rd_T44 l i).f1 (rd_T44 l i).f2 (rd_T44 l i).f3 (rd_T44 l i).f4) r) :
    ∀ (d j : Nat) (x3 : Int), j + d = l.length → ∃ r, Ev (fun k => value_Depth.l0 k x3 l (l.length : Int) (j : Int)) r := by
  intro d
  induction d with
  | zero =>
    intro j x3 hj
    refine ⟨wrap64 (x3 + 1), 1, fun n hn => ?_⟩
    obtain ⟨m, rfl⟩ : ∃ m, n = m + 1 := ⟨n - 1, by omega⟩
    simp only [value_Depth.l0]
    rw [if_neg (by omega)]
  | succ d ih =>
    intro j x3 hj
    obtain ⟨t, ht⟩ := h j (by omega)
    obtain ⟨r, hr⟩ := ih (j + 1) (mx x3 t) (by omega)
    refine ⟨r, Ev.step (f := fun k => (value_Depth.f k (rd_T44 l j).f0 (rd_T44 l j).f1 (rd_T44 l j).f2 (rd_T44 l j).f3 (rd_T44 l j).f4).bind fun t106 => value_Depth.l0 k (mx x3 t106) l (l.length : Int) (wrap64 ((j : Int) + 1))) (fun k => ?_) (Ev.bind ht ?_)⟩
    · simp only [value_Depth.l0]
      rw [if_pos (by omega), if_pos (by omega), if_pos (by omega)]
    · rw [wrap_j (n := l.length) (by omega) hl]; exact hr
theorem preL_append (a b : List S44) : preL (a ++ b) = preL a ++ preL b := by
  induction a with
  | nil => rfl
  | cons t ts ih => rw [List.cons_append, preL, ih, preL, List.append_assoc]
theorem child_len {l : List S44} {i : Nat} (h : i < l.length) : (preT (rd_T44 l (i : Int))).length ≤ (preL l).length := by
  have h1 := preL_append (l.take i) (l.drop i)
  rw [List.take_append_drop, preL_drop h rfl] at h1
  rw [h1]; simp only [List.length_append]; omega
theorem depth_ev : ∀ (n : Nat) (t : S44), (preT t).length ≤ n → n ≤ 1099511627776 → ∃ r, Ev (fun k => value_Depth.f k t.f0 t.f1 t.f2 t.f3 t.f4) r := by
  intro n
  induction n with
  | zero => intro t h; rw [preT_eq] at h; simp at h
  | succ n ih =>
    intro t h hn
    rw [preT_eq, List.length_cons] at h
    have hl := len_preL t.f4
    obtain ⟨b, hb⟩ := leaf_some t.f0 t.f1 t.f2 t.f3 t.f4
    obtain ⟨r, hr⟩ := depth_loop t.f4 (by omega) (fun i hi => ih _ (by have := child_len hi; omega) (by omega)) t.f4.length 0 0 (by omega)
    cases b with
    | true =>
      by_cases h5 : t.f0 = 5
      · refine ⟨1, 1, fun m hm => ?_⟩
        obtain ⟨m, rfl⟩ : ∃ k, m = k + 1 := ⟨m - 1, by omega⟩
        simp only [value_Depth.f, hb, Option.bind_some, if_true, if_pos h5]
      · refine ⟨0, 1, fun m hm => ?_⟩
        obtain ⟨m, rfl⟩ : ∃ k, m = k + 1 := ⟨m - 1, by omega⟩
        simp only [value_Depth.f, hb, Option.bind_some, if_true, if_neg h5]
    | false =>
      refine ⟨r, Ev.step (f := fun k => value_Depth.l0 k 0 t.f4 (t.f4.length : Int) ((0 : Nat) : Int)) (fun k => ?_) hr⟩
      simp only [value_Depth.f, hb, Option.bind_some]
      rfl
/-- value.Depth ends -/
theorem depth_rounds (t : S44) (h : (preT t).length ≤ 1099511627776) : ∃ k r, value_Depth.f k t.f0 t.f1 t.f2 t.f3 t.f4 = some r := by
  obtain ⟨r, hr⟩ := depth_ev _ t (Nat.le_refl _) h
  obtain ⟨k, hk⟩ := hr.rounds
  exact ⟨k, r, hk⟩
end Go.Proofs.Ytfcfnnkepjoncaa.Hand
