/- Proved: the letters of U64 are those of B64 but - for + and _ for /, without =; those of Hex are two for each byte (for bytes of any number: the statement speaks of at most 10000). -/
import Derived.Test.YtfcfnnkepjoncaaPureBaseB
import Derived.Test.YtfcfnnkepjoncaaPBx6
namespace Go.Proofs.Ytfcfnnkepjoncaa.Pure
open Go.RowKit Go.Proofs.Ytfcfnnkepjoncaa.PB Go.Proofs.Ytfcfnnkepjoncaa.Hand Go.Proofs.YtfcfnnkepjoncaaW.PrintWords Go.Proofs.YtfcfnnkepjoncaaW.PrintLast
set_option linter.unusedVariables false
set_option linter.unusedSimpArgs false

theorem awake_f : glossatorlaw04_awake.f = some true := by
  unfold glossatorlaw04_awake.f
  rw [awake_enc]
  have h : (strOfNums [102, 102]).toList = ([102, 102] : List UInt8) := by rw [ByteArray.toList_eq]; rfl
  simp only [Option.bind_some]
  rw [if_pos trivial, h]; rfl

/-- a letter of B64 is one of U64, but for two -/
theorem letter_turns : ∀ d : Nat, d < 64 → (if (if bt aB64 d = 43 then 45 else bt aB64 d) = 47 then 95 else (if bt aB64 d = 43 then 45 else bt aB64 d)) = bt aU64 d := by decide +kernel

theorem wrap_s {x : Int} (h0 : 0 ≤ x) (h : x ≤ 1000000000000000000) : wrap64 x = x := by unfold wrap64; omega

/-- the loop over the letters -/
theorem letters_loop (D : List Nat) (hD : ∀ d ∈ D, d < 64) (hn : D.length ≤ 100000) (x y : ByteArray) (F : Nat) (hF : F ≤ 4)
    (hx : x.size = D.length + F) (hy : y.size = D.length) (hbx : ∀ i, i < D.length → bt x (i : Int) = bt aB64 (D.getD i 0 : Nat)) (hbp : ∀ i : Nat, D.length ≤ i → i < D.length + F → bt x (i : Int) = 61)
    (hby : ∀ i, i < D.length → bt y (i : Int) = bt aU64 (D.getD i 0 : Nat)) (d : Nat) : ∀ i : Nat, i ≤ D.length + F → D.length + F - i ≤ d → Ev (fun k => glossatorlaw04_BaseLetters.l0 k x y (i : Int)) true := by
  have hend : ∀ i : Nat, i = D.length + F → Ev (fun k => glossatorlaw04_BaseLetters.l0 k x y (i : Int)) true := by
    rintro i rfl
    refine Ev.step (f := fun _ => some true) (fun k => ?_) (Ev.now _)
    simp only [glossatorlaw04_BaseLetters.l0]
    rw [if_neg (by omega), awake_f]; rfl
  induction d with
  | zero => intro i h1 h2; exact hend i (by omega)
  | succ d ih =>
    intro i h1 h2
    by_cases e : i = D.length + F
    · exact hend i e
    · have hi := ih (i + 1) (by omega) (by omega)
      have hw : wrap64 ((i : Int) + 1) = ((i + 1 : Nat) : Int) := by rw [wrap_s (by omega) (by omega)]; omega
      by_cases c : D.length ≤ i
      · refine Ev.step (f := fun k => glossatorlaw04_BaseLetters.l0 k x y ((i + 1 : Nat) : Int)) (fun k => ?_) hi
        simp only [glossatorlaw04_BaseLetters.l0]
        rw [if_pos (by omega), if_pos (by omega), if_pos (by omega), if_pos (hbp i c (by omega)), hw]
      · have hD1 : D.getD i 0 < 64 := by
          rw [List.getD_eq_getElem?_getD, List.getElem?_eq_getElem (show i < D.length by omega)]; exact hD _ (List.getElem_mem _)
        have hlt := letter_turns _ hD1
        rw [← hbx i (by omega), ← hby i (by omega)] at hlt
        have hj2 : ∀ c' : Int, (if c' = 47 then 95 else c') = bt y (i : Int) → Ev (fun k => glossatorlaw04_BaseLetters.j2 k x y (i : Int) c') true := by
          intro c' hc
          refine Ev.step (f := fun k => glossatorlaw04_BaseLetters.l0 k x y ((i + 1 : Nat) : Int)) (fun k => ?_) hi
          simp only [glossatorlaw04_BaseLetters.j2]
          by_cases q : c' = 47
          · rw [if_pos q] at hc
            rw [if_pos q, if_pos (by omega), if_pos (by omega), if_pos hc.symm, hw]
          · rw [if_neg q] at hc
            rw [if_neg q, if_pos (by omega), if_pos (by omega), if_pos hc.symm, hw]
        by_cases q : bt x (i : Int) = 43
        · rw [if_pos q] at hlt
          refine Ev.step (f := fun k => glossatorlaw04_BaseLetters.j2 k x y (i : Int) 45) (fun k => ?_) (hj2 45 hlt)
          simp only [glossatorlaw04_BaseLetters.l0]
          rw [if_pos (by omega), if_pos (by omega), if_neg (by omega), if_pos q]
        · rw [if_neg q] at hlt
          refine Ev.step (f := fun k => glossatorlaw04_BaseLetters.j2 k x y (i : Int) (bt x (i : Int))) (fun k => ?_) (hj2 _ hlt)
          simp only [glossatorlaw04_BaseLetters.l0]
          rw [if_pos (by omega), if_pos (by omega), if_neg (by omega), if_neg q]

theorem fill1 (n : Nat) : fillN 1 n = 0 := by unfold fillN; omega
theorem getD_lt {l : List Int} {i : Nat} (h : i < l.length) : l.getD i 0 = l[i] := by rw [List.getD_eq_getElem?_getD, List.getElem?_eq_getElem h]; rfl

theorem ev_const {α : Type} {o : Option α} {a : α} (h : o = some a) : Ev (fun _ => o) a := by subst h; exact Ev.now _
theorem BaseLetters : glossatorlaw04_BaseLetters.Pure := by
  intro l hl1 hl2 hl3
  have hl : ∀ x ∈ l, 0 ≤ x ∧ x < 256 := fun x hx => wf_u8 (hl3 x hx)
  unfold glossatorlaw04_BaseLetters.f
  by_cases c : (l.length : Int) > 10000
  · refine ⟨0, ?_⟩
    rw [if_pos c, awake_f]; rfl
  · have hn : l.length ≤ 10000 := by omega
    have hN := nums_lt hl
    refine Ev.rounds (Ev.congr (fun k => if_neg c) ?_)
    refine Ev.bind (ev_const (enc_f 1 aB64 6 4 of1' l hl (by omega))) (Ev.bind (ev_const (enc_f 2 aU64 6 1 of2' l hl (by omega))) (Ev.bind (ev_const (enc_f 0 aHex 4 1 of0' l hl (by omega))) ?_))
    dsimp only
    have hdl := digits_len 6 (by decide) _ hN
    have hdh := digits_len 4 (by decide) _ hN
    have hlen : (l.map Int.toNat).length = l.length := by simp
    rw [hlen] at hdl hdh
    have hsz : (strOfNums (encL aHex 4 1 (l.map Int.toNat))).size = 2 * l.length := by
      rw [strOfNums_size, encL_len, fill1, hdh, if_neg (by omega)]; omega
    have hsx : (strOfNums (encL aB64 6 4 (l.map Int.toNat))).size = (encDigits 6 (l.map Int.toNat)).length + fillN 4 (encDigits 6 (l.map Int.toNat)).length := by rw [strOfNums_size, encL_len]
    have hsy : (strOfNums (encL aU64 6 1 (l.map Int.toNat))).size = (encDigits 6 (l.map Int.toNat)).length := by rw [strOfNums_size, encL_len, fill1]; rfl
    have hD64 := digits_lt 6 (by decide) _ hN
    generalize hD : encDigits 6 (l.map Int.toNat) = D at *
    have hDn : D.length = (8 * l.length + 5) / 6 := by rw [hdl]; split <;> omega
    have hF2 : fillN 4 D.length ≤ 2 ∧ (D.length + fillN 4 D.length) % 4 = 0 := by
      refine ⟨?_, fillN_yes 4 _ (by decide)⟩
      unfold fillN; omega
    have hbx : ∀ i, i < D.length → bt (strOfNums (encL aB64 6 4 (l.map Int.toNat))) (i : Int) = bt aB64 (D.getD i 0 : Nat) := by
      intro i hi
      rw [bt_str _ (encL_range _ _ _ _) i (by rw [encL_len, hD]; omega)]
      unfold encL
      rw [hD, List.getD_eq_getElem?_getD, List.getElem?_append_left (by simpa using hi), List.getElem?_map, List.getElem?_eq_getElem hi, List.getD_eq_getElem?_getD, List.getElem?_eq_getElem hi]; rfl
    have hby : ∀ i, i < D.length → bt (strOfNums (encL aU64 6 1 (l.map Int.toNat))) (i : Int) = bt aU64 (D.getD i 0 : Nat) := by
      intro i hi
      rw [bt_str _ (encL_range _ _ _ _) i (by rw [encL_len, hD]; omega)]
      unfold encL
      rw [hD, List.getD_eq_getElem?_getD, List.getElem?_append_left (by simpa using hi), List.getElem?_map, List.getElem?_eq_getElem hi, List.getD_eq_getElem?_getD, List.getElem?_eq_getElem hi]; rfl
    have hbp : ∀ i : Nat, D.length ≤ i → i < D.length + fillN 4 D.length → bt (strOfNums (encL aB64 6 4 (l.map Int.toNat))) (i : Int) = 61 := by
      intro i h1 h2
      rw [bt_str _ (encL_range _ _ _ _) i (by rw [encL_len, hD]; omega)]
      unfold encL
      rw [hD, List.getD_eq_getElem?_getD, List.getElem?_append_right (by simpa using h1), List.getElem?_replicate, if_pos (by simp; omega)]; rfl
    generalize strOfNums (encL aB64 6 4 (l.map Int.toNat)) = x at *
    generalize strOfNums (encL aU64 6 1 (l.map Int.toNat)) = y at *
    have key := letters_loop D hD64 (by omega) x y (fillN 4 D.length) (by omega) hsx hsy hbx hbp hby _ 0 (by omega) (Nat.le_refl _)
    refine (Ev.congr (f := fun k => glossatorlaw04_BaseLetters.j0 k x y false) (fun k => ?_) (Ev.step (f := fun k => glossatorlaw04_BaseLetters.l0 k x y ((0 : Nat) : Int)) (fun k => ?_) key))
    · rw [if_pos (by rw [hsz, wrap_s (by omega) (by omega)]; omega), if_pos (by omega), if_neg (by omega), decide_eq_false]
      rw [wrap_s (by omega) (by omega)]; omega
    · simp only [glossatorlaw04_BaseLetters.j0]
      rw [if_neg (by decide)]; rfl
end Go.Proofs.Ytfcfnnkepjoncaa.Pure
