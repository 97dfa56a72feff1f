import Derived.Test.YtfcfnnkepjoncaaHand5
namespace Go.Proofs.Ytfcfnnkepjoncaa.Pure
open Go.RowKit Go.Proofs.Ytfcfnnkepjoncaa.Hand Go.Proofs.YtfcfnnkepjoncaaW.PrintWords Go.Proofs.YtfcfnnkepjoncaaW.PrintLast
set_option linter.unusedVariables false
set_option linter.unusedSimpArgs false

/-- the number of bytes, the highest first -/
def numB (l : List Nat) : Nat := l.foldl (fun a b => a * 256 + b) 0
theorem numB_snoc (l : List Nat) (x : Nat) : numB (l ++ [x]) = numB l * 256 + x := by simp [numB, List.foldl_append]

theorem app2 {a b c d : List Nat} (h : a = c) (k : b = d) : a ++ b = c ++ d := by rw [h, k]
/-- digit j of a number of N bits -/
def digB (tw N X j : Nat) : Nat := X / 2 ^ (N - tw * (j + 1)) % 2 ^ tw

theorem div_mod_pow (X N a : Nat) (h : a ≤ N) : X / 2 ^ (N - a) / 2 ^ a = X / 2 ^ N := by
  rw [Nat.div_div_eq_div_mul, ← Nat.pow_add, Nat.sub_add_cancel h]

theorem drain_eq (tw : Nat) (ht : 0 < tw) : ∀ (N X : Nat), X < 2 ^ N → Hand.drain tw X N = ((List.range (N / tw)).map (digB tw N X), X % 2 ^ (N % tw), N % tw) := by
  intro N
  induction N using Nat.strongRecOn with
  | _ N ih =>
    intro X hX
    by_cases h : tw ≤ N
    · rw [Hand.drain, dif_pos ⟨ht, h⟩, ih (N - tw) (by omega) _ (Nat.mod_lt _ (Nat.two_pow_pos _))]
      have hq : N / tw = (N - tw) / tw + 1 := by rw [← Nat.sub_add_cancel h, Nat.add_div_right _ ht, Nat.add_sub_cancel]
      have hr : (N - tw) % tw = N % tw := (Nat.mod_eq_sub_mod h).symm
      have hrl : N % tw ≤ N - tw := by rw [← hr]; exact Nat.mod_le _ _
      refine Prod.ext ?_ (Prod.ext ?_ hr)
      · show _ :: _ = _
        rw [hq, List.range_succ_eq_map, List.map_cons, List.map_map]
        congr 1
        · unfold digB; rw [Nat.zero_add, Nat.mul_one, Nat.mod_eq_of_lt]
          rw [Nat.div_lt_iff_lt_mul (Nat.two_pow_pos _), ← Nat.pow_add, Nat.add_sub_cancel' h]; exact hX
        · refine List.map_congr_left fun j hj => ?_
          have hj' : j < (N - tw) / tw := List.mem_range.1 hj
          have h2 : tw * (j + 1) ≤ N - tw := by
            have := (Nat.le_div_iff_mul_le ht).1 (show j + 1 ≤ (N - tw) / tw from hj'); rw [Nat.mul_comm]; exact this
          show digB tw (N - tw) (X % 2 ^ (N - tw)) j = digB tw N X (j + 1)
          unfold digB
          have e1 : N - tw * (j + 1 + 1) = N - tw - tw * (j + 1) := by rw [Nat.mul_add tw (j + 1) 1]; omega
          rw [e1]
          generalize hE : N - tw - tw * (j + 1) = E
          have e2 : N - tw = tw * (j + 1) + E := by omega
          rw [e2, Nat.pow_add, Nat.mul_comm (2 ^ (tw * (j + 1))), Nat.mod_mul_right_div_self]
          rw [Nat.mul_add, Nat.mul_one, Nat.pow_add, Nat.mod_mod_of_dvd _ (Nat.dvd_mul_left _ _)]
      · show X % 2 ^ (N - tw) % 2 ^ ((N - tw) % tw) = X % 2 ^ (N % tw)
        rw [hr, Nat.mod_mod_of_dvd _ (Nat.pow_dvd_pow 2 hrl)]
    · rw [Hand.drain, dif_neg (fun q => h q.2)]
      have h0 : N / tw = 0 := Nat.div_eq_of_lt (by omega)
      have h1 : N % tw = N := Nat.mod_eq_of_lt (by omega)
      rw [h0, h1, Nat.mod_eq_of_lt hX]; rfl

theorem digB_lift (tw n V v j : Nat) (hv : v < 256) (h : tw * (j + 1) ≤ n) : digB tw (n + 8) (V * 256 + v) j = digB tw n V j := by
  unfold digB
  rw [show n + 8 - tw * (j + 1) = 8 + (n - tw * (j + 1)) by omega, Nat.pow_add, ← Nat.div_div_eq_div_mul]
  rw [show (V * 256 + v) / 2 ^ 8 = V by omega]

theorem digB_high (tw N X H j : Nat) (h : tw * (j + 1) ≤ N) : digB tw N (H * 2 ^ N + X) j = digB tw N X j := by
  unfold digB
  generalize hE : N - tw * (j + 1) = E
  have e : N = tw * (j + 1) + E := by omega
  have e2 : H * 2 ^ N = H * 2 ^ (tw * j) * 2 ^ tw * 2 ^ E := by
    rw [e, Nat.mul_add, Nat.mul_one, Nat.pow_add, Nat.pow_add]; simp only [Nat.mul_assoc]
  rw [e2, Nat.add_comm, Nat.add_mul_div_right _ _ (Nat.two_pow_pos E), Nat.add_mul_mod_self_right]

theorem enc_eq (tw : Nat) (ht : 0 < tw) (l : List Nat) (hl : ∀ x ∈ l, x < 256) : numB l < 2 ^ (8 * l.length) ∧
    encBits tw l = (numB l % 2 ^ (8 * l.length % tw), 8 * l.length % tw, (List.range (8 * l.length / tw)).map (digB tw (8 * l.length) (numB l))) := by
  induction l using rev_ind with
  | h0 => exact ⟨by simp [numB], by simp [encBits, numB, Nat.mod_one]⟩
  | h1 l x ih =>
    obtain ⟨hV, he⟩ := ih (fun y hy => hl y (by simp [hy]))
    have hx : x < 256 := hl x (by simp)
    have hlen : 8 * (l ++ [x]).length = 8 * l.length + 8 := by simp; omega
    rw [numB_snoc, hlen]
    generalize hn : 8 * l.length = n at *
    generalize numB l = V at *
    refine ⟨by rw [Nat.pow_add]; have := Nat.mul_le_mul_right 256 (show V + 1 ≤ 2 ^ n from hV); omega, ?_⟩
    rw [enc_snoc, he]
    unfold encStep
    dsimp only
    have hX : V % 2 ^ (n % tw) * 256 + x < 2 ^ (n % tw + 8) := by
      have h1 : V % 2 ^ (n % tw) + 1 ≤ 2 ^ (n % tw) := Nat.mod_lt _ (Nat.two_pow_pos _)
      rw [Nat.pow_add]; have := Nat.mul_le_mul_right 256 h1; omega
    rw [drain_eq tw ht _ _ hX]
    have hmod : (n % tw + 8) % tw = (n + 8) % tw := by rw [Nat.mod_add_mod]
    have hdiv : (n + 8) / tw = n / tw + (n % tw + 8) / tw := by
      have e : n + 8 = (n % tw + 8) + tw * (n / tw) := by have := Nat.mod_add_div n tw; omega
      rw [e, Nat.add_mul_div_left _ _ ht, Nat.add_comm]
    have hVd : V * 256 + x = V / 2 ^ (n % tw) * 2 ^ (n % tw + 8) + (V % 2 ^ (n % tw) * 256 + x) := by
      have := Nat.mod_add_div V (2 ^ (n % tw))
      rw [Nat.pow_add, show (2 : Nat) ^ 8 = 256 from rfl, ← Nat.mul_assoc, ← Nat.add_assoc, ← Nat.add_mul, Nat.mul_comm (V / _), Nat.add_comm (2 ^ (n % tw) * _), this]
    refine Prod.ext ?_ (Prod.ext hmod ?_)
    · show _ % _ = _ % _
      rw [hmod, hVd]
      have hle : (n + 8) % tw ≤ n % tw + 8 := by rw [← hmod]; exact Nat.mod_le _ _
      generalize V % 2 ^ (n % tw) * 256 + x = X
      rw [show n % tw + 8 = (n + 8) % tw + (n % tw + 8 - (n + 8) % tw) by omega, Nat.pow_add, Nat.mul_comm (2 ^ ((n + 8) % tw)), ← Nat.mul_assoc, Nat.mul_add_mod_self_right]
    · show _ ++ _ = _
      rw [hdiv, List.range_add, List.map_append, List.map_map]
      refine app2 ?_ ?_
      · refine List.map_congr_left fun j hj => ?_
        have hj' : j < n / tw := List.mem_range.1 hj
        have h2 : tw * (j + 1) ≤ n := by
          have := (Nat.le_div_iff_mul_le ht).1 (show j + 1 ≤ n / tw from hj'); rw [Nat.mul_comm]; exact this
        exact (digB_lift tw n V x j hx h2).symm
      · refine List.map_congr_left fun j hj => ?_
        have hj' : j < (n % tw + 8) / tw := List.mem_range.1 hj
        have h2 : tw * (j + 1) ≤ n % tw + 8 := by
          have := (Nat.le_div_iff_mul_le ht).1 (show j + 1 ≤ (n % tw + 8) / tw from hj'); rw [Nat.mul_comm]; exact this
        show _ = digB tw (n + 8) (V * 256 + x) (n / tw + j)
        rw [hVd]
        have e : ∀ Z, digB tw (n + 8) Z (n / tw + j) = digB tw (n % tw + 8) Z j := by
          intro Z
          unfold digB
          have h3 := Nat.mod_add_div n tw
          rw [show tw * (n / tw + j + 1) = tw * (n / tw) + tw * (j + 1) by rw [← Nat.mul_add, Nat.add_assoc]]
          rw [show n + 8 - (tw * (n / tw) + tw * (j + 1)) = n % tw + 8 - tw * (j + 1) by omega]
        rw [e, digB_high _ _ _ _ _ h2]
end Go.Proofs.Ytfcfnnkepjoncaa.Pure
