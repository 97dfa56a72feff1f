/- The letters of bytes by the program and by the document (kind 0 to 3), at this translation. -/
import Derived.Test.YtfcfnnkepjoncaaDoorBase5
import Derived.Test.YtfcfnnkepjoncaaDoorRefEnc
import Derived.Lib.Strings
namespace Go.Proofs.YtfcfnnkepjoncaaDoor.Pure
open Go.RowKit Go.Proofs.YtfcfnnkepjoncaaDoor.PScriptReports Go.Proofs.YtfcfnnkepjoncaaDoor.Base Go.Proofs.YtfcfnnkepjoncaaDoorW.PrintWords Go.Proofs.YtfcfnnkepjoncaaDoorW.PrintLast Go.Proofs.YtfcfnnkepjoncaaDoorW.PrintMore
set_option linter.unusedVariables false
set_option linter.unusedSimpArgs false
set_option linter.unusedSectionVars false

/-- the number of bytes, the highest first -/
def numB (l : List Nat) : Nat := l.foldl (fun a b => a * 256 + b) 0
theorem numB_snoc (l : List Nat) (x : Nat) : numB (l ++ [x]) = numB l * 256 + x := by simp [numB, List.foldl_append]

theorem app2 {a b c d : List Nat} (h : a = c) (k : b = d) : a ++ b = c ++ d := by rw [h, k]
/-- digit j of a number of N bits -/
def digB (tw N X j : Nat) : Nat := X / 2 ^ (N - tw * (j + 1)) % 2 ^ tw

theorem div_mod_pow (X N a : Nat) (h : a ≤ N) : X / 2 ^ (N - a) / 2 ^ a = X / 2 ^ N := by
  rw [Nat.div_div_eq_div_mul, ← Nat.pow_add, Nat.sub_add_cancel h]

theorem drain_eq (tw : Nat) (ht : 0 < tw) : ∀ (N X : Nat), X < 2 ^ N → Base.drain tw X N = ((List.range (N / tw)).map (digB tw N X), X % 2 ^ (N % tw), N % tw) := by
  intro N
  induction N using Nat.strongRecOn with
  | _ N ih =>
    intro X hX
    by_cases h : tw ≤ N
    · rw [Base.drain, dif_pos ⟨ht, h⟩, ih (N - tw) (by omega) _ (Nat.mod_lt _ (Nat.two_pow_pos _))]
      have hq : N / tw = (N - tw) / tw + 1 := by rw [← Nat.sub_add_cancel h, Nat.add_div_right _ ht, Nat.add_sub_cancel]
      have hr : (N - tw) % tw = N % tw := (Nat.mod_eq_sub_mod h).symm
      have hrl : N % tw ≤ N - tw := by rw [← hr]; exact Nat.mod_le _ _
      refine Prod.ext ?_ (Prod.ext ?_ hr)
      · show _ :: _ = _
        rw [hq, List.range_succ_eq_map, List.map_cons, List.map_map]
        congr 1
        · unfold digB; rw [Nat.zero_add, Nat.mul_one, Nat.mod_eq_of_lt]
          rw [Nat.div_lt_iff_lt_mul (Nat.two_pow_pos _), ← Nat.pow_add, Nat.add_sub_cancel' h]; exact hX
        · refine List.map_congr_left fun j hj => ?_
          have hj' : j < (N - tw) / tw := List.mem_range.1 hj
          have h2 : tw * (j + 1) ≤ N - tw := by
            have := (Nat.le_div_iff_mul_le ht).1 (show j + 1 ≤ (N - tw) / tw from hj'); rw [Nat.mul_comm]; exact this
          show digB tw (N - tw) (X % 2 ^ (N - tw)) j = digB tw N X (j + 1)
          unfold digB
          have e1 : N - tw * (j + 1 + 1) = N - tw - tw * (j + 1) := by rw [Nat.mul_add tw (j + 1) 1]; omega
          rw [e1]
          generalize hE : N - tw - tw * (j + 1) = E
          have e2 : N - tw = tw * (j + 1) + E := by omega
          rw [e2, Nat.pow_add, Nat.mul_comm (2 ^ (tw * (j + 1))), Nat.mod_mul_right_div_self]
          rw [Nat.mul_add, Nat.mul_one, Nat.pow_add, Nat.mod_mod_of_dvd _ (Nat.dvd_mul_left _ _)]
      · show X % 2 ^ (N - tw) % 2 ^ ((N - tw) % tw) = X % 2 ^ (N % tw)
        rw [hr, Nat.mod_mod_of_dvd _ (Nat.pow_dvd_pow 2 hrl)]
    · rw [Base.drain, dif_neg (fun q => h q.2)]
      have h0 : N / tw = 0 := Nat.div_eq_of_lt (by omega)
      have h1 : N % tw = N := Nat.mod_eq_of_lt (by omega)
      rw [h0, h1, Nat.mod_eq_of_lt hX]; rfl

theorem digB_lift (tw n V v j : Nat) (hv : v < 256) (h : tw * (j + 1) ≤ n) : digB tw (n + 8) (V * 256 + v) j = digB tw n V j := by
  unfold digB
  rw [show n + 8 - tw * (j + 1) = 8 + (n - tw * (j + 1)) by omega, Nat.pow_add, ← Nat.div_div_eq_div_mul]
  rw [show (V * 256 + v) / 2 ^ 8 = V by omega]

theorem digB_high (tw N X H j : Nat) (h : tw * (j + 1) ≤ N) : digB tw N (H * 2 ^ N + X) j = digB tw N X j := by
  unfold digB
  generalize hE : N - tw * (j + 1) = E
  have e : N = tw * (j + 1) + E := by omega
  have e2 : H * 2 ^ N = H * 2 ^ (tw * j) * 2 ^ tw * 2 ^ E := by
    rw [e, Nat.mul_add, Nat.mul_one, Nat.pow_add, Nat.pow_add]; simp only [Nat.mul_assoc]
  rw [e2, Nat.add_comm, Nat.add_mul_div_right _ _ (Nat.two_pow_pos E), Nat.add_mul_mod_self_right]

theorem enc_eq (tw : Nat) (ht : 0 < tw) (l : List Nat) (hl : ∀ x ∈ l, x < 256) : numB l < 2 ^ (8 * l.length) ∧
    encBits tw l = (numB l % 2 ^ (8 * l.length % tw), 8 * l.length % tw, (List.range (8 * l.length / tw)).map (digB tw (8 * l.length) (numB l))) := by
  induction l using rev_ind with
  | h0 => exact ⟨by simp [numB], by simp [encBits, numB, Nat.mod_one]⟩
  | h1 l x ih =>
    obtain ⟨hV, he⟩ := ih (fun y hy => hl y (by simp [hy]))
    have hx : x < 256 := hl x (by simp)
    have hlen : 8 * (l ++ [x]).length = 8 * l.length + 8 := by simp; omega
    rw [numB_snoc, hlen]
    generalize hn : 8 * l.length = n at *
    generalize numB l = V at *
    refine ⟨by rw [Nat.pow_add]; have := Nat.mul_le_mul_right 256 (show V + 1 ≤ 2 ^ n from hV); omega, ?_⟩
    rw [enc_snoc, he]
    unfold encStep
    dsimp only
    have hX : V % 2 ^ (n % tw) * 256 + x < 2 ^ (n % tw + 8) := by
      have h1 : V % 2 ^ (n % tw) + 1 ≤ 2 ^ (n % tw) := Nat.mod_lt _ (Nat.two_pow_pos _)
      rw [Nat.pow_add]; have := Nat.mul_le_mul_right 256 h1; omega
    rw [drain_eq tw ht _ _ hX]
    have hmod : (n % tw + 8) % tw = (n + 8) % tw := by rw [Nat.mod_add_mod]
    have hdiv : (n + 8) / tw = n / tw + (n % tw + 8) / tw := by
      have e : n + 8 = (n % tw + 8) + tw * (n / tw) := by have := Nat.mod_add_div n tw; omega
      rw [e, Nat.add_mul_div_left _ _ ht, Nat.add_comm]
    have hVd : V * 256 + x = V / 2 ^ (n % tw) * 2 ^ (n % tw + 8) + (V % 2 ^ (n % tw) * 256 + x) := by
      have := Nat.mod_add_div V (2 ^ (n % tw))
      rw [Nat.pow_add, show (2 : Nat) ^ 8 = 256 from rfl, ← Nat.mul_assoc, ← Nat.add_assoc, ← Nat.add_mul, Nat.mul_comm (V / _), Nat.add_comm (2 ^ (n % tw) * _), this]
    refine Prod.ext ?_ (Prod.ext hmod ?_)
    · show _ % _ = _ % _
      rw [hmod, hVd]
      have hle : (n + 8) % tw ≤ n % tw + 8 := by rw [← hmod]; exact Nat.mod_le _ _
      generalize V % 2 ^ (n % tw) * 256 + x = X
      rw [show n % tw + 8 = (n + 8) % tw + (n % tw + 8 - (n + 8) % tw) by omega, Nat.pow_add, Nat.mul_comm (2 ^ ((n + 8) % tw)), ← Nat.mul_assoc, Nat.mul_add_mod_self_right]
    · show _ ++ _ = _
      rw [hdiv, List.range_add, List.map_append, List.map_map]
      refine app2 ?_ ?_
      · refine List.map_congr_left fun j hj => ?_
        have hj' : j < n / tw := List.mem_range.1 hj
        have h2 : tw * (j + 1) ≤ n := by
          have := (Nat.le_div_iff_mul_le ht).1 (show j + 1 ≤ n / tw from hj'); rw [Nat.mul_comm]; exact this
        exact (digB_lift tw n V x j hx h2).symm
      · refine List.map_congr_left fun j hj => ?_
        have hj' : j < (n % tw + 8) / tw := List.mem_range.1 hj
        have h2 : tw * (j + 1) ≤ n % tw + 8 := by
          have := (Nat.le_div_iff_mul_le ht).1 (show j + 1 ≤ (n % tw + 8) / tw from hj'); rw [Nat.mul_comm]; exact this
        show _ = digB tw (n + 8) (V * 256 + x) (n / tw + j)
        rw [hVd]
        have e : ∀ Z, digB tw (n + 8) Z (n / tw + j) = digB tw (n % tw + 8) Z j := by
          intro Z
          unfold digB
          have h3 := Nat.mod_add_div n tw
          rw [show tw * (n / tw + j + 1) = tw * (n / tw) + tw * (j + 1) by rw [← Nat.mul_add, Nat.add_assoc]]
          rw [show n + 8 - (tw * (n / tw) + tw * (j + 1)) = n % tw + 8 - tw * (j + 1) by omega]
        rw [e, digB_high _ _ _ _ _ h2]

theorem wf_u8 {x : Int} (h : (Lit.int .u8 x).wf = true) : 0 ≤ x ∧ x < 256 := by
  have h1 : IntKind.u8.min = 0 := by decide
  have h2 : IntKind.u8.max = 255 := by decide
  simp [Lit.wf] at h; omega
theorem wf_i64 {x : Int} (h : (Lit.int .i64 x).wf = true) : -9223372036854775808 ≤ x ∧ x ≤ 9223372036854775807 := by
  have h1 : IntKind.i64.min = -9223372036854775808 := by decide
  have h2 : IntKind.i64.max = 9223372036854775807 := by decide
  simp [Lit.wf] at h; omega

theorem nums_lt {l : List Int} (hl : ∀ x ∈ l, 0 ≤ x ∧ x < 256) : ∀ x ∈ l.map Int.toNat, x < 256 := by
  intro x hx; obtain ⟨y, hy, rfl⟩ := List.mem_map.1 hx; have := hl y hy; omega

theorem digits_eq (tw : Nat) (ht : 0 < tw) (l : List Nat) (hl : ∀ x ∈ l, x < 256) : encDigits tw l =
    (List.range (8 * l.length / tw)).map (digB tw (8 * l.length) (numB l)) ++ (if 0 < 8 * l.length % tw then [numB l % 2 ^ (8 * l.length % tw) * 2 ^ (tw - 8 * l.length % tw)] else []) := by
  unfold encDigits
  rw [(enc_eq tw ht l hl).2]
  dsimp only
  split <;> simp
theorem digits_len (tw : Nat) (ht : 0 < tw) (l : List Nat) (hl : ∀ x ∈ l, x < 256) : (encDigits tw l).length = 8 * l.length / tw + (if 0 < 8 * l.length % tw then 1 else 0) := by
  rw [digits_eq tw ht l hl]
  split <;> simp
theorem digits_lt (tw : Nat) (ht : 0 < tw) (l : List Nat) (hl : ∀ x ∈ l, x < 256) : ∀ d ∈ encDigits tw l, d < 2 ^ tw := by
  obtain ⟨a, b, c, d⟩ := enc_ok tw ht l hl
  unfold encDigits
  intro y hy
  split at hy
  · rcases List.mem_append.1 hy with hy | hy
    · exact d y hy
    · rw [List.mem_singleton] at hy; subst hy
      have h1 := Nat.mul_lt_mul_of_pos_right b (Nat.two_pow_pos (tw - (encBits tw l).2.1))
      rwa [← Nat.pow_add, show (encBits tw l).2.1 + (tw - (encBits tw l).2.1) = tw by omega] at h1
  · exact d y hy

theorem bt_range' (s : ByteArray) (i : Int) : 0 ≤ bt s i ∧ bt s i < 256 := by have := bt_range s i; omega
theorem encL_range (L : ByteArray) (tw m : Nat) (l : List Nat) : ∀ x ∈ encL L tw m l, 0 ≤ x ∧ x < 256 := by
  intro x hx
  unfold encL at hx
  rcases List.mem_append.1 hx with hx | hx
  · obtain ⟨d, _, rfl⟩ := List.mem_map.1 hx; exact bt_range' _ _
  · have := List.eq_of_mem_replicate hx; subst this; decide
theorem encL_len (L : ByteArray) (tw m : Nat) (l : List Nat) : (encL L tw m l).length = (encDigits tw l).length + fillN m (encDigits tw l).length := by simp [encL]

theorem bt_str (xs : List Int) (hr : ∀ x ∈ xs, 0 ≤ x ∧ x < 256) (i : Nat) (hi : i < xs.length) : bt (strOfNums xs) (i : Int) = xs.getD i 0 := by
  unfold bt
  have hs := strOfNums_size xs
  rw [dif_pos (show (i : Int).toNat < (strOfNums xs).size by omega)]
  have h1 : (strOfNums xs).data.toList[i]? = some (UInt8.ofNat (xs[i]).toNat) := by
    rw [strOfNums_data, List.getElem?_map, List.getElem?_eq_getElem hi]; rfl
  have h2 : (strOfNums xs)[(i : Int).toNat]'(by omega) = UInt8.ofNat (xs[i]).toNat := by
    have h3 : (strOfNums xs).data[i]? = some (UInt8.ofNat (xs[i]).toNat) := by rw [← Array.getElem?_toList]; exact h1
    have h4 := (Array.getElem?_eq_some_iff.1 h3).2
    exact h4
  rw [h2]
  have h5 := hr _ (List.getElem_mem hi)
  rw [List.getD_eq_getElem?_getD, List.getElem?_eq_getElem hi, Option.getD_some, UInt8.toNat_ofNat']
  omega

theorem enc_f (k : Int) (L : ByteArray) (tw m : Nat) (hof : ofK k = (L, (tw : Int), (m : Int), true)) (l : List Int) (hl : ∀ x ∈ l, 0 ≤ x ∧ x < 256) (hn : l.length ≤ 10000000000000) :
    base_Encode.f k l = some (strOfNums (encL L tw m (l.map Int.toNat)), 0) := by
  unfold base_Encode.f
  rw [hof, if_neg (by simp), if_pos ⟨hl, hn⟩]; simp

theorem of0' : ofK 0 = (aHex, ((4 : Nat) : Int), ((1 : Nat) : Int), true) := by simp [ofK]
theorem of1' : ofK 1 = (aB64, ((6 : Nat) : Int), ((4 : Nat) : Int), true) := by simp [ofK]
theorem of2' : ofK 2 = (aU64, ((6 : Nat) : Int), ((1 : Nat) : Int), true) := by simp [ofK]
theorem of3' : ofK 3 = (aB32, ((5 : Nat) : Int), ((8 : Nat) : Int), true) := by simp [ofK]
theorem bind_of {α β : Type} {o : Option α} {a : α} {f : α → Option β} {r : Option β} (h : o = some a) (k : f a = r) : o.bind f = r := by subst h; exact k
set_option linter.unusedSectionVars false

theorem wr {x : Int} (h0 : 0 ≤ x) (h : x ≤ 1000000000000000000) : wrap64 x = x := by unfold wrap64; omega

theorem numB_get (l : List Nat) (hl : ∀ x ∈ l, x < 256) : ∀ q (h : q < l.length), numB l / 256 ^ (l.length - 1 - q) % 256 = l[q] := by
  induction l using rev_ind with
  | h0 => intro q h; simp at h
  | h1 l x ih =>
    intro q h
    have hx : x < 256 := hl x (by simp)
    rw [numB_snoc]
    by_cases e : q = l.length
    · subst e
      have : (l ++ [x]).length - 1 - l.length = 0 := by simp
      rw [this, Nat.pow_zero, Nat.div_one, List.getElem_append_right (Nat.le_refl _)]
      simp; omega
    · have hq : q < l.length := by rw [List.length_append] at h; simp at h; omega
      have h2 : (l ++ [x]).length - 1 - q = (l.length - 1 - q) + 1 := by rw [List.length_append]; simp; omega
      rw [h2, Nat.pow_succ, Nat.mul_comm (256 ^ _), ← Nat.div_div_eq_div_mul, show (numB l * 256 + x) / 256 = numB l by omega, List.getElem_append_left hq]
      exact ih (fun y hy => hl y (by simp [hy])) q hq

theorem ev_const' {α : Type} {o : Option α} {a : α} (h : o = some a) : Ev (fun _ => o) a := by subst h; exact Ev.now _
/-- a bit of bytes, and of as many bits 0 behind them -/
def bitP (tw n V j : Nat) : Nat := V * 2 ^ tw / 2 ^ (n + tw - 1 - j) % 2

theorem bitP_in (tw n V j : Nat) (h : j < n) : bitP tw n V j = V / 2 ^ (n - 1 - j) % 2 := by
  unfold bitP
  rw [show n + tw - 1 - j = tw + (n - 1 - j) by omega, Nat.pow_add, ← Nat.div_div_eq_div_mul, Nat.mul_div_cancel _ (Nat.two_pow_pos tw)]
theorem bitP_out (tw n V j : Nat) (h : n ≤ j) (h2 : j < n + tw) : bitP tw n V j = 0 := by
  unfold bitP
  generalize hE : n + tw - 1 - j = E
  have e : tw = (tw - E - 1) + 1 + E := by omega
  rw [e, Nat.pow_add, Nat.pow_succ, ← Nat.mul_assoc, Nat.mul_div_cancel _ (Nat.two_pow_pos E), ← Nat.mul_assoc, Nat.mul_mod_left]

theorem ref_bit (tw : Nat) (l : List Int) (hl : ∀ x ∈ l, 0 ≤ x ∧ x < 256) (hn : l.length ≤ 1048576) (j : Nat) (hj : j < 8 * l.length + tw) (htw : tw ≤ 8) :
    glossatorref04_bit.f l (j : Int) = some ((bitP tw (8 * l.length) (numB (l.map Int.toNat)) j : Nat) : Int) := by
  unfold glossatorref04_bit.f
  rw [wr (x := 8 * (l.length : Int)) (by omega) (by omega)]
  by_cases c : 8 * l.length ≤ j
  · rw [if_pos (by omega), bitP_out _ _ _ _ c hj]; rfl
  · rw [if_neg (by omega)]
    have e1 : wrap64 (Int.tdiv (j : Int) 8) = ((j / 8 : Nat) : Int) := by
      rw [Int.tdiv_eq_ediv_of_nonneg (by omega), wr (by omega) (by omega)]; omega
    have e2 : wrap64 (7 - Int.tmod (j : Int) 8) = ((7 - j % 8 : Nat) : Int) := by
      rw [Int.tmod_eq_emod_of_nonneg (by omega), wr (by omega) (by omega)]; omega
    rw [e1, e2, if_pos (by omega), if_pos (by omega), if_pos (by omega)]
    have hq : j / 8 < l.length := by omega
    have hq' : j / 8 < (l.map Int.toNat).length := by rw [List.length_map]; exact hq
    have hb := hl _ (List.getElem_mem hq)
    have hrd : rd l ((j / 8 : Nat) : Int) = (((l.map Int.toNat)[j / 8] : Nat) : Int) := by
      simp only [rd, Int.toNat_natCast, List.getD_eq_getElem?_getD, List.getElem?_eq_getElem hq, Option.getD_some, List.getElem_map]; omega
    have hg := numB_get (l.map Int.toNat) (nums_lt hl) (j / 8) hq'
    rw [hrd, ← hg, List.length_map]
    generalize numB (l.map Int.toNat) = V
    unfold shr
    rw [show min (((7 - j % 8 : Nat) : Int).toNat) (IntKind.u8.bits) = 7 - j % 8 by rw [Int.toNat_natCast]; show min _ 8 = _; omega]
    rw [shr_nat _ _ (by omega)]
    have hlt : V / 256 ^ (l.length - 1 - j / 8) % 256 / 2 ^ (7 - j % 8) < 256 := Nat.lt_of_le_of_lt (Nat.div_le_self _ _) (Nat.mod_lt _ (by decide))
    generalize hZ : V / 256 ^ (l.length - 1 - j / 8) % 256 / 2 ^ (7 - j % 8) = Z at *
    have hZ0 : (0 : Int) ≤ (Z : Int) := Int.natCast_nonneg _
    rw [wr hZ0 (by omega)]
    have hm := bits_mask .i64 62 (by decide) (fun n h0 h1 => by rw [IntKind.wrap_i64]; omega) 1 (by decide) (Z : Int) hZ0 (by omega)
    rw [show ((2 : Int) ^ 1 - 1) = 1 from rfl] at hm
    rw [hm, bitP_in _ _ _ _ (by omega)]
    clear hm hZ0 hlt
    subst hZ
    congr 1
    rw [show ((2 : Int) ^ 1) = ((2 : Nat) : Int) from rfl, ← Int.natCast_emod]
    congr 1
    rw [show (256 : Nat) = 2 ^ 8 from rfl, ← Nat.pow_mul]
    generalize hE : 8 * (l.length - 1 - j / 8) = E
    rw [show 8 * l.length - 1 - j = E + (7 - j % 8) by omega, Nat.pow_add, ← Nat.div_div_eq_div_mul]
    generalize V / 2 ^ E = Q
    have h3 : 2 ^ 8 = 2 ^ (8 - (7 - j % 8)) * 2 ^ (7 - j % 8) := by rw [← Nat.pow_add]; congr 1; omega
    rw [h3, Nat.mod_mul_left_div_self]
    exact Nat.mod_mod_of_dvd _ (Nat.dvd_of_pow_dvd (k := 1) (by omega) (Nat.pow_dvd_pow 2 (by omega)))

/-- the number of some bits from a place on -/
def accP (tw n V i k : Nat) : Nat := V * 2 ^ tw / 2 ^ (n + tw - i - k) % 2 ^ k
theorem accP_succ (tw n V i k : Nat) (h : i + k < n + tw) : accP tw n V i (k + 1) = 2 * accP tw n V i k + bitP tw n V (i + k) := by
  unfold accP bitP
  rw [show n + tw - 1 - (i + k) = n + tw - i - (k + 1) by omega, show n + tw - i - k = (n + tw - i - (k + 1)) + 1 by omega]
  generalize n + tw - i - (k + 1) = E
  rw [show 2 ^ (E + 1) = 2 ^ E * 2 from Nat.pow_succ .., ← Nat.div_div_eq_div_mul]
  generalize V * 2 ^ tw / 2 ^ E = A
  rw [show 2 ^ (k + 1) = 2 * 2 ^ k from by rw [Nat.pow_succ, Nat.mul_comm], Nat.mod_mul]; omega
theorem accP_lt (tw n V i k : Nat) : accP tw n V i k < 2 ^ k := Nat.mod_lt _ (Nat.two_pow_pos _)

section
variable (L : ByteArray) (tw m : Nat) (l : List Int) (h4 : 4 ≤ tw) (h6 : tw ≤ 6) (hL : 2 ^ tw ≤ L.size) (hm1 : 1 ≤ m) (hm8 : m ≤ 8) (hl : ∀ x ∈ l, 0 ≤ x ∧ x < 256) (hn : l.length ≤ 1048576)
include h4 h6 hL hm1 hm8 hl hn

/-- what fills up -/
theorem ref_l2 (d : Nat) : ∀ (xs : List Int), xs.length + d ≤ 100000000 → fillN m xs.length = d → Ev (fun k => glossatorref04_Encode.l2 k (m : Int) xs) (strOfNums (xs ++ List.replicate d 61), 0) := by
  induction d with
  | zero =>
    intro xs hx hd
    refine Ev.step (f := fun _ => some (strOfNums xs, 0)) (fun k => ?_) (by simpa using Ev.now (strOfNums xs, (0 : Int)))
    simp only [glossatorref04_Encode.l2]
    have := fillN_yes m xs.length hm1
    rw [hd, Nat.add_zero] at this
    rw [if_neg (by omega), if_pos (by exact_mod_cast congrArg (Nat.cast (R := Int)) this)]
  | succ d ih =>
    intro xs hx hd
    have hp := fillN_no m xs.length 0 hm1 (by omega)
    have hd2 : fillN m (xs ++ [61]).length = d := by
      have h1 := fillN_yes m xs.length hm1
      rw [hd] at h1
      rw [List.length_append]
      have h2 := fillN_lt m xs.length hm1
      rw [hd] at h2
      have h3 := fillN_lt m (xs.length + [(61 : Int)].length) hm1
      have h4 := fillN_yes m (xs.length + [(61 : Int)].length) hm1
      have e : xs.length + [(61 : Int)].length = xs.length + 1 := rfl
      rw [e] at h3 h4 ⊢
      generalize fillN m (xs.length + 1) = F at *
      have h5 : (xs.length + 1 + F) % m = (xs.length + (d + 1)) % m := by rw [h4, h1]
      by_cases q : F ≤ d
      · have h6 : (d - F) % m = 0 := by
          have := Nat.sub_mod_eq_zero_of_mod_eq (m := xs.length + (d + 1)) (n := xs.length + 1 + F) (k := m) h5.symm
          rwa [show xs.length + (d + 1) - (xs.length + 1 + F) = d - F by omega] at this
        rw [Nat.mod_eq_of_lt (by omega)] at h6; omega
      · have h6 : (F - d) % m = 0 := by
          have := Nat.sub_mod_eq_zero_of_mod_eq (m := xs.length + 1 + F) (n := xs.length + (d + 1)) (k := m) h5
          rwa [show xs.length + 1 + F - (xs.length + (d + 1)) = F - d by omega] at this
        rw [Nat.mod_eq_of_lt (by omega)] at h6; omega
    have hi := ih (xs ++ [61]) (by rw [List.length_append]; simp; omega) hd2
    rw [List.append_assoc, show [(61 : Int)] ++ List.replicate d 61 = List.replicate (d + 1) 61 from (List.replicate_succ ..).symm] at hi
    refine Ev.step (fun k => ?_) hi
    simp only [glossatorref04_Encode.l2]
    rw [if_neg (by omega), if_neg (by have h7 : (0 : Int) < ((xs.length % m : Nat) : Int) := by have := hp; rw [Nat.add_zero] at this; omega
                                      rw [Int.natCast_emod] at h7; omega), if_pos (by omega)]

theorem ref_l1 (i : Nat) (hi : i < 8 * l.length) (out : List Int) (ho : out.length ≤ 100000000) (r : ByteArray × Int)
    (hnext : Ev (fun k => glossatorref04_Encode.l0 k l L (tw : Int) (m : Int) (out ++ [bt L (accP tw (8 * l.length) (numB (l.map Int.toNat)) i tw : Nat)]) ((i + tw : Nat) : Int)) r) (d : Nat) :
    ∀ c : Nat, c ≤ tw → tw - c ≤ d → Ev (fun k => glossatorref04_Encode.l1 k l L (tw : Int) (m : Int) out (i : Int) ((accP tw (8 * l.length) (numB (l.map Int.toNat)) i c : Nat) : Int) (c : Int)) r := by
  have hend : ∀ c : Nat, c = tw → Ev (fun k => glossatorref04_Encode.l1 k l L (tw : Int) (m : Int) out (i : Int) ((accP tw (8 * l.length) (numB (l.map Int.toNat)) i c : Nat) : Int) (c : Int)) r := by
    rintro c rfl
    have hlt := accP_lt c (8 * l.length) (numB (l.map Int.toNat)) i c
    generalize accP c (8 * l.length) (numB (l.map Int.toNat)) i c = X at *
    refine Ev.step (fun k => ?_) hnext
    simp only [glossatorref04_Encode.l1]
    rw [if_neg (by omega), if_pos (by omega), if_pos (by omega), if_pos (by omega), wr (by omega) (by omega)]; rfl
  induction d with
  | zero => intro c h1 h2; exact hend c (by omega)
  | succ d ih =>
    intro c h1 h2
    by_cases e : c = tw
    · exact hend c e
    · have hi2 := ih (c + 1) (by omega) (by omega)
      have hb := ref_bit tw l hl hn (i + c) (by omega) (by omega)
      have ha := accP_succ tw (8 * l.length) (numB (l.map Int.toNat)) i c (by omega)
      have hlt := accP_lt tw (8 * l.length) (numB (l.map Int.toNat)) i c
      have h64 : 2 ^ c ≤ 64 := Nat.pow_le_pow_right (n := 2) (by decide) (show c ≤ 6 by omega)
      have hbl : bitP tw (8 * l.length) (numB (l.map Int.toNat)) (i + c) < 2 := Nat.mod_lt _ (by decide)
      rw [ha] at hi2
      generalize accP tw (8 * l.length) (numB (l.map Int.toNat)) i c = X at *
      generalize bitP tw (8 * l.length) (numB (l.map Int.toNat)) (i + c) = b at *
      refine Ev.step (fun k => ?_) hi2
      simp only [glossatorref04_Encode.l1]
      rw [if_pos (by omega), wr (x := (i : Int) + c) (by omega) (by omega), show (i : Int) + c = ((i + c : Nat) : Int) by omega, hb]
      simp only [Option.bind_some]
      rw [wr (x := 2 * (X : Int)) (by omega) (by omega), wr (by omega) (by omega), wr (x := (c : Int) + 1) (by omega) (by omega)]
      rw [show 2 * (X : Int) + b = ((2 * X + b : Nat) : Int) by omega, show (c : Int) + 1 = ((c + 1 : Nat) : Int) by omega]

/-- the digits by the document -/
def refD (tw n V : Nat) (j : Nat) : Nat := accP tw n V (tw * j) tw
def refN (tw n : Nat) : Nat := n / tw + if 0 < n % tw then 1 else 0

theorem refN_iff (n j : Nat) : tw * j < n ↔ j < refN tw n := by
  unfold refN
  have h1 := Nat.mod_add_div n tw
  have h2 : n % tw < tw := Nat.mod_lt _ (by omega)
  constructor
  · intro h
    by_cases q : j < n / tw
    · split <;> omega
    · have : tw * (n / tw) ≤ tw * j := Nat.mul_le_mul_left _ (by omega)
      have h3 : j = n / tw := by
        by_cases q2 : j = n / tw
        · exact q2
        · have : tw * (n / tw + 1) ≤ tw * j := Nat.mul_le_mul_left _ (by omega)
          rw [Nat.mul_add, Nat.mul_one] at this; omega
      subst h3
      rw [if_pos (by omega)]; omega
  · intro h
    by_cases q : j < n / tw
    · have : tw * (j + 1) ≤ tw * (n / tw) := Nat.mul_le_mul_left _ (by omega)
      rw [Nat.mul_add, Nat.mul_one] at this; omega
    · split at h
      · have : j = n / tw := by omega
        subst this; omega
      · omega

theorem ref_l0 (r : ByteArray × Int)
    (hend : Ev (fun k => glossatorref04_Encode.l2 k (m : Int) ((List.range (refN tw (8 * l.length))).map fun j => bt L (refD tw (8 * l.length) (numB (l.map Int.toNat)) j : Nat))) r) (d : Nat) :
    ∀ j : Nat, j ≤ refN tw (8 * l.length) → refN tw (8 * l.length) - j ≤ d → Ev (fun k => glossatorref04_Encode.l0 k l L (tw : Int) (m : Int) ((List.range j).map fun j => bt L (refD tw (8 * l.length) (numB (l.map Int.toNat)) j : Nat)) ((tw * j : Nat) : Int)) r := by
  have hN : refN tw (8 * l.length) ≤ 8 * l.length + 1 := by
    unfold refN; have := Nat.div_le_self (8 * l.length) tw; split <;> omega
  have hdone : ∀ j : Nat, j = refN tw (8 * l.length) → Ev (fun k => glossatorref04_Encode.l0 k l L (tw : Int) (m : Int) ((List.range j).map fun j => bt L (refD tw (8 * l.length) (numB (l.map Int.toNat)) j : Nat)) ((tw * j : Nat) : Int)) r := by
    rintro j rfl
    have hi := mt (refN_iff L tw m l h4 h6 hL hm1 hm8 hl hn (8 * l.length) (refN tw (8 * l.length))).1 (Nat.lt_irrefl _)
    refine Ev.step (fun k => ?_) hend
    simp only [glossatorref04_Encode.l0]
    rw [wr (x := 8 * (l.length : Int)) (by omega) (by omega), if_neg (by omega)]
  induction d with
  | zero => intro j h1 h2; exact hdone j (by omega)
  | succ d ih =>
    intro j h1 h2
    by_cases e : j = refN tw (8 * l.length)
    · exact hdone j e
    · have hlt := (refN_iff L tw m l h4 h6 hL hm1 hm8 hl hn (8 * l.length) j).2 (by omega)
      have hi := ih (j + 1) (by omega) (by omega)
      rw [List.range_succ, List.map_append, List.map_singleton, Nat.mul_add, Nat.mul_one] at hi
      have hl1 := ref_l1 L tw m l h4 h6 hL hm1 hm8 hl hn (tw * j) hlt _ (by rw [List.length_map, List.length_range]; omega) r hi tw 0 (by omega) (by omega)
      refine Ev.step (fun k => ?_) hl1
      simp only [glossatorref04_Encode.l0]
      rw [wr (x := 8 * (l.length : Int)) (by omega) (by omega), if_pos (by omega)]
      have : accP tw (8 * l.length) (numB (l.map Int.toNat)) (tw * j) 0 = 0 := by unfold accP; rw [Nat.pow_zero, Nat.mod_one]
      rw [this]; rfl

theorem ref_digits (V n : Nat) (hn8 : (l.map Int.toNat).length * 8 = n) (hV : numB (l.map Int.toNat) = V) : (List.range (refN tw n)).map (refD tw n V) = encDigits tw (l.map Int.toNat) := by
  rw [digits_eq tw (by omega) _ (nums_lt hl), hV, show 8 * (l.map Int.toNat).length = n by omega]
  have hr : n % tw < tw := Nat.mod_lt _ (by omega)
  have hd := Nat.mod_add_div n tw
  have h1 : (List.range (n / tw)).map (refD tw n V) = (List.range (n / tw)).map (digB tw n V) := by
    refine List.map_congr_left fun j hj => ?_
    have hj' : j < n / tw := List.mem_range.1 hj
    have h2 : tw * (j + 1) ≤ n := by
      have : tw * (j + 1) ≤ tw * (n / tw) := Nat.mul_le_mul_left _ hj'
      omega
    unfold refD accP digB
    rw [Nat.mul_add, Nat.mul_one] at h2 ⊢
    rw [show n + tw - tw * j - tw = tw + (n - (tw * j + tw)) by omega, Nat.pow_add, ← Nat.div_div_eq_div_mul, Nat.mul_div_cancel _ (Nat.two_pow_pos tw)]
  unfold refN
  by_cases c : 0 < n % tw
  · rw [if_pos c, if_pos c, List.range_succ, List.map_append, h1, List.map_singleton]
    refine congrArg _ (congrArg (fun x => [x]) ?_)
    unfold refD accP
    rw [show n + tw - tw * (n / tw) - tw = n % tw by omega]
    generalize n % tw = r at *
    have e1 : V * 2 ^ tw = V * 2 ^ (tw - r) * 2 ^ r := by rw [Nat.mul_assoc, ← Nat.pow_add, show tw - r + r = tw by omega]
    rw [e1, Nat.mul_div_cancel _ (Nat.two_pow_pos r), show 2 ^ tw = 2 ^ r * 2 ^ (tw - r) by rw [← Nat.pow_add]; congr 1; omega, Nat.mul_mod_mul_right]
  · rw [if_neg c, if_neg c, Nat.add_zero, h1]; simp

theorem ref_enc (k : Int) (hal : glossatorref04_alphabet.f k = some (L, (tw : Int), (m : Int))) : Ev (fun kk => glossatorref04_Encode.f kk k l) (strOfNums (encL L tw m (l.map Int.toNat)), 0) := by
  have hN : refN tw (8 * l.length) ≤ 8 * l.length + 1 := by
    unfold refN; have := Nat.div_le_self (8 * l.length) tw; split <;> omega
  have hdig := ref_digits L tw m l h4 h6 hL hm1 hm8 hl hn (numB (l.map Int.toNat)) (8 * l.length) (by simp; omega) rfl
  have hmap : (List.range (refN tw (8 * l.length))).map (fun j => bt L (refD tw (8 * l.length) (numB (l.map Int.toNat)) j : Nat)) = (encDigits tw (l.map Int.toNat)).map (fun (d : Nat) => bt L (d : Int)) := by
    rw [← hdig, List.map_map]; rfl
  have hlen : (encDigits tw (l.map Int.toNat)).length = refN tw (8 * l.length) := by rw [← hdig]; simp
  have h8 := fillN_lt m (encDigits tw (l.map Int.toNat)).length hm1
  have hl2 := ref_l2 L tw m l h4 h6 hL hm1 hm8 hl hn (fillN m (encDigits tw (l.map Int.toNat)).length) ((encDigits tw (l.map Int.toNat)).map (fun (d : Nat) => bt L (d : Int))) (by rw [List.length_map]; omega) (by rw [List.length_map])
  have hl0 := ref_l0 L tw m l h4 h6 hL hm1 hm8 hl hn (strOfNums (encL L tw m (l.map Int.toNat)), 0) (by rw [hmap]; exact hl2) _ 0 (Nat.zero_le _) (Nat.le_refl _)
  refine Ev.congr (fun kk => ?_) hl0
  unfold glossatorref04_Encode.f
  refine bind_of hal ?_
  dsimp only
  rw [if_neg (by omega)]; rfl
end

theorem al0 : glossatorref04_alphabet.f 0 = some (aHex, ((4 : Nat) : Int), ((1 : Nat) : Int)) := by simp [glossatorref04_alphabet.f, aHex]
end Go.Proofs.YtfcfnnkepjoncaaDoor.Pure
