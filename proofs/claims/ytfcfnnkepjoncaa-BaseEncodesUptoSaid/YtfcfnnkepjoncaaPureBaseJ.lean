/- Proved: letters of whole groups of bytes, one behind the other, are those of both (where what comes in is of at most 1048576 bytes each). -/
import Derived.Test.YtfcfnnkepjoncaaPureBaseB
import Derived.Test.YtfcfnnkepjoncaaPBx7
namespace Go.Proofs.Ytfcfnnkepjoncaa.Pure
open Go.RowKit Go.Proofs.Ytfcfnnkepjoncaa.PB Go.Proofs.Ytfcfnnkepjoncaa.Hand Go.Proofs.YtfcfnnkepjoncaaW.PrintWords Go.Proofs.YtfcfnnkepjoncaaW.PrintLast
set_option linter.unusedVariables false
set_option linter.unusedSimpArgs false

theorem awake_j : glossatorlaw04_awake.f = some true := by
  unfold glossatorlaw04_awake.f
  rw [awake_enc]
  have h : (strOfNums [102, 102]).toList = ([102, 102] : List UInt8) := by rw [ByteArray.toList_eq]; rfl
  simp only [Option.bind_some]
  rw [if_pos trivial, h]; rfl
theorem bind_of {α β : Type} {o : Option α} {a : α} {f : α → Option β} {r : Option β} (h : o = some a) (k : f a = r) : o.bind f = r := by subst h; exact k

theorem fold_pre (tw : Nat) (b : List Nat) : ∀ (x n : Nat) (D : List Nat), b.foldl (encStep tw) (x, n, D) = ((b.foldl (encStep tw) (x, n, [])).1, (b.foldl (encStep tw) (x, n, [])).2.1, D ++ (b.foldl (encStep tw) (x, n, [])).2.2) := by
  induction b with
  | nil => intro x n D; simp
  | cons v b ih =>
    intro x n D
    simp only [List.foldl_cons, encStep, List.nil_append]
    rw [ih, ih _ _ (Hand.drain tw (x * 256 + v) (n + 8)).1]
    simp only [List.append_assoc]

theorem fill_add (m a n : Nat) (h : a % m = 0) : fillN m (a + n) = fillN m n := by
  unfold fillN
  rw [Nat.add_mod, h, Nat.zero_add, Nat.mod_mod]

theorem enc_join (L : ByteArray) (tw m : Nat) (ht : 0 < tw) (a b : List Nat) (ha : ∀ x ∈ a, x < 256) (h0 : 8 * a.length % tw = 0) (hm : 8 * a.length / tw % m = 0) :
    encL L tw m (a ++ b) = encL L tw m a ++ encL L tw m b := by
  have he := (enc_eq tw ht a ha).2
  rw [h0] at he
  have hx : numB a % 2 ^ 0 = 0 := by rw [Nat.pow_zero, Nat.mod_one]
  rw [hx] at he
  have hda : encDigits tw a = (encBits tw a).2.2 := by unfold encDigits; rw [he]; simp
  have hla : (encDigits tw a).length = 8 * a.length / tw := by rw [hda, he]; simp
  have hab : encBits tw (a ++ b) = ((encBits tw b).1, (encBits tw b).2.1, (encBits tw a).2.2 ++ (encBits tw b).2.2) := by
    show (a ++ b).foldl (encStep tw) (0, 0, []) = _
    rw [List.foldl_append]
    show b.foldl (encStep tw) (encBits tw a) = _
    rw [he, fold_pre]; rfl
  have hd : encDigits tw (a ++ b) = encDigits tw a ++ encDigits tw b := by
    rw [hda]; unfold encDigits; rw [hab]; dsimp only; split <;> simp
  have hfa : fillN m (encDigits tw a).length = 0 := by unfold fillN; rw [hla, hm, Nat.sub_zero, Nat.mod_self]
  unfold encL
  rw [hd, List.length_append, fill_add m _ _ (by rw [hla]; exact hm), hfa]
  simp

theorem str_append (x y : List Int) : (strOfNums x ++ strOfNums y).toList = (strOfNums (x ++ y)).toList := by
  rw [ByteArray.toList_eq, ByteArray.toList_eq, ByteArray.data_append, Array.toList_append, strOfNums_data, strOfNums_data, strOfNums_data, List.map_append]

theorem joins (k : Int) (L : ByteArray) (tw m : Nat) (hof : ofK k = (L, (tw : Int), (m : Int), true)) (ht : 0 < tw) (a0 : Int) (hk : wrap64 (Int.tmod a0 4) = k) (l1 l2 : List Int)
    (h1 : l1.length ≤ 1048576) (h2 : l2.length ≤ 1048576) (b1 : ∀ x ∈ l1, 0 ≤ x ∧ x < 256) (b2 : ∀ x ∈ l2, 0 ≤ x ∧ x < 256)
    (q0 : ∀ q : Nat, 8 * (15 * q) % tw = 0) (q1 : ∀ q : Nat, 8 * (15 * q) / tw % m = 0) (hs : ∀ l : List Nat, l.length ≤ 1048576 → (∀ x ∈ l, x < 256) → (encL L tw m l).length ≤ 100000000) : glossatorlaw04_BaseJoins.f a0 l1 l2 = some true := by
  have hn : wrap64 (wrap64 ((l1.length : Int) / 15) * 15) = ((l1.length / 15 * 15 : Nat) : Int) := by
    unfold wrap64; omega
  have hb3 : ∀ x ∈ l1.take (l1.length / 15 * 15), 0 ≤ x ∧ x < 256 := fun x hx => b1 x (List.mem_of_mem_take hx)
  have hlt : (l1.take (l1.length / 15 * 15)).length = 15 * (l1.length / 15) := by rw [List.length_take]; omega
  unfold glossatorlaw04_BaseJoins.f
  rw [hn, hk, if_pos (by omega), if_pos (by omega), Int.toNat_natCast]
  generalize hA : l1.take (l1.length / 15 * 15) = A at *
  have e1 := enc_f k L tw m hof A hb3 (by omega)
  have e2 := enc_f k L tw m hof l2 b2 (by omega)
  have e3 := enc_f k L tw m hof (A ++ l2) (by intro x hx; rcases List.mem_append.1 hx with h | h; exact hb3 x h; exact b2 x h) (by rw [List.length_append]; omega)
  refine bind_of e1 (bind_of e2 (bind_of rfl ?_))
  rw [if_pos (by simp only [List.length_nil]; omega)]
  refine bind_of rfl ?_
  rw [if_pos (by simp only [List.nil_append]; omega)]
  refine bind_of (by rw [List.nil_append]; exact e3) ?_
  dsimp only
  have hAN : ∀ x ∈ A.map Int.toNat, x < 256 := nums_lt hb3
  have hBN : ∀ x ∈ l2.map Int.toNat, x < 256 := nums_lt b2
  have hAl : (A.map Int.toNat).length = 15 * (l1.length / 15) := by rw [List.length_map]; exact hlt
  have hj := enc_join L tw m ht (A.map Int.toNat) (l2.map Int.toNat) hAN (by rw [hAl]; exact q0 _) (by rw [hAl]; exact q1 _)
  have hs1 := hs (A.map Int.toNat) (by omega) hAN
  have hs2 := hs (l2.map Int.toNat) (by rw [List.length_map]; omega) hBN
  rw [if_pos rfl, if_pos rfl, if_pos rfl, if_pos (by rw [strOfNums_size, strOfNums_size]; omega), List.map_append, hj, str_append, if_pos rfl]
  exact bind_of awake_j rfl

theorem encL_le (L : ByteArray) (tw m : Nat) (h4 : 4 ≤ tw) (hm : 1 ≤ m) (hm8 : m ≤ 8) (l : List Nat) (hl : l.length ≤ 1048576) (hb : ∀ x ∈ l, x < 256) : (encL L tw m l).length ≤ 100000000 := by
  rw [encL_len, digits_len tw (by omega) l hb]
  have h1 := fillN_lt m (8 * l.length / tw + if 0 < 8 * l.length % tw then 1 else 0) hm
  have h2 : 8 * l.length / tw ≤ 8 * l.length := Nat.div_le_self _ _
  split at h1 <;> split <;> omega

theorem BaseJoinsUpto (a0 : Int) (l1 l2 : List Int) (w0 : (Lit.int .u8 a0).wf = true) (_ : l1.length ≤ maxLen) (_ : l1.length * 1 ≤ 140737488351232) (b1 : ∀ x ∈ l1, (Lit.int .u8 x).wf = true) (_ : l2.length ≤ maxLen) (_ : l2.length * 1 ≤ 140737488351232) (b2 : ∀ x ∈ l2, (Lit.int .u8 x).wf = true) (h1 : l1.length ≤ 1048576) (h2 : l2.length ≤ 1048576) : glossatorlaw04_BaseJoins.f a0 l1 l2 = some true := by
  have ha := wf_u8 w0
  have b1' : ∀ x ∈ l1, 0 ≤ x ∧ x < 256 := fun x hx => wf_u8 (b1 x hx)
  have b2' : ∀ x ∈ l2, 0 ≤ x ∧ x < 256 := fun x hx => wf_u8 (b2 x hx)
  have hk : wrap64 (Int.tmod a0 4) = a0 % 4 := by rw [Int.tmod_eq_emod_of_nonneg ha.1]; unfold wrap64; omega
  rcases (show a0 % 4 = 0 ∨ a0 % 4 = 1 ∨ a0 % 4 = 2 ∨ a0 % 4 = 3 by omega) with e | e | e | e
  · exact joins 0 aHex 4 1 of0' (by decide) a0 (hk.trans e) l1 l2 h1 h2 b1' b2' (fun q => by omega) (fun q => by omega) (fun l hl hb => encL_le _ _ _ (by decide) (by decide) (by decide) l hl hb)
  · exact joins 1 aB64 6 4 of1' (by decide) a0 (hk.trans e) l1 l2 h1 h2 b1' b2' (fun q => by omega) (fun q => by omega) (fun l hl hb => encL_le _ _ _ (by decide) (by decide) (by decide) l hl hb)
  · exact joins 2 aU64 6 1 of2' (by decide) a0 (hk.trans e) l1 l2 h1 h2 b1' b2' (fun q => by omega) (fun q => by omega) (fun l hl hb => encL_le _ _ _ (by decide) (by decide) (by decide) l hl hb)
  · exact joins 3 aB32 5 8 of3' (by decide) a0 (hk.trans e) l1 l2 h1 h2 b1' b2' (fun q => by omega) (fun q => by omega) (fun l hl hb => encL_le _ _ _ (by decide) (by decide) (by decide) l hl hb)
end Go.Proofs.Ytfcfnnkepjoncaa.Pure
