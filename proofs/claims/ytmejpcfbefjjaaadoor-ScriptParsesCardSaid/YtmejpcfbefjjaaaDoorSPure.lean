/- The text of a job, in plain Lean: its lines, its words, its numbers, its bytes; what it says. -/
import Derived.Test.YtmejpcfbefjjaaaDoorProg
import Derived.Lib.Strings
import Derived.Lib.ConvBytes
import Derived.Lib.SplitLaws
namespace Go.Proofs.YtmejpcfbefjjaaaDoor.Scr
set_option linter.unusedVariables false
set_option linter.unusedSimpArgs false
/-- a text's bytes -/
def bts (s : ByteArray) : List Nat := s.data.toList.map UInt8.toNat
theorem bts_length (s : ByteArray) : (bts s).length = s.size := by
  unfold bts
  rw [List.length_map]
  rfl
theorem bts_at (s : ByteArray) (i : Nat) (h : i < s.size) : (bts s)[i]? = some (s[i]'h).toNat := by
  have e : s[i]'h = s.data[i]'h := rfl
  have h2 : s.data.toList[i]? = some (s.data[i]'h) := by rw [Array.getElem?_toList]; exact Array.getElem?_eq_getElem h
  unfold bts
  rw [List.getElem?_map, h2, e]
  rfl
theorem bts_lt (s : ByteArray) : ∀ c ∈ bts s, c < 256 := by
  intro c hc
  unfold bts at hc
  obtain ⟨b, _, rfl⟩ := List.mem_map.1 hc
  exact b.toNat_lt
theorem empty_of {s : ByteArray} (h : s.size = 0) : s = ⟨#[]⟩ := by
  obtain ⟨d⟩ := s
  have : d = #[] := Array.eq_empty_of_size_eq_zero h
  rw [this]
theorem bts_inj {s t : ByteArray} (h : s.data.toList = t.data.toList) : s = t := by
  obtain ⟨d⟩ := s
  obtain ⟨f⟩ := t
  have : d = f := Array.toList_inj.1 h
  rw [this]

/-! ### pieces -/
/-- a text is cut at every c: what is left of it, the piece begun at f, i read -/
def pieces (c : UInt8) (s : ByteArray) (f i : Nat) : List ByteArray :=
  if h : i < s.size then (if s[i] = c then s.extract f i :: pieces c s (i + 1) (i + 1) else pieces c s f (i + 1)) else [s.extract f s.size]
termination_by s.size - i
theorem pieces_end {c : UInt8} {s : ByteArray} {f i : Nat} (h : ¬ i < s.size) : pieces c s f i = [s.extract f s.size] := by rw [pieces, dif_neg h]
theorem pieces_hit {c : UInt8} {s : ByteArray} {f i : Nat} (h : i < s.size) (e : s[i] = c) : pieces c s f i = s.extract f i :: pieces c s (i + 1) (i + 1) := by rw [pieces, dif_pos h, if_pos e]
theorem pieces_miss {c : UInt8} {s : ByteArray} {f i : Nat} (h : i < s.size) (e : s[i] ≠ c) : pieces c s f i = pieces c s f (i + 1) := by rw [pieces, dif_pos h, if_neg e]
/-- the same over a list -/
def cutL (c : UInt8) : List UInt8 → List (List UInt8)
  | [] => [[]]
  | b :: l => if b = c then [] :: cutL c l else match cutL c l with | h :: t => (b :: h) :: t | [] => []
theorem cutL_ne (c : UInt8) (l : List UInt8) : ∃ h t, cutL c l = h :: t := by
  induction l with
  | nil => exact ⟨[], [], rfl⟩
  | cons b l ih =>
    obtain ⟨h, t, e⟩ := ih
    unfold cutL
    by_cases hb : b = c
    · rw [if_pos hb]; exact ⟨_, _, rfl⟩
    · rw [if_neg hb, e]; exact ⟨_, _, rfl⟩
theorem cutL_split (c : UInt8) : ∀ l : List UInt8, Lib.splitK [c] 0 (Lib.count l [c]) l = cutL c l
  | [] => by rw [Lib.count_miss (by simp [Lib.index])]; rfl
  | b :: l => by
    have ih := cutL_split c l
    by_cases h : b = c
    · subst h
      have hix : Lib.index (b :: l) [b] = 0 := by rw [Lib.index]; simp [List.isPrefixOf]
      rw [Lib.count_cons_eq, Nat.add_comm, Lib.splitK, hix]
      unfold cutL
      rw [if_pos rfl, ← ih]
      rfl
    · have hp : ([c] : List UInt8).isPrefixOf (b :: l) = false := by simp [List.isPrefixOf, Ne.symm h]
      have hix : Lib.index (b :: l) [c] = if Lib.index l [c] == -1 then -1 else Lib.index l [c] + 1 := by rw [Lib.index, hp]; simp
      rw [Lib.count_cons_ne b c l h]
      unfold cutL
      rw [if_neg h, ← ih]
      by_cases hm : Lib.index l [c] = -1
      · rw [Lib.count_miss hm]
        rfl
      · have hge := Lib.index_ge l [c]
        obtain ⟨j, hj⟩ : ∃ j : Nat, Lib.index l [c] = j := ⟨(Lib.index l [c]).toNat, by omega⟩
        have hix' : Lib.index (b :: l) [c] = ((j + 1 : Nat) : Int) := by rw [hix, if_neg (fun e => hm (beq_iff_eq.1 e)), hj]; omega
        rw [Lib.count_hit (by simp) hj, Nat.add_comm, Lib.splitK, Lib.splitK, hix', hj, if_neg (by simp <;> omega), if_neg (by simp <;> omega)]
        simp [List.drop_succ_cons, Nat.add_right_comm]
theorem pieces_cut (c : UInt8) (s : ByteArray) : ∀ (n f i : Nat), s.size - i = n → f ≤ i → i ≤ s.size → ∀ h t, cutL c (s.data.toList.drop i) = h :: t → (pieces c s f i).map (fun x => x.data.toList) = ((s.data.toList.drop f).take (i - f) ++ h) :: t := by
  intro n
  induction n with
  | zero =>
    intro f i hn hf hi h t e
    have hl : s.data.toList.length = s.size := rfl
    rw [List.drop_eq_nil_of_le (by omega)] at e
    cases e
    rw [pieces_end (by omega), List.map_cons, List.map_nil, Lib.extract_data, List.append_nil]
    have : i = s.size := by omega
    subst this
    rfl
  | succ n ih =>
    intro f i hn hf hi h t e
    have hl : s.data.toList.length = s.size := rfl
    have hlt : i < s.size := by omega
    have hg : s.data.toList[i]'(by omega) = s[i] := by
      show _ = s.data[i]'hlt
      simp
    rw [List.drop_eq_getElem_cons (by omega), hg] at e
    obtain ⟨h2, t2, e2⟩ := cutL_ne c (s.data.toList.drop (i + 1))
    unfold cutL at e
    by_cases hc : s[i] = c
    · rw [if_pos hc] at e
      cases e
      rw [pieces_hit hlt hc, List.map_cons, ih (i + 1) (i + 1) (by omega) (Nat.le_refl _) (by omega) h2 t2 e2, Lib.extract_data, e2]
      simp
    · rw [if_neg hc, e2] at e
      cases e
      rw [pieces_miss hlt hc, ih f (i + 1) (by omega) (by omega) (by omega) h2 _ e2]
      congr 1
      rw [show i + 1 - f = (i - f) + 1 by omega, List.take_add_one, List.getElem?_drop, show f + (i - f) = i by omega, List.getElem?_eq_getElem (by omega), hg]
      simp
theorem split_pieces (c : UInt8) (s : ByteArray) : Lib.splitB ⟨#[c]⟩ 0 (Lib.countB s ⟨#[c]⟩) s = pieces c s 0 0 := by
  have h1 := Lib.splitB_data ⟨#[c]⟩ 0 (Lib.countB s ⟨#[c]⟩) s
  obtain ⟨h, t, e⟩ := cutL_ne c s.data.toList
  have h2 := pieces_cut c s s.size 0 0 (by omega) (Nat.le_refl _) (Nat.zero_le _) h t e
  have h3 : Lib.splitK [c] 0 (Lib.countB s ⟨#[c]⟩) s.data.toList = cutL c s.data.toList := cutL_split c _
  have h4 : (Lib.splitB ⟨#[c]⟩ 0 (Lib.countB s ⟨#[c]⟩) s).map (fun x => x.data.toList) = (pieces c s 0 0).map (fun x => x.data.toList) := by
    rw [h1, h2]
    refine Eq.trans h3 ?_
    rw [e]
    simp
  exact List.map_inj_right (fun x y q => bts_inj q) |>.1 h4
theorem split_len (c : UInt8) (s : ByteArray) : (pieces c s 0 0).length = Lib.countB s ⟨#[c]⟩ + 1 := by
  rw [← split_pieces]
  exact Lib.splitB_all ⟨#[c]⟩ (Nat.le_refl 1) 0 _ s rfl
theorem cutL_one {c : UInt8} : ∀ {l h : List UInt8}, cutL c l = [h] → h = l
  | [], h, e => by cases e; rfl
  | b :: l, h, e => by
    unfold cutL at e
    obtain ⟨h2, t2, e2⟩ := cutL_ne c l
    by_cases hb : b = c
    · rw [if_pos hb, e2] at e
      cases e
    · rw [if_neg hb, e2] at e
      cases e
      rw [cutL_one e2]
theorem pieces_one {c : UInt8} {s a : ByteArray} (h : pieces c s 0 0 = [a]) : a = s := by
  obtain ⟨x, t, e⟩ := cutL_ne c s.data.toList
  have h2 := pieces_cut c s s.size 0 0 (by omega) (Nat.le_refl _) (Nat.zero_le _) x t e
  rw [h] at h2
  have h3 : a.data.toList = x ∧ t = [] := by simpa using h2
  obtain ⟨h4, rfl⟩ := h3
  exact bts_inj (h4.trans (cutL_one e))

/-! ### numbers, bytes -/
/-- digits' number -/
def dval (L : List Nat) : Nat := L.foldl (fun v c => 10 * v + (c - 48)) 0
theorem dval_succ {L : List Nat} {i c : Nat} (h : L[i]? = some c) : dval (L.take (i + 1)) = 10 * dval (L.take i) + (c - 48) := by
  unfold dval
  rw [List.take_add_one, h, List.foldl_append]
  rfl
theorem dval_bound (L : List Nat) (h : ∀ c ∈ L, c ≤ 57) : dval L < 10 ^ L.length := by
  suffices ∀ (L : List Nat) (v : Nat), (∀ c ∈ L, c ≤ 57) → L.foldl (fun v c => 10 * v + (c - 48)) v + 1 ≤ (v + 1) * 10 ^ L.length by
    have := this L 0 h
    unfold dval
    omega
  intro L
  induction L with
  | nil => intro v _; simp
  | cons c L ih =>
    intro v hL
    have h1 := ih (10 * v + (c - 48)) (fun x hx => hL x (List.mem_cons_of_mem _ hx))
    have h2 := hL c (List.mem_cons_self ..)
    rw [List.foldl_cons, List.length_cons, Nat.pow_succ]
    have h3 : (10 * v + (c - 48) + 1) * 10 ^ L.length ≤ (v + 1) * (10 ^ L.length * 10) := by
      rw [Nat.mul_comm (10 ^ L.length) 10, ← Nat.mul_assoc]
      exact Nat.mul_le_mul_right _ (by omega)
    omega
/-- a number of a text: 0, or 1 to 9 and digits, at most seven -/
def numV (L : List Nat) : Option Nat := if L = [] ∨ 7 < L.length ∨ (L[0]? = some 48 ∧ 1 < L.length) then none else if ∀ c ∈ L, 48 ≤ c ∧ c ≤ 57 then some (dval L) else none
/-- a letter's value -/
def hv (c : Nat) : Option Nat := if 48 ≤ c ∧ c ≤ 57 then some (c - 48) else if 97 ≤ c ∧ c ≤ 102 then some (c - 87) else none
theorem hv_lt {c d : Nat} (h : hv c = some d) : d < 16 := by
  unfold hv at h
  split at h
  · cases h; omega
  · split at h
    · cases h; omega
    · cases h
def hstep : Option Nat × List Nat → Nat → Option Nat × List Nat
  | (none, out), d => (some d, out)
  | (some x, out), d => (none, out ++ [16 * x + d])
def hexF : Option Nat × List Nat → List Nat → Option (Option Nat × List Nat)
  | st, [] => some st
  | st, c :: r => match hv c with | none => none | some d => hexF (hstep st d) r
/-- letters' bytes -/
def hexV (L : List Nat) : Option (List Nat) := match hexF (none, []) L with | some (none, out) => some out | _ => none
def pendN : Option Nat → Nat | none => 0 | some _ => 1
theorem hexF_len : ∀ (L : List Nat) (st r : Option Nat × List Nat), hexF st L = some r → L.length + pendN st.1 + 2 * st.2.length = pendN r.1 + 2 * r.2.length
  | [], st, r, h => by cases h; simp
  | c :: L, (p, out), r, h => by
    unfold hexF at h
    cases hc : hv c with
    | none => rw [hc] at h; cases h
    | some d =>
      rw [hc] at h
      have := hexF_len L _ r h
      cases p with
      | none => simp only [hstep, pendN, List.length_cons] at this ⊢; omega
      | some x => simp only [hstep, pendN, List.length_cons, List.length_append, List.length_nil] at this ⊢; omega
theorem hexV_len {L out : List Nat} (h : hexV L = some out) : L.length = 2 * out.length := by
  unfold hexV at h
  split at h
  · rename_i o e
    cases h
    have := hexF_len L _ _ e
    simpa [pendN] using this
  · cases h
theorem hexF_lt : ∀ (L : List Nat) (st r : Option Nat × List Nat), (∀ x, st.1 = some x → x < 16) → (∀ c ∈ st.2, c < 256) → hexF st L = some r → ∀ c ∈ r.2, c < 256
  | [], st, r, _, h2, h => by cases h; exact h2
  | c :: L, (p, out), r, h1, h2, h => by
    unfold hexF at h
    cases hc : hv c with
    | none => rw [hc] at h; cases h
    | some d =>
      rw [hc] at h
      have hd := hv_lt hc
      cases p with
      | none => exact hexF_lt L (some d, out) r (fun x e => by cases e; exact hd) h2 h
      | some x =>
        have hx := h1 x rfl
        refine hexF_lt L (none, out ++ [16 * x + d]) r (fun x e => by cases e) (fun y hy => ?_) h
        rcases List.mem_append.1 hy with hy | hy
        · exact h2 y hy
        · rw [List.mem_singleton] at hy
          omega
theorem hexV_lt {L out : List Nat} (h : hexV L = some out) : ∀ c ∈ out, c < 256 := by
  unfold hexV at h
  split at h
  · rename_i o e
    cases h
    exact hexF_lt L (none, []) _ (fun x e => by cases e) (fun c hc => by cases hc) e
  · cases h
/-- the first place of a letter; -1 -/
def idx (c : Nat) : List Nat → Nat → Int
  | [], _ => -1
  | b :: l, k => if b = c then (k : Int) else idx c l (k + 1)
def hexL : List Nat := [48, 49, 50, 51, 52, 53, 54, 55, 56, 57, 97, 98, 99, 100, 101, 102]
def hvI (c : Nat) : Int := match hv c with | some d => (d : Int) | none => -1
theorem idx_hex (c : Nat) (h : c < 256) : idx c hexL 0 = hvI c := by
  have : ∀ c : Fin 256, idx c.1 hexL 0 = hvI c.1 := by decide +kernel
  exact this ⟨c, h⟩

/-! ### what a text says -/
structure Job where
  frm : Int
  too : Int
  mode : Int
  depth : Int
  size : Int
  once : Bool
  opn : Bool
  indent : Int
  srt : Bool
  chunks : List (List Nat)
def job0 : Job := ⟨0, 1, 0, 64, 1048576, false, false, 0, false, []⟩
abbrev wJson : ByteArray := ⟨#[106, 115, 111, 110]⟩
abbrev wCbor : ByteArray := ⟨#[99, 98, 111, 114]⟩
abbrev wPack : ByteArray := ⟨#[112, 97, 99, 107]⟩
abbrev wDiag : ByteArray := ⟨#[100, 105, 97, 103]⟩
abbrev wStrict : ByteArray := ⟨#[115, 116, 114, 105, 99, 116]⟩
abbrev wLossy : ByteArray := ⟨#[108, 111, 115, 115, 121]⟩
abbrev wOnce : ByteArray := ⟨#[111, 110, 99, 101]⟩
abbrev wOpen : ByteArray := ⟨#[111, 112, 101, 110]⟩
abbrev wSort : ByteArray := ⟨#[115, 111, 114, 116]⟩
abbrev wFrom : ByteArray := ⟨#[102, 114, 111, 109]⟩
abbrev wTo : ByteArray := ⟨#[116, 111]⟩
abbrev wMode : ByteArray := ⟨#[109, 111, 100, 101]⟩
abbrev wDepth : ByteArray := ⟨#[100, 101, 112, 116, 104]⟩
abbrev wSize : ByteArray := ⟨#[115, 105, 122, 101]⟩
abbrev wIndent : ByteArray := ⟨#[105, 110, 100, 101, 110, 116]⟩
abbrev wChunk : ByteArray := ⟨#[99, 104, 117, 110, 107]⟩
def flagV (j : Job) (s : ByteArray) : Option Job :=
  if s = wOnce then some { j with once := true } else if s = wOpen then some { j with opn := true } else if s = wSort then some { j with srt := true } else none
/-- a word's place among some -/
def pickF (x : ByteArray) : List ByteArray → Nat → Option Nat
  | [], _ => none
  | n :: r, k => if n = x then some k else pickF x r (k + 1)
def setV (j : Job) (s x : ByteArray) : Option Job :=
  if s = wFrom then (pickF x [wJson, wCbor, wPack] 0).map (fun i : Nat => ({ j with frm := (i : Int) } : Job))
  else if s = wTo then (pickF x [wJson, wCbor, wPack, wDiag] 0).map (fun i : Nat => ({ j with too := (i : Int) } : Job))
  else if s = wMode then (pickF x [wStrict, wLossy] 0).map (fun i : Nat => ({ j with mode := (i : Int) } : Job))
  else if s = wDepth then (numV (bts x)).map (fun n : Nat => ({ j with depth := (n : Int) } : Job))
  else if s = wSize then (numV (bts x)).map (fun n : Nat => ({ j with size := (n : Int) } : Job))
  else if s = wIndent then (numV (bts x)).map (fun n : Nat => ({ j with indent := (n : Int) } : Job))
  else if s = wChunk then (match hexV (bts x) with | some (b :: r) => some { j with chunks := j.chunks ++ [b :: r] } | _ => none)
  else none
def stepV (j : Job) (t : ByteArray) : Option Job :=
  if (bts t)[0]? = none ∨ (bts t)[0]? = some 35 then some j else match pieces 32 t 0 0 with | [a] => flagV j a | [a, b] => setV j a b | _ => none
/-- line by line: what is said, or the line that errs -/
def runL : Job → Nat → List ByteArray → Option Job × Nat
  | j, _, [] => (some j, 0)
  | j, k, t :: r => match stepV j t with | none => (none, k + 1) | some j' => runL j' (k + 1) r
end Go.Proofs.YtmejpcfbefjjaaaDoor.Scr
