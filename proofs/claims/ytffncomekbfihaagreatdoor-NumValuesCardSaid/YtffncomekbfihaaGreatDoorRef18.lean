/- Rows of bytes that were a text, and that are appended to: behind them something may be frozen. nat.FromBytes, glossatorref01.FromBytes. glossatorref01.Add of a number and 1. num.Text. glossatorref07: Digits, Text. -/
import Derived.Test.YtffncomekbfihaaGreatDoorMore
import Derived.Test.YtffncomekbfihaaGreatDoorDigW
import Derived.Laws.AppendOwn
import Derived.Lib.ConvBytes
import Derived.Test.YtffncomekbfihaaGreatDoorRef4
import Derived.Shelf.RegionOpen
import Derived.Deep.CutBlock
import Derived.Deep.DeepCutAuto
import Derived.Test.YtffncomekbfihaaGreatDoorRef6
import Derived.Test.YtffncomekbfihaaGreatDoorRef16
import Derived.Test.YtffncomekbfihaaGreatDoorDigits
import Derived.Test.YtffncomekbfihaaGreatDoorBest
namespace Go.Proofs.YtffncomekbfihaaGreatDoor.Nat
open Go.RowKit Go.Shelf
set_option linter.unusedVariables false
set_option linter.unusedSimpArgs false
/-- a row of its own; behind it something may be frozen -/
def OwnT (w : World) (base : Nat) (e : TypeId) (v : Value) (n : Nat) (xs : List Value) : Prop :=
  xs.length = n ∧ ∃ g cap cur fz, v = .slice (some ⟨g, 0, none⟩) n cap ∧ base ≤ g ∧ w.heap[g]? = some (.cells cur e fz) ∧ (fz = (0, 0) ∨ cur.size ≤ fz.1) ∧ n ≤ cap ∧ cap ≤ maxLen ∧ cur.size = cap ∧ cur.toList.take n = xs
theorem OwnT.form {w : World} {base : Nat} {e : TypeId} {v : Value} {n : Nat} {xs : List Value} (h : OwnT w base e v n xs) : ∃ g cap, v = .slice (some ⟨g, 0, none⟩) n cap ∧ base ≤ g ∧ n ≤ cap := by
  obtain ⟨_, g, cap, cur, fz, rfl, hb, _, _, hc, _⟩ := h
  exact ⟨g, cap, rfl, hb, hc⟩
theorem OwnT.cells {w : World} {base : Nat} {e : TypeId} {n g cap : Nat} {xs : List Value} (h : OwnT w base e (.slice (some ⟨g, 0, none⟩) n cap) n xs) : ∀ j u, xs[j]? = some u → w.cell? ⟨g, j, none⟩ = some u := by
  intro j u hu
  obtain ⟨_, g', cap', cur, fz, he, _, hgg, _, _, _, _, htake⟩ := h
  cases he
  rw [cell_of_row w g j cur e fz hgg]
  rw [← htake, List.getElem?_take] at hu
  split at hu
  · simpa using hu
  · cases hu
theorem ownT_conv (w : World) (e : TypeId) (s : ByteArray) (hs : s.size ≤ maxLen) : OwnT (Lib.bytesWorld w e s) w.heap.size e (.slice (some ⟨w.heap.size, 0, none⟩) s.size (grownCap w s.size 0 e)) s.size (bv (bts s)) := by
  have hge := grownCap_ge w s.size 0 e
  have hsz : s.data.size = s.size := rfl
  refine ⟨by rw [bv_length, bts_length], w.heap.size, _, _, _, rfl, Nat.le_refl _, Lib.bytesWorld_at_new w e s, .inr (Nat.le_refl _), hge, grownCap_le_maxLen w s.size 0 e hs, ?_, ?_⟩
  · unfold Lib.bytesCells
    rw [Array.size_append, Array.size_map, Array.size_replicate, hsz]
    omega
  · unfold Lib.bytesCells
    rw [Array.toList_append, List.take_left' (by rw [Array.length_toList, Array.size_map]; exact hsz)]
    unfold bv bts
    rw [Array.toList_map, List.map_map]
    rfl
theorem run_append_T {P : Program} (w : World) (base : Nat) (t ty e : TypeId) (i : TypeInfo) (z : Value) (bytes : Nat) (ht : P.underlying t = some (.slice e)) (hi : P.info? e = some i) (hz : i.zero = some z)
    (hsize : i.size = 1) (hby : i.bytes = bytes) (hzs : z.cells.size = 1)
    (v : Value) (n : Nat) (xs : List Value) (hown : OwnT w base e v n xs)
    (a : Addr) (c : Nat) (u : Value) (hu : w.cell? (a.add 0) = some u) (h1 : u.oneCell' = true)
    (h63 : n + 1 ≤ maxLen) (hbytes : (n + 1) * bytes ≤ 140737488355328) (hbase : base ≤ w.heap.size) :
    ∃ v' w', (Builtin.append_ #[t, t] ty #[v, .slice (some a) 1 c]).run P w = .ok v' w' ∧ OwnT w' base e v' (n + 1) (xs ++ [u]) ∧ w.grownBy w' v.ownBlock := by
  subst hby
  have hsmall : n + 1 ≤ 9223372036854775807 := by simp only [maxLen] at h63; omega
  have hnews : ∀ (j : Nat) (x : Value), ([u] : List Value)[j]? = some x → w.cell? (a.add j) = some x := fun j x hx => by
    cases j with
    | zero => simp at hx; subst hx; exact hu
    | succ j => simp at hx
  have hlen : (xs ++ [u]).length = n + 1 := by rw [List.length_append, hown.1]; rfl
  have hcl : ∀ {g cap : Nat}, v = .slice (some ⟨g, 0, none⟩) n cap → ∀ j x, xs[j]? = some x → w.cell? ((⟨g, 0, none⟩ : Addr).add j) = some x := fun {g cap} e2 j x hx => by
    have hadd : (⟨g, 0, none⟩ : Addr).add j = ⟨g, j, none⟩ := by unfold Addr.add; split <;> simp_all
    rw [hadd]
    exact (e2 ▸ hown).cells j x hx
  obtain ⟨hxl, g, cap, cur, fz, rfl, hbg, hg, hfz, hnc, hcm, hcs, htake⟩ := hown
  by_cases hroom : n + 1 ≤ cap
  · have hi2 : n < cur.size := by omega
    have hadd : (⟨g, n, none⟩ : Addr).add 0 = ⟨g, n, none⟩ := by unfold Addr.add; split <;> simp_all
    have hcell : w.cell? ⟨g, n, none⟩ = some cur[n] := by simp [World.cell?, hg, hi2]
    have hfro : w.frozen? ⟨g, n, none⟩ = false := by
      obtain ⟨lo, hi'⟩ := fz
      simp only [World.frozen?, hg, Bool.and_eq_false_iff, decide_eq_false_iff_not]
      rcases hfz with h | h
      · right
        have := (Prod.mk.inj h).2
        omega
      · left
        simp only at h
        omega
    have hst1 : (store ((⟨g, n, none⟩ : Addr).add 0) u).run P w = .ok () (w.setRow g (cur.setIfInBounds n u)) := by
      rw [hadd, run_store P w _ u _ h1, hcell]
      simp [hfro, setCell_eq_setRow w g n cur e fz u hg]
    have hst : (storeCells ⟨g, n, none⟩ [u] 0).run P w = .ok () (w.setRow g (cur.setIfInBounds n u)) := by
      simp only [storeCells, Sem.run_bind, hst1, Result.andThen_ok]
      rfl
    have hf := run_firstCells_some (P := P) w i.size 1 a 1 c [u] (by rw [hsize]; rfl) hnews
    rw [hsize] at hf
    have hr : (Builtin.append_ #[t, t] ty #[.slice (some ⟨g, 0, none⟩) n cap, .slice (some a) 1 c]).run P w = .ok (.slice (some ⟨g, 0, none⟩) (n + 1) cap) (w.setRow g (cur.setIfInBounds n u)) := by
      simp [Builtin.append_, run_underlying ht, sizeOf, typeInfo, hi, hsize, Builtin.lenOf, hroom, hf, Addr.add_lit, hst]
    refine ⟨_, _, hr, ⟨hlen, g, cap, _, fz, rfl, hbg, setRow_heap w g cur _ e _ hg, ?_, hroom, hcm, by rw [Array.size_setIfInBounds]; exact hcs, ?_⟩, ⟨rfl, rfl, rfl, by simp, fun k _ hk => setRow_other w g k _ (fun e => hk (by simp [Value.ownBlock, e]))⟩⟩
    · rw [Array.size_setIfInBounds]; exact hfz
    · rw [Array.toList_setIfInBounds, List.take_add_one, List.take_set_of_le (Nat.le_refl _), htake, List.getElem?_set_self (by rw [Array.length_toList]; exact hi2)]
      rfl
  · have hr := run_append_grow (P := P) w t ty e i z ht hi hz ⟨g, 0, none⟩ n cap xs (by rw [hsize, Nat.mul_one]; exact hxl) (hcl rfl) a 1 c [u] (by rw [hsize]; rfl) hnews (by omega) (by omega) (growslice_fits (by omega) hbytes)
    have hge := grownCap_ge w (n + 1) cap e
    have hcm2 : grownCap w (n + 1) cap e ≤ maxLen := grownCap_le_maxLen w (n + 1) cap e h63
    refine ⟨_, _, hr, ⟨hlen, w.heap.size, _, _, (0, 0), rfl, hbase, heap_alloc_new w.drew _, .inl rfl, hge, hcm2, ?_, ?_⟩, ⟨rfl, rfl, rfl, by simp, fun k hk _ => (by show (w.drew.heap.push _)[k]? = w.drew.heap[k]?; rw [Array.getElem?_push]; exact if_neg (Nat.ne_of_lt hk))⟩⟩
    · simp only [Array.size_append, List.size_toArray, size_zeroCells, hzs, hxl, List.length_singleton]
      omega
    · simp only [Array.toList_append, List.append_assoc]
      rw [← List.append_assoc, ← hlen]
      exact List.take_left
theorem wpList_append_T {P : Program} (w : World) {ops : Array Oper} {rest : List Oper} {o : Oper} {a : Act} {Q : Exit → Act → World → Prop} (hgd : o.guard = none) (s x : Operand) (t : TypeId)
    (ho : o.op = .call { callee := .builtin .append, args := #[s, x], argTypes := #[t, t] })
    (base : Nat) (e : TypeId) (i : TypeInfo) (z : Value) (bytes : Nat) (ht : P.underlying t = some (.slice e)) (hi : P.info? e = some i) (hz : i.zero = some z)
    (hsize : i.size = 1) (hby : i.bytes = bytes) (hzs : z.cells.size = 1)
    (v : Value) (n : Nat) (xs : List Value) (hs : a.eval s = v) (hown : OwnT w base e v n xs)
    (ad : Addr) (c : Nat) (u : Value) (hx : a.eval x = .slice (some ad) 1 c) (hu : w.cell? (ad.add 0) = some u) (h1 : u.oneCell' = true)
    (h63 : n + 1 ≤ maxLen) (hbytes : (n + 1) * bytes ≤ 140737488355328) (hbase : base ≤ w.heap.size)
    (h : ∀ v' w', OwnT w' base e v' (n + 1) (xs ++ [u]) → w.grownBy w' v.ownBlock → wpList P ops Q rest (a.put o.dst v') w') : wpList P ops Q (o :: rest) a w := by
  refine wpList_plain hgd fun K hK => ?_
  obtain ⟨v', w', hr, h2, h3⟩ := run_append_T (P := P) w base t o.type e i z bytes ht hi hz hsize hby hzs v n xs hown ad c u hu h1 h63 hbytes hbase
  unfold Oper.wp execOp
  simp only [ho, resolve, invoke, builtin, Sem.run_bind, Sem.run_pure, Result.andThen_ok, List.map_toArray, List.map_cons, List.map_nil, hs, hx, hr]
  exact hK _ _ (h v' w' h2 h3)
/-- the number of bytes, the greatest first -/
def bval : List Nat → Nat
  | [] => 0
  | c :: r => c * 256 ^ r.length + bval r
theorem bval_append (a b : List Nat) : bval (a ++ b) = bval a * 256 ^ b.length + bval b := by
  induction a with
  | nil => simp [bval]
  | cons c a ih =>
    rw [List.cons_append, bval, ih, bval, List.length_append, Nat.pow_add, Nat.add_mul, ← Nat.mul_assoc]
    omega
theorem bval_lt {L : List Nat} (h : ∀ c ∈ L, c < 256) : bval L < 256 ^ L.length := by
  induction L with
  | nil => decide
  | cons c L ih =>
    have h1 := ih (fun x hx => h x (List.mem_cons_of_mem _ hx))
    have h2 := h c List.mem_cons_self
    rw [bval, List.length_cons, Nat.pow_succ]
    have h3 := Nat.mul_le_mul_right (256 ^ L.length) (show c + 1 ≤ 256 by omega)
    rw [Nat.add_mul, Nat.one_mul] at h3
    omega
theorem bval_drop {L : List Nat} {i c : Nat} (h : L[i]? = some c) : bval (L.drop i) = c * 256 ^ (L.length - (i + 1)) + bval (L.drop (i + 1)) := by
  obtain ⟨hl, he⟩ := List.getElem?_eq_some_iff.1 h
  rw [List.drop_eq_getElem_cons hl, he, bval, List.length_drop]
theorem bval_take {L : List Nat} {i c : Nat} (h : L[i]? = some c) : bval (L.take (i + 1)) = bval (L.take i) * 256 + c := by
  rw [List.take_add_one, h, bval_append]
  simp [bval]
theorem pow256 (n : Nat) : (256 : Nat) ^ (4 * n) = 4294967296 ^ n := by rw [Nat.pow_mul]
/-- a limb of a small number is small -/
theorem limb_lt {o : List Nat} {q y r : Nat} (hy : o[q]? = some y) (h : nv o < 256 ^ (4 * q + r)) : y < 256 ^ r := by
  have h1 := nv_take_succ hy
  have h2 := nv_split o (q + 1) (by have := (List.getElem?_eq_some_iff.1 hy).1; omega)
  rw [Nat.pow_add, pow256] at h
  have h3 : 4294967296 ^ q * y < 4294967296 ^ q * 256 ^ r := by omega
  exact Nat.lt_of_mul_lt_mul_left h3
/-- a limb of a number with zeros at the end -/
theorem limb_dvd {o : List Nat} {q y r T : Nat} (hO : Ok o) (hy : o[q]? = some y) (hr : r < 4) (h : nv o = T * 256 ^ (4 * q + r + 1)) : y % 256 ^ (r + 1) = 0 := by
  have hl := (List.getElem?_eq_some_iff.1 hy).1
  have h2 := nv_split o q (by omega)
  have h3 := nv_lt (hO.take q)
  rw [List.length_take, Nat.min_eq_left (by omega)] at h3
  have h4 := nv_drop hy
  have hE := Nat.pow_pos (n := q) (show 0 < 4294967296 by decide)
  rw [Nat.add_assoc, Nat.pow_add, pow256] at h
  have h5 : nv (o.drop q) = T * 256 ^ (r + 1) := by
    rw [Nat.mul_left_comm] at h
    generalize 4294967296 ^ q = E at *
    have e1 : (nv (o.take q) + E * nv (o.drop q)) / E = nv (o.drop q) := by rw [Nat.add_mul_div_left _ _ hE, Nat.div_eq_of_lt h3, Nat.zero_add]
    rw [← h2, h, Nat.mul_div_cancel_left _ hE] at e1
    exact e1.symm
  have hy32 := hO.get hy
  rw [h4] at h5
  have : r = 0 ∨ r = 1 ∨ r = 2 ∨ r = 3 := by omega
  rcases this with rfl | rfl | rfl | rfl <;> simp only [Nat.reduceAdd, Nat.reducePow] at h5 ⊢ <;> omega
theorem or_lowb {y c k : Nat} (hy : y < 2 ^ k) (hc : c < 256) (hk : k ≤ 24) : Go.bits BinOp.or IntKind.u32 (y : Int) ((c * 2 ^ k : Nat) : Int) = ((y + c * 2 ^ k : Nat) : Int) := by
  have hp : (2 : Nat) ^ k ≤ 2 ^ 24 := Nat.pow_le_pow_right (by decide) hk
  have hcm : c * 2 ^ k ≤ 255 * 2 ^ 24 := Nat.mul_le_mul (by omega) hp
  have h1 := (bits_nat .u32 32 (by decide) (fun n h0 h1 => by rw [IntKind.wrap_u32]; omega) y (c * 2 ^ k) (by omega) (by omega)).2
  have h2 : y ||| c * 2 ^ k = y + c * 2 ^ k := by
    rw [Nat.or_comm, Nat.mul_comm, ← Nat.two_pow_add_eq_or_of_lt hy c]
    omega
  rw [h2] at h1
  exact h1
theorem or_highb {y c k : Nat} (hy : y % 2 ^ (k + 8) = 0) (hy32 : y < 4294967296) (hc : c < 256) (hk : k ≤ 24) : Go.bits BinOp.or IntKind.u32 (y : Int) ((c * 2 ^ k : Nat) : Int) = ((y + c * 2 ^ k : Nat) : Int) := by
  have hp : (2 : Nat) ^ k ≤ 2 ^ 24 := Nat.pow_le_pow_right (by decide) hk
  have hcm : c * 2 ^ k ≤ 255 * 2 ^ 24 := Nat.mul_le_mul (by omega) hp
  have h1 := (bits_nat .u32 32 (by decide) (fun n h0 h1 => by rw [IntKind.wrap_u32]; omega) y (c * 2 ^ k) (by omega) (by omega)).2
  have h2 : y ||| c * 2 ^ k = y + c * 2 ^ k := by
    obtain ⟨z, hz⟩ : ∃ z, y = 2 ^ (k + 8) * z := ⟨y / 2 ^ (k + 8), by have := Nat.div_add_mod y (2 ^ (k + 8)); omega⟩
    have hlt : c * 2 ^ k < 2 ^ (k + 8) := by
      rw [Nat.pow_add, Nat.mul_comm]
      exact Nat.mul_lt_mul_of_pos_left (by omega) (Nat.two_pow_pos k)
    rw [hz, ← Nat.two_pow_add_eq_or_of_lt hlt z]
  rw [h2] at h1
  exact h1
end Go.Proofs.YtffncomekbfihaaGreatDoor.Nat
namespace Go.Proofs.YtffncomekbfihaaGreatDoor.Nat
open Go.RowKit Go.Shelf
set_option linter.unusedVariables false
set_option linter.unusedSimpArgs false
/-- the bytes that lie in a block -/
def CB (w : World) (g : Nat) (L : List Nat) : Prop := ∀ (j c : Nat), L[j]? = some c → w.cell? ⟨g, j, none⟩ = some (.int .u8 (c : Int))
theorem CB.below {w w' : World} {g : Nat} {L : List Nat} (h : CB w g L) (hb : Below w.heap.size w w') : CB w' g L := fun j c hc => by
  have h1 := h j c hc
  exact (hb.cell (World.block_lt_of_cell? _ _ h1)).trans h1
theorem CB.grown {w w' : World} {g : Nat} {L : List Nat} {B : Nat} (h : CB w g L) (hb : Below B w w') (hg : g < B) : CB w' g L := fun j c hc => (hb.cell hg).trans (h j c hc)
theorem CB.set {w : World} {g B : Nat} {L : List Nat} (h : CB w g L) (hne : g ≠ B) (i : Nat) (v : Value) : CB (w.setCell ⟨B, i, none⟩ v) g L := fun j c hc => by
  rw [World.cell?_setCell_other _ _ _ _ (fun q => hne (by cases q; rfl))]
  exact h j c hc
theorem cb_lt {L : List Nat} (h : ∀ c ∈ L, c < 256) {j c : Nat} (hc : L[j]? = some c) : c < 256 := h c (List.mem_of_getElem? hc)
/-- a text as bytes -/
theorem conv_cb (W : World) (S : ByteArray) (hS : S.size ≤ 9223372036854775807) : ∃ (W2 : World) (cap : Nat), (convert 9 73 (.string S)).run Tryz.prog W = .ok (.slice (some ⟨W.heap.size, 0, none⟩) S.size cap) W2 ∧ CB W2 W.heap.size (bts S) ∧ S.size ≤ cap ∧ W.heap.size < W2.heap.size ∧ Below W.heap.size W W2 ∧
    OwnT W2 W.heap.size 5 (.slice (some ⟨W.heap.size, 0, none⟩) S.size cap) S.size (bv (bts S)) :=
  ⟨Lib.bytesWorld W 5 S, _, Lib.run_convert_string_bytes (P := Tryz.prog) W 9 73 5 S Tryz.underlying9 Tryz.underlying73 Tryz.underlying5, fun j c h => bts_cell W 5 S h, grownCap_ge _ _ _ _, by rw [Lib.bytesWorld_size]; exact Nat.lt_succ_self _, bytes_below' (Below.refl W.heap.size W) (Nat.le_refl _) 5 S, ownT_conv W 5 S (by unfold maxLen; omega)⟩
theorem bts_all (s : ByteArray) : ∀ c ∈ bts s, c < 256 := fun c hc => by
  obtain ⟨j, hj⟩ := List.mem_iff_getElem?.1 hc
  exact bts_lt hj
theorem limb_add {o : List Nat} {q y : Nat} (r c : Nat) (hy : o[q]? = some y) : nv (o.set q (y + c * 2 ^ (8 * r))) = nv o + c * 256 ^ (4 * q + r) := by
  have h := nv_set (y + c * 2 ^ (8 * r)) hy
  have e : (256 : Nat) ^ (4 * q + r) = 4294967296 ^ q * 2 ^ (8 * r) := by
    rw [Nat.pow_add, pow256]
    congr 1
    rw [show (256 : Nat) = 2 ^ 8 from rfl, ← Nat.pow_mul]
  rw [Nat.mul_add] at h
  rw [e, Nat.mul_left_comm]
  omega
theorem limb_fit {y c k : Nat} (hy : y < 2 ^ k) (hc : c < 256) (hk : k ≤ 24) : y + c * 2 ^ k < 4294967296 := by
  have h1 := Nat.mul_le_mul_right (2 ^ k) (show c + 1 ≤ 256 by omega)
  have h2 : (2 : Nat) ^ k ≤ 2 ^ 24 := Nat.pow_le_pow_right (by decide) hk
  rw [Nat.add_mul, Nat.one_mul] at h1
  omega
theorem limb_fit2 {y c k : Nat} (hy : y % 2 ^ (k + 8) = 0) (hy32 : y < 4294967296) (hc : c < 256) (hk : k = 0 ∨ k = 8 ∨ k = 16 ∨ k = 24) : y + c * 2 ^ k < 4294967296 := by
  rcases hk with rfl | rfl | rfl | rfl <;> simp only [Nat.reduceAdd, Nat.reducePow] at hy ⊢ <;> omega
set_option maxHeartbeats 8000000 in
set_option maxRecDepth 100000 in
theorem fromBytes_calls (g cap : Nat) (L : List Nat) (w : World) (hg : g < w.heap.size) (hC : CB w g L) (hL : ∀ c ∈ L, c < 256) (hn : L.length ≤ 512) (hc : L.length ≤ cap) (c0 : Nat) (h0 : L[0]? = some c0) (hc0 : c0 ≠ 0) :
    Calls Tryz.prog 35 #[.slice (some ⟨g, 0, none⟩) L.length cap] w fun e w' => ∃ v', e = .returned (.tuple #[v', .int .i64 0]) ∧ NatB w' v' (bval L) ∧ Below w.heap.size w w' := by
  obtain ⟨i0, hi, hz0, hz1, hz2⟩ := info_parts info40
  obtain ⟨n, hnL⟩ : ∃ n, L.length = n := ⟨_, rfl⟩
  have hn0 : 0 < n := by rw [← hnL]; exact (List.getElem?_eq_some_iff.1 h0).1
  rw [hnL] at hn hc ⊢
  have hn0I : (0 : Int) < (n : Int) := by omega
  have hcell0 := hC 0 c0 h0
  have hc0I : ((c0 : Int) == 0) = false := beq_eq_false_iff_ne.2 (by omega)
  obtain ⟨N1, hN1⟩ : ∃ N1, (n + 3) / 4 = N1 := ⟨_, rfl⟩
  have hNI : Int.tdiv ((n : Int) + 3) 4 = (N1 : Int) := by rw [Int.tdiv_eq_ediv_of_nonneg (by omega)]; omega
  have hNI2 : ((n : Int) + 3) / 4 = (N1 : Int) := by omega
  have hwN : IntKind.i64.wrap (N1 : Int) = (N1 : Int) := by rw [IntKind.wrap_i64]; omega
  obtain ⟨w4, hmk, hown, hgr⟩ := run_make_full (P := Tryz.prog) w w.heap.size 50 53 i0 (.int .u32 0) 1 Tryz.underlying50 hi hz0 hz1 .i64 .i64 N1 (by rw [hz2]; omega) (by unfold maxLen; omega) (Nat.le_refl _)
  rw [show (Value.int .u32 0).cells = #[Value.int .u32 0] from rfl, Nat.mul_one, toList_madeCells_one, ← cv_replicate] at hown
  have hb7 := (Below.refl w.heap.size w).grown hgr (Nat.le_refl _) (fun k hk => by cases hk)
  have HC : Hid (CB w4 g L) := Lib.hid (hC.grown hb7 hg)
  have HL : Hid _ := Lib.hid (And.intro hL hnL)
  clear hz0 hz1 hz2 hgr hC hL h0 hi hc0
  go_enter Tryz.func35, Tryz.ntmps35
  go_wp2
  obtain ⟨K, HK⟩ : ∃ K, Hid (K = 0) := ⟨0, Lib.hid rfl⟩
  go_loopg [0] K (fun kq v0 wr => kq = 0 ∧ v0 = .slice (some ⟨g, 0, none⟩) n cap ∧ wr = w)
  case atStart => exact ⟨HK.out, rfl, rfl⟩
  case round =>
    obtain ⟨hk0, rfl, hww⟩ := hrel
    obtain rfl : w = wr := hww.symm
    subst hk0
    have hmix : Tryz.prog.follows Departure.mixedOrders = true := by kernel_rfl
    go_wp2
    go_loopg [27] n (fun kq v27 wr2 => ∃ (i : Nat) (o : List Nat), v27 = .int .i64 i ∧ i + kq = n ∧ o.length = N1 ∧ Ok o ∧ wr2.ownsRow w.heap.size 53 1 (.slice (some ⟨w.heap.size, 0, none⟩) N1 N1) N1 (cv o) ∧ Hid (nv o = bval (L.drop (n - i))) ∧ Hid (CB wr2 g L) ∧ Below w.heap.size w wr2)
    case atStart => exact ⟨0, List.replicate N1 0, rfl, by omega, List.length_replicate, ok_replicate N1, hown, Lib.hid (by rw [nv_replicate, Nat.sub_zero, ← HL.out.2, List.drop_length]; rfl), HC, hb7⟩
    case round =>
      clear hown HC hb7 hmk
      obtain ⟨i, o, rfl, hi, hol, hO, hown, hv, HC, hb⟩ := hrel
      cases gk with
      | zero =>
        obtain rfl : i = n := by omega
        have hvv : nv o = bval L := by rw [hv.out, Nat.sub_self, List.drop_zero]
        have hgd := own_good (l := o) hown (by omega)
        have HV : Hid _ := Lib.hid hvv
        clear hvv hv
        go_wp2
        go_ret2
        exact ⟨_, rfl, ⟨some ⟨w.heap.size, 0, none⟩, o, N1, by rw [hol]; rfl, hgd.1, hO, HV.out, by omega⟩, hb⟩
      | succ d =>
        have hin : (i : Int) < (n : Int) := by omega
        obtain ⟨m, hm⟩ : ∃ m, n - 1 - i = m := ⟨_, rfl⟩
        obtain ⟨q, hq⟩ : ∃ q, i / 4 = q := ⟨_, rfl⟩
        have hLn := HL.out.2
        obtain ⟨c, hcx⟩ : ∃ c, L[m]? = some c := ⟨_, List.getElem?_eq_getElem (by omega)⟩
        obtain ⟨y, hy⟩ : ∃ y, o[q]? = some y := ⟨_, List.getElem?_eq_getElem (by omega)⟩
        have hcl := cb_lt HL.out.1 hcx
        have hcB := HC.out m c hcx
        have hcO := hown.cellAt q (by omega)
        rw [cv_get hy] at hcO
        have hfO := hown.frozenAt q
        have hqI : Int.tdiv (i : Int) 4 = (q : Int) := by rw [Int.tdiv_eq_ediv_of_nonneg (by omega)]; omega
        have hqI2 : (i : Int) / 4 = (q : Int) := by omega
        have hw1 : IntKind.i64.wrap ((n : Int) - 1) = (n : Int) - 1 := by rw [IntKind.wrap_i64]; omega
        have hw2 : IntKind.i64.wrap ((n : Int) - 1 - (i : Int)) = (m : Int) := by rw [IntKind.wrap_i64]; omega
        have hmI : (n : Int) - 1 - (i : Int) = (m : Int) := by omega
        have hmn : (m : Int) < (n : Int) := by omega
        have hqn : (q : Int) < (N1 : Int) := by omega
        have hdrop := bval_drop hcx
        rw [hLn, show n - (m + 1) = i from by omega, show m + 1 = n - i from by omega] at hdrop
        have hlt : nv o < 256 ^ i := by
          have h := bval_lt (L := L.drop (n - i)) (fun c hc => HL.out.1 c (List.mem_of_mem_drop hc))
          rw [List.length_drop, hLn, show n - (n - i) = i from by omega] at h
          rw [hv.out]
          exact h
        have hy2 : ∀ r, 4 * q + r = i → y < 256 ^ r := fun r hr => limb_lt hy (by rw [hr]; exact hlt)
        rcases (show i % 4 = 0 ∨ i % 4 = 1 ∨ i % 4 = 2 ∨ i % 4 = 3 by omega) with hr | hr | hr | hr
        · have hyl : y < 2 ^ 0 := by have h := hy2 0 (by omega); simpa using h
          have hrI : Int.tmod (i : Int) 4 = 0 := by rw [Int.tmod_eq_emod_of_nonneg (by omega)]; omega
          have hrJ : (i : Int) % 4 = 0 := by omega
          obtain ⟨S, hS⟩ : ∃ S, c * 2 ^ 0 = S := ⟨_, rfl⟩
          have hs1 : (c : Int) % 4294967296 = (S : Int) := by omega
          have hs2 : IntKind.u32.wrap ((c : Int)) = (S : Int) := by rw [IntKind.wrap_u32]; omega
          have ho := or_lowb (y := y) (c := c) (k := 0) hyl hcl (by decide)
          have hfit := limb_fit (y := y) (c := c) (k := 0) hyl hcl (by decide)
          have hadd := limb_add 0 c hy
          rw [show 8 * 0 = 0 from rfl] at hadd
          rw [hS] at ho hadd hfit
          obtain ⟨Y, hY⟩ : ∃ Y, y + S = Y := ⟨_, rfl⟩
          rw [hY] at ho hadd hfit
          have hst := (hown.stored q (.int .u32 (Y : Int))).1
          have HN : Hid (nv (o.set q Y) = bval (L.drop (n - (i + 1)))) := Lib.hid (by rw [hadd, hv.out, show 4 * q + 0 = i from by omega, show n - (i + 1) = m from by omega, hdrop, Nat.add_comm])
          clear hS hadd hY hyl
          go_wp2_with fail
          go_region_o
          go_wp2
          go_roundg d
          case rel => exact ⟨i + 1, o.set q Y, by go_num, by omega, by rw [List.length_set]; exact hol, hO.set _ _ hfit, by rw [cv_set]; exact hst, HN, Lib.hid (HC.out.set (Nat.ne_of_lt hg) q _), (hb.setCell (p := ⟨w.heap.size, q, none⟩) (Nat.le_refl _) _).drew⟩
          case measure => omega
        · have hyl : y < 2 ^ 8 := by have h := hy2 1 (by omega); simpa using h
          have hrI : Int.tmod (i : Int) 4 = 1 := by rw [Int.tmod_eq_emod_of_nonneg (by omega)]; omega
          have hrJ : (i : Int) % 4 = 1 := by omega
          obtain ⟨S, hS⟩ : ∃ S, c * 2 ^ 8 = S := ⟨_, rfl⟩
          have hs1 : (c : Int) * 256 % 4294967296 = (S : Int) := by omega
          have hs2 : IntKind.u32.wrap ((c : Int) * 256) = (S : Int) := by rw [IntKind.wrap_u32]; omega
          have ho := or_lowb (y := y) (c := c) (k := 8) hyl hcl (by decide)
          have hfit := limb_fit (y := y) (c := c) (k := 8) hyl hcl (by decide)
          have hadd := limb_add 1 c hy
          rw [show 8 * 1 = 8 from rfl] at hadd
          rw [hS] at ho hadd hfit
          obtain ⟨Y, hY⟩ : ∃ Y, y + S = Y := ⟨_, rfl⟩
          rw [hY] at ho hadd hfit
          have hst := (hown.stored q (.int .u32 (Y : Int))).1
          have HN : Hid (nv (o.set q Y) = bval (L.drop (n - (i + 1)))) := Lib.hid (by rw [hadd, hv.out, show 4 * q + 1 = i from by omega, show n - (i + 1) = m from by omega, hdrop, Nat.add_comm])
          clear hS hadd hY hyl
          go_wp2_with fail
          go_region_o
          go_wp2
          go_roundg d
          case rel => exact ⟨i + 1, o.set q Y, by go_num, by omega, by rw [List.length_set]; exact hol, hO.set _ _ hfit, by rw [cv_set]; exact hst, HN, Lib.hid (HC.out.set (Nat.ne_of_lt hg) q _), (hb.setCell (p := ⟨w.heap.size, q, none⟩) (Nat.le_refl _) _).drew⟩
          case measure => omega
        · have hyl : y < 2 ^ 16 := by have h := hy2 2 (by omega); simpa using h
          have hrI : Int.tmod (i : Int) 4 = 2 := by rw [Int.tmod_eq_emod_of_nonneg (by omega)]; omega
          have hrJ : (i : Int) % 4 = 2 := by omega
          obtain ⟨S, hS⟩ : ∃ S, c * 2 ^ 16 = S := ⟨_, rfl⟩
          have hs1 : (c : Int) * 65536 % 4294967296 = (S : Int) := by omega
          have hs2 : IntKind.u32.wrap ((c : Int) * 65536) = (S : Int) := by rw [IntKind.wrap_u32]; omega
          have ho := or_lowb (y := y) (c := c) (k := 16) hyl hcl (by decide)
          have hfit := limb_fit (y := y) (c := c) (k := 16) hyl hcl (by decide)
          have hadd := limb_add 2 c hy
          rw [show 8 * 2 = 16 from rfl] at hadd
          rw [hS] at ho hadd hfit
          obtain ⟨Y, hY⟩ : ∃ Y, y + S = Y := ⟨_, rfl⟩
          rw [hY] at ho hadd hfit
          have hst := (hown.stored q (.int .u32 (Y : Int))).1
          have HN : Hid (nv (o.set q Y) = bval (L.drop (n - (i + 1)))) := Lib.hid (by rw [hadd, hv.out, show 4 * q + 2 = i from by omega, show n - (i + 1) = m from by omega, hdrop, Nat.add_comm])
          clear hS hadd hY hyl
          go_wp2_with fail
          go_region_o
          go_wp2
          go_roundg d
          case rel => exact ⟨i + 1, o.set q Y, by go_num, by omega, by rw [List.length_set]; exact hol, hO.set _ _ hfit, by rw [cv_set]; exact hst, HN, Lib.hid (HC.out.set (Nat.ne_of_lt hg) q _), (hb.setCell (p := ⟨w.heap.size, q, none⟩) (Nat.le_refl _) _).drew⟩
          case measure => omega
        · have hyl : y < 2 ^ 24 := by have h := hy2 3 (by omega); simpa using h
          have hrI : Int.tmod (i : Int) 4 = 3 := by rw [Int.tmod_eq_emod_of_nonneg (by omega)]; omega
          have hrJ : (i : Int) % 4 = 3 := by omega
          obtain ⟨S, hS⟩ : ∃ S, c * 2 ^ 24 = S := ⟨_, rfl⟩
          have hs1 : (c : Int) * 16777216 % 4294967296 = (S : Int) := by omega
          have hs2 : IntKind.u32.wrap ((c : Int) * 16777216) = (S : Int) := by rw [IntKind.wrap_u32]; omega
          have ho := or_lowb (y := y) (c := c) (k := 24) hyl hcl (by decide)
          have hfit := limb_fit (y := y) (c := c) (k := 24) hyl hcl (by decide)
          have hadd := limb_add 3 c hy
          rw [show 8 * 3 = 24 from rfl] at hadd
          rw [hS] at ho hadd hfit
          obtain ⟨Y, hY⟩ : ∃ Y, y + S = Y := ⟨_, rfl⟩
          rw [hY] at ho hadd hfit
          have hst := (hown.stored q (.int .u32 (Y : Int))).1
          have HN : Hid (nv (o.set q Y) = bval (L.drop (n - (i + 1)))) := Lib.hid (by rw [hadd, hv.out, show 4 * q + 3 = i from by omega, show n - (i + 1) = m from by omega, hdrop, Nat.add_comm])
          clear hS hadd hY hyl
          go_wp2_with fail
          go_region_o
          go_wp2
          go_roundg d
          case rel => exact ⟨i + 1, o.set q Y, by go_num, by omega, by rw [List.length_set]; exact hol, hO.set _ _ hfit, by rw [cv_set]; exact hst, HN, Lib.hid (HC.out.set (Nat.ne_of_lt hg) q _), (hb.setCell (p := ⟨w.heap.size, q, none⟩) (Nat.le_refl _) _).drew⟩
          case measure => omega
set_option maxHeartbeats 8000000 in
set_option maxRecDepth 100000 in
theorem rfromBytes_calls (g cap : Nat) (L : List Nat) (w : World) (hg : g < w.heap.size) (hC : CB w g L) (hL : ∀ c ∈ L, c < 256) (hn : L.length ≤ 512) (hc : L.length ≤ cap) (hcm : cap ≤ 9223372036854775807) :
    Calls Tryz.prog 82 #[.slice (some ⟨g, 0, none⟩) L.length cap] w fun e w' => ∃ v', e = .returned (.tuple #[v', .int .i64 0]) ∧ NatB w' v' (bval L) ∧ Below w.heap.size w w' := by
  obtain ⟨n, hnL⟩ : ∃ n, L.length = n := ⟨_, rfl⟩
  rw [hnL] at hn hc ⊢
  have HC : Hid (CB w g L) := Lib.hid hC
  have HL : Hid _ := Lib.hid (And.intro hL hnL)
  clear hC hL
  go_enter Tryz.func82, Tryz.ntmps82
  go_upto_block 0 with fail
  go_cut [4] (fun v4 wx => ∃ z : Nat, v4 = .int .i64 z ∧ z ≤ n ∧ Hid (bval (L.drop z) = bval L) ∧ wx = w)
  case first =>
    go_wp2_with fail
    go_loopg [4] n (fun kq v4 wr => ∃ i : Nat, v4 = .int .i64 i ∧ i + kq = n ∧ Hid (bval (L.drop i) = bval L) ∧ wr = w)
    case atStart => exact ⟨0, rfl, by omega, Lib.hid rfl, rfl⟩
    case round =>
      obtain ⟨i, rfl, hi, hv, rfl⟩ := hrel
      cases gk with
      | zero =>
        obtain rfl : i = n := by omega
        go_wp2
        go_meet
        case rel => exact ⟨i, rfl, Nat.le_refl _, hv, rfl⟩
      | succ d =>
        obtain ⟨c, hcx⟩ : ∃ c, L[i]? = some c := ⟨_, List.getElem?_eq_getElem (by have := HL.out.2; omega)⟩
        have hcB := HC.out i c hcx
        have hin : (i : Int) < (n : Int) := by omega
        by_cases h0 : c = 0
        · subst h0
          have hd := bval_drop hcx
          rw [Nat.zero_mul, Nat.zero_add] at hd
          have HN : Hid (bval (L.drop (i + 1)) = bval L) := Lib.hid (by rw [← hd]; exact hv.out)
          clear hd hcx
          go_wp2
          go_roundg d
          case rel => exact ⟨i + 1, by go_num, by omega, HN, rfl⟩
          case measure => omega
        · have hcI : ((c : Int) == 0) = false := beq_eq_false_iff_ne.2 (by omega)
          clear hcx h0
          go_wp2
          go_meet
          case rel => exact ⟨i, rfl, by omega, hv, rfl⟩
  case rest =>
    obtain ⟨z, rfl, hz, hbz, rfl⟩ := hcut
    have hmix : Tryz.prog.follows Departure.mixedOrders = true := by kernel_rfl
    obtain ⟨i0, hi, hz0, hz1, hz2⟩ := info_parts info40
    obtain ⟨M, hM⟩ : ∃ M, L.drop z = M := ⟨_, rfl⟩
    obtain ⟨m, hm⟩ : ∃ m, n - z = m := ⟨_, rfl⟩
    have hMl : M.length = m := by rw [← hM, List.length_drop, HL.out.2, hm]
    have hMc : ∀ (j c : Nat), M[j]? = some c → wc.cell? ⟨g, z + j, none⟩ = some (.int .u8 (c : Int)) := fun j c h => HC.out (z + j) c (by rw [← hM, List.getElem?_drop] at h; exact h)
    have hMb : ∀ c ∈ M, c < 256 := fun c h => HL.out.1 c (by rw [← hM] at h; exact List.mem_of_mem_drop h)
    obtain ⟨N1, hN1⟩ : ∃ N1, (m + 3) / 4 = N1 := ⟨_, rfl⟩
    have hNI : Int.tdiv ((m : Int) + 3) 4 = (N1 : Int) := by rw [Int.tdiv_eq_ediv_of_nonneg (by omega)]; omega
    have hNI2 : ((m : Int) + 3) / 4 = (N1 : Int) := by omega
    have hwN : IntKind.i64.wrap (N1 : Int) = (N1 : Int) := by rw [IntKind.wrap_i64]; omega
    have hmN : n - z = m := hm
    have hmI : (n : Int) - (z : Int) = (m : Int) := by omega
    obtain ⟨w4, hmk, hown, hgr⟩ := run_make_full (P := Tryz.prog) wc wc.heap.size 50 53 i0 (.int .u32 0) 1 Tryz.underlying50 hi hz0 hz1 .i64 .i64 N1 (by rw [hz2]; omega) (by unfold maxLen; omega) (Nat.le_refl _)
    rw [show (Value.int .u32 0).cells = #[Value.int .u32 0] from rfl, Nat.mul_one, toList_madeCells_one, ← cv_replicate] at hown
    have hb7 := (Below.refl wc.heap.size wc).grown hgr (Nat.le_refl _) (fun k hk => by cases hk)
    have HM : Hid _ := Lib.hid (And.intro hMb (And.intro hMl (And.intro hMc (by rw [← hbz.out, hM] : bval M = bval L))))
    clear hz0 hz1 hz2 hgr hi hMb hMl hMc hM hbz HC HL
    have hm6 : (m : Int) ≤ 16384 := by omega
    by_cases hcz : cap = z
    · obtain rfl : m = 0 := by omega
      obtain rfl : N1 = 0 := by omega
      rw [show ((0 : Nat) : Int) = 0 from rfl] at hmk
      go_wp2
      obtain ⟨K, HK⟩ : ∃ K, Hid (K = 0) := ⟨0, Lib.hid rfl⟩
      go_loopg [6] K (fun kq v6 wr2 => kq = 0 ∧ v6 = .int .i64 0 ∧ wr2 = w4)
      case atStart => exact ⟨HK.out, rfl, rfl⟩
      case round =>
        obtain ⟨hk0, rfl, rfl⟩ := hrel
        subst hk0
        have hgd := (own_good (l := List.replicate 0 0) hown (by rw [List.length_replicate]; omega)).1
        have hvv : nv (List.replicate 0 0) = bval L := by
          have h0 : M = [] := List.eq_nil_of_length_eq_zero HM.out.2.1
          rw [nv_replicate, ← HM.out.2.2.2, h0]
          rfl
        have HV : Hid _ := Lib.hid hvv
        clear hvv hNI hNI2 hwN hmI hmN hm hN1 hmk hm6 hcz
        go_wp2
        go_ret2
        exact ⟨_, rfl, ⟨some ⟨wc.heap.size, 0, none⟩, List.replicate 0 0, 0, by rfl, hgd, ok_replicate 0, HV.out, by rw [List.length_replicate]; omega⟩, hb7⟩
    go_wp2
    go_loopg [6] m (fun kq v6 wr2 => ∃ (i : Nat) (o : List Nat), v6 = .int .i64 i ∧ i + kq = m ∧ o.length = N1 ∧ Ok o ∧ wr2.ownsRow wc.heap.size 53 1 (.slice (some ⟨wc.heap.size, 0, none⟩) N1 N1) N1 (cv o) ∧ Hid (nv o = bval (M.take i) * 256 ^ (m - i)) ∧ Below wc.heap.size wc wr2)
    case atStart => exact ⟨0, List.replicate N1 0, rfl, by omega, List.length_replicate, ok_replicate N1, hown, Lib.hid (by rw [nv_replicate, List.take_zero]; simp [bval]), hb7⟩
    case round =>
      clear hown hb7 hmk
      obtain ⟨i, o, rfl, hi, hol, hO, hown, hv, hb⟩ := hrel
      cases gk with
      | zero =>
        obtain rfl : i = m := by omega
        have hvv : nv o = bval L := by rw [hv.out, Nat.sub_self, Nat.pow_zero, Nat.mul_one, List.take_of_length_le (by have := HM.out.2.1; omega), HM.out.2.2.2]
        have hgd := own_good (l := o) hown (by omega)
        have HV : Hid _ := Lib.hid hvv
        clear hvv hv
        go_wp2
        go_ret2
        exact ⟨_, rfl, ⟨some ⟨wc.heap.size, 0, none⟩, o, N1, by rw [hol]; rfl, hgd.1, hO, HV.out, by omega⟩, hb⟩
      | succ d =>
        have hin : (i : Int) < (m : Int) := by omega
        obtain ⟨k, hk⟩ : ∃ k, m - 1 - i = k := ⟨_, rfl⟩
        obtain ⟨q, hq⟩ : ∃ q, k / 4 = q := ⟨_, rfl⟩
        have hMl := HM.out.2.1
        obtain ⟨c, hcx⟩ : ∃ c, M[i]? = some c := ⟨_, List.getElem?_eq_getElem (by omega)⟩
        obtain ⟨y, hy⟩ : ∃ y, o[q]? = some y := ⟨_, List.getElem?_eq_getElem (by omega)⟩
        have hcl := cb_lt HM.out.1 hcx
        have hcB := (hb.cell hg).trans (HM.out.2.2.1 i c hcx)
        have hcO := hown.cellAt q (by omega)
        rw [cv_get hy] at hcO
        have hfO := hown.frozenAt q
        have hqI : Int.tdiv (k : Int) 4 = (q : Int) := by rw [Int.tdiv_eq_ediv_of_nonneg (by omega)]; omega
        have hqI2 : (k : Int) / 4 = (q : Int) := by omega
        have hw1 : IntKind.i64.wrap ((m : Int) - 1) = (m : Int) - 1 := by rw [IntKind.wrap_i64]; omega
        have hw2 : IntKind.i64.wrap ((m : Int) - 1 - (i : Int)) = (k : Int) := by rw [IntKind.wrap_i64]; omega
        have hkI : (m : Int) - 1 - (i : Int) = (k : Int) := by omega
        have hqn : (q : Int) < (N1 : Int) := by omega
        have htk := bval_take hcx
        have hy2 : ∀ r, r < 4 → 4 * q + r = k → y % 256 ^ (r + 1) = 0 := fun r hr h => limb_dvd (T := bval (M.take i)) hO hy hr (by rw [hv.out]; congr 2; omega)
        have hy32 := hO.get hy
        have hnew : nv o + c * 256 ^ k = bval (M.take (i + 1)) * 256 ^ (m - (i + 1)) := by
          rw [hv.out, htk, show m - i = k + 1 from by omega, show m - (i + 1) = k from by omega, Nat.pow_succ, Nat.add_mul, Nat.mul_comm (256 ^ k) 256, ← Nat.mul_assoc]
        rcases (show k % 4 = 0 ∨ k % 4 = 1 ∨ k % 4 = 2 ∨ k % 4 = 3 by omega) with hr | hr | hr | hr
        · have hyl : y % 2 ^ (0 + 8) = 0 := by have h := hy2 0 (by omega) (by omega); simpa using h
          have hrI : Int.tmod (k : Int) 4 = 0 := by rw [Int.tmod_eq_emod_of_nonneg (by omega)]; omega
          have hrJ : (k : Int) % 4 = 0 := by omega
          obtain ⟨S, hS⟩ : ∃ S, c * 2 ^ 0 = S := ⟨_, rfl⟩
          have hs1 : (c : Int) % 4294967296 = (S : Int) := by omega
          have hs2 : IntKind.u32.wrap ((c : Int)) = (S : Int) := by rw [IntKind.wrap_u32]; omega
          have ho := or_highb (y := y) (c := c) (k := 0) hyl hy32 hcl (by decide)
          have hfit := limb_fit2 (y := y) (c := c) (k := 0) hyl hy32 hcl (by decide)
          have hadd := limb_add 0 c hy
          rw [show 8 * 0 = 0 from rfl] at hadd
          rw [hS] at ho hadd hfit
          obtain ⟨Y, hY⟩ : ∃ Y, y + S = Y := ⟨_, rfl⟩
          rw [hY] at ho hadd hfit
          have hst := (hown.stored q (.int .u32 (Y : Int))).1
          have HN : Hid (nv (o.set q Y) = bval (M.take (i + 1)) * 256 ^ (m - (i + 1))) := Lib.hid (by rw [hadd, show 4 * q + 0 = k from by omega]; exact hnew)
          clear hS hadd hY hyl
          go_wp2_with fail
          go_region_o
          go_wp2
          go_roundg d
          case rel => exact ⟨i + 1, o.set q Y, by go_num, by omega, by rw [List.length_set]; exact hol, hO.set _ _ hfit, by rw [cv_set]; exact hst, HN, (hb.setCell (p := ⟨wc.heap.size, q, none⟩) (Nat.le_refl _) _).drew⟩
          case measure => omega
        · have hyl : y % 2 ^ (8 + 8) = 0 := by have h := hy2 1 (by omega) (by omega); simpa using h
          have hrI : Int.tmod (k : Int) 4 = 1 := by rw [Int.tmod_eq_emod_of_nonneg (by omega)]; omega
          have hrJ : (k : Int) % 4 = 1 := by omega
          obtain ⟨S, hS⟩ : ∃ S, c * 2 ^ 8 = S := ⟨_, rfl⟩
          have hs1 : (c : Int) * 256 % 4294967296 = (S : Int) := by omega
          have hs2 : IntKind.u32.wrap ((c : Int) * 256) = (S : Int) := by rw [IntKind.wrap_u32]; omega
          have ho := or_highb (y := y) (c := c) (k := 8) hyl hy32 hcl (by decide)
          have hfit := limb_fit2 (y := y) (c := c) (k := 8) hyl hy32 hcl (by decide)
          have hadd := limb_add 1 c hy
          rw [show 8 * 1 = 8 from rfl] at hadd
          rw [hS] at ho hadd hfit
          obtain ⟨Y, hY⟩ : ∃ Y, y + S = Y := ⟨_, rfl⟩
          rw [hY] at ho hadd hfit
          have hst := (hown.stored q (.int .u32 (Y : Int))).1
          have HN : Hid (nv (o.set q Y) = bval (M.take (i + 1)) * 256 ^ (m - (i + 1))) := Lib.hid (by rw [hadd, show 4 * q + 1 = k from by omega]; exact hnew)
          clear hS hadd hY hyl
          go_wp2_with fail
          go_region_o
          go_wp2
          go_roundg d
          case rel => exact ⟨i + 1, o.set q Y, by go_num, by omega, by rw [List.length_set]; exact hol, hO.set _ _ hfit, by rw [cv_set]; exact hst, HN, (hb.setCell (p := ⟨wc.heap.size, q, none⟩) (Nat.le_refl _) _).drew⟩
          case measure => omega
        · have hyl : y % 2 ^ (16 + 8) = 0 := by have h := hy2 2 (by omega) (by omega); simpa using h
          have hrI : Int.tmod (k : Int) 4 = 2 := by rw [Int.tmod_eq_emod_of_nonneg (by omega)]; omega
          have hrJ : (k : Int) % 4 = 2 := by omega
          obtain ⟨S, hS⟩ : ∃ S, c * 2 ^ 16 = S := ⟨_, rfl⟩
          have hs1 : (c : Int) * 65536 % 4294967296 = (S : Int) := by omega
          have hs2 : IntKind.u32.wrap ((c : Int) * 65536) = (S : Int) := by rw [IntKind.wrap_u32]; omega
          have ho := or_highb (y := y) (c := c) (k := 16) hyl hy32 hcl (by decide)
          have hfit := limb_fit2 (y := y) (c := c) (k := 16) hyl hy32 hcl (by decide)
          have hadd := limb_add 2 c hy
          rw [show 8 * 2 = 16 from rfl] at hadd
          rw [hS] at ho hadd hfit
          obtain ⟨Y, hY⟩ : ∃ Y, y + S = Y := ⟨_, rfl⟩
          rw [hY] at ho hadd hfit
          have hst := (hown.stored q (.int .u32 (Y : Int))).1
          have HN : Hid (nv (o.set q Y) = bval (M.take (i + 1)) * 256 ^ (m - (i + 1))) := Lib.hid (by rw [hadd, show 4 * q + 2 = k from by omega]; exact hnew)
          clear hS hadd hY hyl
          go_wp2_with fail
          go_region_o
          go_wp2
          go_roundg d
          case rel => exact ⟨i + 1, o.set q Y, by go_num, by omega, by rw [List.length_set]; exact hol, hO.set _ _ hfit, by rw [cv_set]; exact hst, HN, (hb.setCell (p := ⟨wc.heap.size, q, none⟩) (Nat.le_refl _) _).drew⟩
          case measure => omega
        · have hyl : y % 2 ^ (24 + 8) = 0 := by have h := hy2 3 (by omega) (by omega); simpa using h
          have hrI : Int.tmod (k : Int) 4 = 3 := by rw [Int.tmod_eq_emod_of_nonneg (by omega)]; omega
          have hrJ : (k : Int) % 4 = 3 := by omega
          obtain ⟨S, hS⟩ : ∃ S, c * 2 ^ 24 = S := ⟨_, rfl⟩
          have hs1 : (c : Int) * 16777216 % 4294967296 = (S : Int) := by omega
          have hs2 : IntKind.u32.wrap ((c : Int) * 16777216) = (S : Int) := by rw [IntKind.wrap_u32]; omega
          have ho := or_highb (y := y) (c := c) (k := 24) hyl hy32 hcl (by decide)
          have hfit := limb_fit2 (y := y) (c := c) (k := 24) hyl hy32 hcl (by decide)
          have hadd := limb_add 3 c hy
          rw [show 8 * 3 = 24 from rfl] at hadd
          rw [hS] at ho hadd hfit
          obtain ⟨Y, hY⟩ : ∃ Y, y + S = Y := ⟨_, rfl⟩
          rw [hY] at ho hadd hfit
          have hst := (hown.stored q (.int .u32 (Y : Int))).1
          have HN : Hid (nv (o.set q Y) = bval (M.take (i + 1)) * 256 ^ (m - (i + 1))) := Lib.hid (by rw [hadd, show 4 * q + 3 = k from by omega]; exact hnew)
          clear hS hadd hY hyl
          go_wp2_with fail
          go_region_o
          go_wp2
          go_roundg d
          case rel => exact ⟨i + 1, o.set q Y, by go_num, by omega, by rw [List.length_set]; exact hol, hO.set _ _ hfit, by rw [cv_set]; exact hst, HN, (hb.setCell (p := ⟨wc.heap.size, q, none⟩) (Nat.le_refl _) _).drew⟩
          case measure => omega
end Go.Proofs.YtffncomekbfihaaGreatDoor.Nat
namespace Go.Proofs.YtffncomekbfihaaGreatDoor.Nat
open Go.RowKit Go.Shelf
set_option linter.unusedVariables false
set_option linter.unusedSimpArgs false
theorem limbs_zero0 : (limbs 0).length = 0 := limbs_len_zero.2 rfl
set_option maxHeartbeats 8000000 in
set_option maxRecDepth 100000 in
theorem radd_two {w1 : World} {v1 : Value} {a : Nat} (hv1 : NatB w1 v1 a) (hla : (limbs a).length ≤ 500) (hlb : (limbs (a + 1)).length ≤ 501) :
    Calls Tryz.prog 83 #[.slice (some ⟨w1.heap.size + 1, 0, none⟩) 2 2] ((w1.alloc (.cells #[.int .u32 1] 53)).alloc (.cells #[v1, .slice (some ⟨w1.heap.size, 0, none⟩) 1 1] 50)) fun e w' => ∃ v', e = .returned (.tuple #[v', .int .i64 0]) ∧ OwnN w' v' (a + 1) ∧ Below w1.heap.size w1 w' := by
  have b1 := below_alloc w1 (.cells #[.int .u32 1] 53)
  have h1 : NatB (w1.alloc (.cells #[.int .u32 1] 53)) (.slice (some ⟨w1.heap.size, 0, none⟩) 1 1) 1 := natb_one w1 1 (by decide)
  have g1 : Good (w1.alloc (.cells #[.int .u32 1] 53)) (some ⟨w1.heap.size, 0, none⟩, [1], 1) := good_one w1 1
  have hv2 := hv1.below b1
  obtain ⟨W1, hW1⟩ : ∃ W1, w1.alloc (.cells #[.int .u32 1] 53) = W1 := ⟨_, rfl⟩
  have hs1 : W1.heap.size = w1.heap.size + 1 := by rw [← hW1, World.size_alloc]
  rw [hW1] at b1 h1 g1 hv2 ⊢
  rw [← hs1]
  obtain ⟨A, l, c, rfl, hG, hO, hv, hl⟩ := hv2
  have b2 := below_alloc W1 (.cells #[.slice A l.length c, .slice (some ⟨w1.heap.size, 0, none⟩) 1 1] 50)
  have hsl := two_slat W1 A l c (some ⟨w1.heap.size, 0, none⟩) [1] 1 50
  have hh := heap_alloc_new W1 (.cells #[.slice A l.length c, .slice (some ⟨w1.heap.size, 0, none⟩) 1 1] 50)
  simp only [List.length_cons, List.length_nil, Nat.zero_add] at hsl
  obtain ⟨W2, hW2⟩ : ∃ W2, W1.alloc (.cells #[.slice A l.length c, .slice (some ⟨w1.heap.size, 0, none⟩) 1 1] 50) = W2 := ⟨_, rfl⟩
  rw [hW2] at b2 hsl hh ⊢
  have hx : NatB W2 (.slice A l.length c) a := NatB.below ⟨A, l, c, rfl, hG, hO, hv, hl⟩ b2
  have hy := h1.below b2
  have k0 := long_calls (some ⟨W1.heap.size, 0, none⟩) [(A, l, c), (some ⟨w1.heap.size, 0, none⟩, [1], 1)] 2 W2 hsl (fun q hq => by
    simp at hq
    rcases hq with rfl | rfl
    · exact ⟨hG.below b2, by dsimp only; rw [tn_eq hO, hv]; omega⟩
    · exact ⟨g1.below b2, by dsimp only; exact Nat.le_trans (tn_le [1]) (by decide)⟩) (by simp)
  simp only [List.length_cons, List.length_nil, Nat.zero_add] at k0
  have hb12 := below_step b1 b2
  have ksum := fun W V1 V2 x y (h1 : NatB W V1 x) (h2 : NatB W V2 y) => rsum_b h1 h2
  have HL : Hid _ := Lib.hid (And.intro hla hlb)
  clear hsl hG hO hv hl hla hlb hW1 hW2 g1 h1 b1 b2 hv1 hs1
  go_enter Tryz.func83, Tryz.ntmps83
  go_wp2_with (go_at_call 119; (with_reducible refine k0.mono ?_); clear k0; rintro e1 w3 ⟨rfl, hb3⟩; have hh3 := bk_below hh hb3)
  go_loopg [4, 5] 2 (fun kq v4 v5 wr => ∃ i : Nat, v5 = .int .i64 i ∧ i + kq = 2 ∧ OwnN wr v4 (if i = 0 then 0 else if i = 1 then a else a + 1) ∧ Below W2.heap.size W2 wr)
  case atStart => exact ⟨0, rfl, rfl, ownn_nil w3, hb3⟩
  case round =>
    clear hb3 hh3
    obtain ⟨i, rfl, hi, hs, hb⟩ := hrel
    have hhr := bk_below hh hb
    have c0 := (cell_of_row wr W1.heap.size 0 _ _ (0, 0) hhr).trans rfl
    have c1 := (cell_of_row wr W1.heap.size 1 _ _ (0, 0) hhr).trans rfl
    cases gk with
    | zero =>
      obtain rfl : i = 2 := by omega
      have hs2 : OwnN wr _ (a + 1) := hs
      obtain ⟨A2, c2, rfl, -, -⟩ := hs2.natv
      have hle : ¬ (4096 : Int) < ((limbs (a + 1)).length : Int) := by have := HL.out.2; omega
      clear hs c0 c1 hhr
      go_wp2
      go_ret2
      exact ⟨_, rfl, hs2, below_step hb12 hb⟩
    | succ d =>
      rcases (show i = 0 ∨ i = 1 by omega) with rfl | rfl
      · have hs2 : OwnN wr _ 0 := hs
        have k := ksum wr _ _ 0 a (hs2.b (by rw [limbs_zero0]; decide)) (hx.below hb)
        rw [Nat.zero_add] at k
        clear hs hhr ksum
        go_wp2_with (go_at_call 95; (with_reducible refine k.mono ?_); clear k; rintro e4 w4 ⟨v5, rfl, hv5, hb4⟩)
        go_roundg d
        case rel => exact ⟨1, rfl, by omega, hv5, below_step hb hb4⟩
        case measure => omega
      · have hs2 : OwnN wr _ a := hs
        have k := ksum wr _ _ a 1 (hs2.b (by have := HL.out.1; omega)) (hy.below hb)
        clear hs hhr ksum
        go_wp2_with (go_at_call 95; (with_reducible refine k.mono ?_); clear k; rintro e4 w4 ⟨v5, rfl, hv5, hb4⟩)
        go_roundg d
        case rel => exact ⟨2, rfl, by omega, hv5, below_step hb hb4⟩
        case measure => omega
end Go.Proofs.YtffncomekbfihaaGreatDoor.Nat
namespace Go.Proofs.YtffncomekbfihaaGreatDoor.Nat
open Go.RowKit Go.Shelf
set_option linter.unusedVariables false
set_option linter.unusedSimpArgs false
/-- a value that has no text -/
def NoText (K : Int) (neg : Bool) (N : Nat) (S : ByteArray) (l : Nat) : Prop :=
  0 < l ∨ (l = 0 ∧ ((K = 8 ∧ neg = true) ∨ (K = 8 ∧ neg = false ∧ S.size ≠ 0) ∨ (K = 4 ∧ S.size ≠ 0) ∨ (K = 5 ∧ N ≠ 0) ∨ (K = 5 ∧ N = 0 ∧ S.size ≤ 8) ∨ (K = 5 ∧ N = 0 ∧ 8 < S.size ∧ 512 < S.size) ∨
    (K = 5 ∧ N = 0 ∧ 8 < S.size ∧ S.size ≤ 512 ∧ (bts S)[0]? = some 0) ∨ (K ≠ 8 ∧ K ≠ 4 ∧ K ≠ 5)))
/-- a whole number -/
def IsNum (K : Int) (N : Nat) (S : ByteArray) (v : Nat) : Prop :=
  (K = 4 ∧ S.size = 0 ∧ v = N) ∨ (K = 5 ∧ N = 0 ∧ 8 < S.size ∧ S.size ≤ 512 ∧ (∃ c, (bts S)[0]? = some c ∧ c ≠ 0) ∧ v = bval (bts S))
theorem val_cases (K : Int) (neg : Bool) (N : Nat) (S : ByteArray) (l : Nat) : NoText K neg N S l ∨ (l = 0 ∧ ((∃ v, IsNum K N S v) ∨ (K = 8 ∧ neg = false ∧ S.size = 0))) := by
  unfold NoText IsNum
  rcases Nat.eq_zero_or_pos l with hl | hl
  case inr => exact .inl (.inl hl)
  by_cases h8 : K = 8
  · cases neg with
    | true => exact .inl (.inr ⟨hl, .inl ⟨h8, rfl⟩⟩)
    | false =>
      by_cases hs : S.size = 0
      · exact .inr ⟨hl, .inr ⟨h8, rfl, hs⟩⟩
      · exact .inl (.inr ⟨hl, .inr (.inl ⟨h8, rfl, hs⟩)⟩)
  by_cases h4 : K = 4
  · by_cases hs : S.size = 0
    · exact .inr ⟨hl, .inl ⟨N, .inl ⟨h4, hs, rfl⟩⟩⟩
    · exact .inl (.inr ⟨hl, .inr (.inr (.inl ⟨h4, hs⟩))⟩)
  by_cases h5 : K = 5
  · by_cases hN : N = 0
    · by_cases h9 : S.size ≤ 8
      · exact .inl (.inr ⟨hl, .inr (.inr (.inr (.inr (.inl ⟨h5, hN, h9⟩))))⟩)
      · by_cases hb : 512 < S.size
        · exact .inl (.inr ⟨hl, .inr (.inr (.inr (.inr (.inr (.inl ⟨h5, hN, by omega, hb⟩)))))⟩)
        · obtain ⟨c, hc⟩ : ∃ c, (bts S)[0]? = some c := ⟨_, List.getElem?_eq_getElem (by rw [bts_length]; omega)⟩
          by_cases h0 : c = 0
          · exact .inl (.inr ⟨hl, .inr (.inr (.inr (.inr (.inr (.inr (.inl ⟨h5, hN, by omega, by omega, by rw [hc, h0]⟩))))))⟩)
          · exact .inr ⟨hl, .inl ⟨_, .inr ⟨h5, hN, by omega, by omega, ⟨c, hc, h0⟩, rfl⟩⟩⟩
    · exact .inl (.inr ⟨hl, .inr (.inr (.inr (.inl ⟨h5, hN⟩)))⟩)
  · exact .inl (.inr ⟨hl, .inr (.inr (.inr (.inr (.inr (.inr (.inr ⟨h8, h4, h5⟩))))))⟩)
def sgb (neg : Bool) : List Nat := if neg then [45] else []
def ng (neg : Bool) : Nat := if neg then 1 else 0
theorem limbs_bval {L : List Nat} (h : ∀ c ∈ L, c < 256) (hn : L.length ≤ 512) : (limbs (bval L)).length ≤ 128 := by
  obtain ⟨k, hk⟩ : ∃ k, k = 128 := ⟨_, rfl⟩
  rw [← hk]
  refine limbs_len_le (Nat.lt_of_lt_of_le (bval_lt h) ?_)
  rw [← pow256]
  exact Nat.pow_le_pow_right (by decide) (by omega)
theorem limbs_succ {a n : Nat} (h : (limbs a).length ≤ n) : (limbs (a + 1)).length ≤ n + 1 := by
  have h1 := lt_limbs a
  refine limbs_len_le ?_
  have h2 : 4294967296 ^ (limbs a).length ≤ 4294967296 ^ n := Nat.pow_le_pow_right (by decide) h
  have h3 := Nat.pow_pos (n := n) (show 0 < 4294967296 by decide)
  rw [Nat.pow_succ]
  omega
theorem dec_short {v : Nat} (h : (limbs v).length ≤ 4096) : (dec v).length ≤ 131073 := by
  by_cases h0 : v = 0
  · subst h0
    have : (dec 0).length = 1 := by decide
    omega
  · rw [dec_length h0]
    have := lo_len h
    omega
theorem add_oneA {w1 : World} {v1 : Value} {a : Nat} (hv1 : NatA w1 v1 a) (hl : (limbs (a + 1)).length ≤ 4096) :
    Calls Tryz.prog 24 #[v1, .slice (some ⟨w1.heap.size + 1, 0, none⟩) 1 1] ((w1.alloc (.cells #[.int .u32 1] 53)).alloc (.cells #[.slice (some ⟨w1.heap.size, 0, none⟩) 1 1] 50)) fun e w' => ∃ v', e = .returned (.tuple #[v', .int .i64 0]) ∧ NatV w' v' (a + 1) ∧ Below w1.heap.size w1 w' := by
  have hb1 := below_alloc w1 (.cells #[.int .u32 1] 53)
  have hb2 := below_alloc (w1.alloc (.cells #[.int .u32 1] 53)) (.cells #[.slice (some ⟨w1.heap.size, 0, none⟩) 1 1] 50)
  have hb := below_step hb1 hb2
  have hc : ((w1.alloc (.cells #[.int .u32 1] 53)).alloc (.cells #[.slice (some ⟨w1.heap.size, 0, none⟩) 1 1] 50)).cell? ⟨w1.heap.size + 1, 0, none⟩ = some (.slice (some ⟨w1.heap.size, 0, none⟩) 1 1) := by
    have h := heap_alloc_new (w1.alloc (.cells #[.int .u32 1] 53)) (.cells #[.slice (some ⟨w1.heap.size, 0, none⟩) 1 1] 50)
    rw [World.size_alloc] at h
    exact (cell_of_row _ _ 0 _ _ (0, 0) h).trans rfl
  have h1 : NatA (w1.alloc (.cells #[.int .u32 1] 53)) (.slice (some ⟨w1.heap.size, 0, none⟩) 1 1) 1 := nata_one w1 1 (by decide)
  refine (add_a (hv1.below hb) (h1.below hb2) hc hl).mono ?_
  rintro e w2 ⟨v', rfl, hv, hb3⟩
  exact ⟨v', rfl, hv, below_step hb hb3⟩
set_option maxHeartbeats 8000000 in
set_option maxRecDepth 100000 in
theorem ntext_none (K : Int) (neg : Bool) (N : Nat) (S : ByteArray) (A : Option Addr) (l c : Nat) (w : World) (h : NoText K neg N S l) :
    Calls Tryz.prog 12 #[.agg #[.int .i64 K, .bool neg, .int .u64 (N : Int), .string S, .slice A l c]] w fun e w' => e = .returned (.tuple #[.string ⟨#[]⟩, .int .i64 10]) ∧ Below w.heap.size w w' := by
  have hb0 := below_alloc w (.cells #[.int .i64 K, .bool neg, .int .u64 (N : Int), .string S, .slice A l c] 36)
  rcases h with h | ⟨rfl, ⟨rfl, rfl⟩ | ⟨rfl, rfl, hs⟩ | ⟨rfl, hs⟩ | ⟨rfl, hN⟩ | ⟨rfl, rfl, h8⟩ | ⟨rfl, rfl, h8, h512⟩ | ⟨rfl, rfl, h8, h512, h0⟩ | ⟨n8, n4, n5⟩⟩
  · have hlI : (0 : Int) < (l : Int) := by omega
    clear h
    go_enter Tryz.func12, Tryz.ntmps12
    go_wp2
    go_ret2
    exact ⟨rfl, hb0⟩
  · go_enter Tryz.func12, Tryz.ntmps12
    go_wp2
    go_ret2
    exact ⟨rfl, hb0⟩
  · have hful := full_of hs
    clear hs
    go_enter Tryz.func12, Tryz.ntmps12
    go_wp2
    go_ret2
    exact ⟨rfl, hb0⟩
  · have hful := full_of hs
    clear hs
    go_enter Tryz.func12, Tryz.ntmps12
    go_wp2
    go_ret2
    exact ⟨rfl, hb0⟩
  · have hNI : ((N : Int) == 0) = false := beq_eq_false_iff_ne.2 (by omega)
    clear hN
    go_enter Tryz.func12, Tryz.ntmps12
    go_wp2
    go_ret2
    exact ⟨rfl, hb0⟩
  · have h8I : ¬ (8 : Int) < (S.size : Int) := by omega
    clear h8
    go_enter Tryz.func12, Tryz.ntmps12
    go_wp2
    go_ret2
    exact ⟨rfl, hb0⟩
  · have h8I : (8 : Int) < (S.size : Int) := by omega
    have h5I : ¬ (S.size : Int) ≤ 512 := by omega
    clear h8 h512
    go_enter Tryz.func12, Tryz.ntmps12
    go_wp2
    go_ret2
    exact ⟨rfl, hb0⟩
  · have h8I : (8 : Int) < (S.size : Int) := by omega
    have h5I : (S.size : Int) ≤ 512 := by omega
    have hat := bts_ix h0
    have hs0 : 0 < S.size := by omega
    clear h8 h512 h0
    go_enter Tryz.func12, Tryz.ntmps12
    go_wp2
    go_ret2
    exact ⟨rfl, hb0⟩
  · have m8 : (K == 8) = false := beq_eq_false_iff_ne.2 n8
    have m4 : (K == 4) = false := beq_eq_false_iff_ne.2 n4
    have m5 : (K == 5) = false := beq_eq_false_iff_ne.2 n5
    clear n8 n4 n5
    go_enter Tryz.func12, Tryz.ntmps12
    go_wp2
    go_ret2
    exact ⟨rfl, hb0⟩
set_option maxHeartbeats 8000000 in
set_option maxRecDepth 100000 in
theorem ntext_int (neg : Bool) (N : Nat) (S : ByteArray) (A : Option Addr) (c : Nat) (w : World) (hs : S.size = 0) (hN : N < 18446744073709551616) :
    Calls Tryz.prog 12 #[.agg #[.int .i64 4, .bool neg, .int .u64 (N : Int), .string S, .slice A 0 c]] w fun e w' => ∃ s, e = .returned (.tuple #[.string s, .int .i64 0]) ∧ bts s = sgb neg ++ dec (N + ng neg) ∧ Below w.heap.size w w' := by
  have hb0 := below_alloc w (.cells #[.int .i64 4, .bool neg, .int .u64 (N : Int), .string S, .slice A 0 c] 36)
  have hemp := empty_of hs
  have hc1 : IntKind.u32.wrap (N : Int) = ((N % 4294967296 : Nat) : Int) := by rw [IntKind.wrap_u32]; omega
  have hc2 : IntKind.u32.wrap ((N : Int) / 4294967296) = ((N / 4294967296 : Nat) : Int) := by rw [IntKind.wrap_u32]; omega
  have hl := limbs_two hN
  obtain ⟨W1, hW1⟩ : ∃ W1, w.alloc (.cells #[.int .i64 4, .bool neg, .int .u64 (N : Int), .string S, .slice A 0 c] 36) = W1 := ⟨_, rfl⟩
  have hh := heap_alloc_new w (.cells #[.int .i64 4, .bool neg, .int .u64 (N : Int), .string S, .slice A 0 c] 36)
  have hT := nata_two W1 N hN
  generalize hm1 : N % 4294967296 = m1 at hT hc1
  generalize hm2 : N / 4294967296 = m2 at hT hc2
  clear hm1 hm2
  rw [← hW1, World.size_alloc] at hT
  have bA := below_step hb0 (below_alloc (w.alloc (.cells #[.int .i64 4, .bool neg, .int .u64 (N : Int), .string S, .slice A 0 c] 36)) (.cells #[.int .u32 (m1 : Int), .int .u32 (m2 : Int)] 53))
  have hhA := bk_alloc hh (.cells #[.int .u32 (m1 : Int), .int .u32 (m2 : Int)] 53)
  clear hs hW1 hh
  go_enter Tryz.func12, Tryz.ntmps12
  go_upto_region 14 with fail
  generalize (w.alloc (.cells #[.int .i64 4, .bool neg, .int .u64 (N : Int), .string S, .slice A 0 c] 36)).alloc (.cells #[.int .u32 (m1 : Int), .int .u32 (m2 : Int)] 53) = W2 at hT bA hhA ⊢
  have f1 := (cell_of_row W2 w.heap.size 1 _ _ (0, 0) hhA).trans rfl
  cases neg with
  | false =>
    have kd := digits_calls _ N _ hT (by omega)
    go_wp2_with (go_at_call 22; (with_reducible refine kd.mono ?_); clear kd; rintro e1 w1 ⟨s, rfl, hs, hb1⟩; have hsz : s.size ≤ 131073 := (by rw [← bts_length, hs]; exact dec_short (by omega)))
    go_ret2
    exact ⟨_, rfl, by rw [bts_append, hs]; rfl, below_step bA hb1⟩
  | true =>
    have hl1 := limbs_succ hl
    have ka := add_oneA hT (by omega)
    have kd := fun W V (h : NatV W V (N + 1)) => digits_calls V (N + 1) W (h.a (by omega)) (by omega)
    go_wp2_with (first
      | (go_at_call 24; (with_reducible refine ka.mono ?_); clear ka; rintro e0 w0 ⟨v0, rfl, hv0, hb0'⟩; have kD := kd w0 v0 hv0)
      | (go_at_call 22; (with_reducible refine kD.mono ?_); clear kD; rintro e1 w1 ⟨s, rfl, hs, hb1⟩; have hsz : s.size ≤ 131073 := (by rw [← bts_length, hs]; exact dec_short (by omega))))
    go_ret2
    exact ⟨_, rfl, by rw [bts_append, hs]; rfl, below_step bA (below_step hb0' hb1)⟩
set_option maxHeartbeats 8000000 in
set_option maxRecDepth 100000 in
theorem ntext_big (neg : Bool) (S : ByteArray) (A : Option Addr) (c : Nat) (w : World) (h8 : 8 < S.size) (h512 : S.size ≤ 512) (c0 : Nat) (h0 : (bts S)[0]? = some c0) (hc0 : c0 ≠ 0) :
    Calls Tryz.prog 12 #[.agg #[.int .i64 5, .bool neg, .int .u64 0, .string S, .slice A 0 c]] w fun e w' => ∃ s, e = .returned (.tuple #[.string s, .int .i64 0]) ∧ bts s = sgb neg ++ dec (bval (bts S) + ng neg) ∧ Below w.heap.size w w' := by
  have hb0 := below_alloc w (.cells #[.int .i64 5, .bool neg, .int .u64 0, .string S, .slice A 0 c] 36)
  have hh := heap_alloc_new w (.cells #[.int .i64 5, .bool neg, .int .u64 0, .string S, .slice A 0 c] 36)
  obtain ⟨W1, hW1⟩ : ∃ W1, w.alloc (.cells #[.int .i64 5, .bool neg, .int .u64 0, .string S, .slice A 0 c] 36) = W1 := ⟨_, rfl⟩
  have hs1 : W1.heap.size = w.heap.size + 1 := by rw [← hW1, World.size_alloc]
  rw [hW1] at hb0 hh
  obtain ⟨W2, cap, kb, hC, hcap, hlt, hb2, -⟩ := conv_cb W1 S (by omega)
  have kF := fromBytes_calls W1.heap.size cap (bts S) W2 hlt hC (bts_all S) (by rw [bts_length]; exact h512) (by rw [bts_length]; exact hcap) c0 h0 hc0
  rw [bts_length] at kF
  have hat := bts_ix h0
  have hc0I : (0 : Int) < (c0 : Int) := by omega
  have h8I : (8 : Int) < (S.size : Int) := by omega
  have h5I : (S.size : Int) ≤ 512 := by omega
  have hs0 : 0 < S.size := by omega
  have hl := limbs_bval (bts_all S) (by rw [bts_length]; exact h512)
  have hbA := hb0.trans (hb2.mono (by omega))
  have hhA := bk_below hh hb2
  rw [hs1] at kb kF
  subst hW1
  generalize bval (bts S) = v at *
  clear h0 hc0 h8 h512 hC hcap hlt hb2 hb0 hh hs1
  cases neg with
  | false =>
    have kd := fun W V (h : NatB W V v) => digits_calls V v W h.a (by omega)
    go_enter Tryz.func12, Tryz.ntmps12
    go_wp2_with (first
      | (go_at_call 35; (with_reducible refine kF.mono ?_); clear kF; rintro e0 w0 ⟨v0, rfl, hv0, hb3⟩; have kD := kd w0 v0 hv0; have f1 := (cell_of_row w0 w.heap.size 1 _ _ (0, 0) (bk_below hhA hb3)).trans rfl)
      | (go_at_call 22; (with_reducible refine kD.mono ?_); clear kD; rintro e1 w1 ⟨s, rfl, hs, hb4⟩; have hsz : s.size ≤ 131073 := (by rw [← bts_length, hs]; exact dec_short (by omega))))
    go_ret2
    exact ⟨_, rfl, by rw [bts_append, hs]; rfl, below_step hbA (below_step hb3 hb4)⟩
  | true =>
    have hl1 := limbs_succ hl
    have ka := fun W V (h : NatB W V v) => add_oneA h.a (by omega)
    have kd := fun W V (h : NatV W V (v + 1)) => digits_calls V (v + 1) W (h.a (by omega)) (by omega)
    go_enter Tryz.func12, Tryz.ntmps12
    go_wp2_with (first
      | (go_at_call 35; (with_reducible refine kF.mono ?_); clear kF; rintro e0 w0 ⟨v0, rfl, hv0, hb3⟩; have kA := ka w0 v0 hv0; have f1 := (cell_of_row w0 w.heap.size 1 _ _ (0, 0) (bk_below hhA hb3)).trans rfl)
      | (go_at_call 24; (with_reducible refine kA.mono ?_); clear kA; rintro e2 w2 ⟨v2, rfl, hv2, hb5⟩; have kD := kd w2 v2 hv2)
      | (go_at_call 22; (with_reducible refine kD.mono ?_); clear kD; rintro e1 w1 ⟨s, rfl, hs, hb4⟩; have hsz : s.size ≤ 131073 := (by rw [← bts_length, hs]; exact dec_short (by omega))))
    go_ret2
    exact ⟨_, rfl, by rw [bts_append, hs]; rfl, below_step hbA (below_step hb3 (below_step hb5 hb4))⟩
theorem text_bad (x : Nat) (w : World) (hx : x < 18446744073709551616) (h : fe x = 2047) :
    Calls Tryz.prog 9 #[.int .u64 (x : Int)] w fun e w' => e = .returned (.tuple #[.string ⟨#[]⟩, .int .i64 1]) ∧ Below w.heap.size w w' := by
  have k1 := shortest_bad x w hx h
  clear h
  go_enter Tryz.func9, Tryz.ntmps9
  go_wp2_with (go_at_call 7; (with_reducible refine k1.mono ?_); clear k1; rintro e1 w1 ⟨rfl, hb1⟩)
  go_ret2
  exact ⟨rfl, hb1⟩
set_option maxHeartbeats 8000000 in
set_option maxRecDepth 100000 in
theorem ntext_bad (N : Nat) (S : ByteArray) (A : Option Addr) (c : Nat) (w : World) (hs : S.size = 0) (hN : N < 18446744073709551616) (h : fe N = 2047) :
    Calls Tryz.prog 12 #[.agg #[.int .i64 8, .bool false, .int .u64 (N : Int), .string S, .slice A 0 c]] w fun e w' => e = .returned (.tuple #[.string ⟨#[]⟩, .int .i64 10]) ∧ Below w.heap.size w w' := by
  have hb0 := below_alloc w (.cells #[.int .i64 8, .bool false, .int .u64 (N : Int), .string S, .slice A 0 c] 36)
  have hemp := empty_of hs
  have kt := fun W => text_bad N W hN h
  clear hs h
  go_enter Tryz.func12, Tryz.ntmps12
  go_wp2_with (go_at_call 9; (with_reducible refine (kt _).mono ?_); clear kt; rintro e1 w1 ⟨rfl, hb1⟩)
  go_ret2
  exact ⟨rfl, below_step hb0 hb1⟩
set_option maxHeartbeats 8000000 in
set_option maxRecDepth 100000 in
theorem ntext_fl (N : Nat) (S : ByteArray) (A : Option Addr) (c : Nat) (w : World) (hs : S.size = 0) (hN : N < 18446744073709551616) (h : fe N ≠ 2047) (T : Lib.TabIs Tryz.prog w "internal/strconv.uint64pow10" .u64 Lib.pow10Tab) :
    Calls Tryz.prog 12 #[.agg #[.int .i64 8, .bool false, .int .u64 (N : Int), .string S, .slice A 0 c]] w fun en w' => ∃ (S' : ByteArray) (d : List Nat) (e : Int), en = .returned (.tuple #[.string S', .int .i64 0]) ∧ bts S' = sgl N ++ lay d e ∧ Digs N d e ∧ Below w.heap.size w w' := by
  have hb0 := below_alloc w (.cells #[.int .i64 8, .bool false, .int .u64 (N : Int), .string S, .slice A 0 c] 36)
  have hemp := empty_of hs
  have kt := text_calls N _ hN h (Lib.tabBelow_of_tabIs T _ hb0)
  clear hs h T
  go_enter Tryz.func12, Tryz.ntmps12
  go_wp2_with (go_at_call 9; (with_reducible refine kt.mono ?_); clear kt; rintro e1 w1 ⟨S', d, e, rfl, hS, hd, hb1⟩)
  go_ret2
  exact ⟨S', d, e, rfl, hS, hd, below_step hb0 hb1⟩
end Go.Proofs.YtffncomekbfihaaGreatDoor.Nat
namespace Go.Proofs.YtffncomekbfihaaGreatDoor.Nat
open Go.RowKit Go.Shelf
set_option linter.unusedVariables false
set_option linter.unusedSimpArgs false
/-- a number's eight bytes -/
def b8 (N : Nat) : List Nat := [N / 72057594037927936 % 256, N / 281474976710656 % 256, N / 1099511627776 % 256, N / 4294967296 % 256, N / 16777216 % 256, N / 65536 % 256, N / 256 % 256, N % 256]
theorem b8_val {N : Nat} (h : N < 18446744073709551616) : bval (b8 N) = N := by
  simp only [b8, bval, List.length_cons, List.length_nil, Nat.reduceAdd, Nat.reducePow]
  omega
theorem b8_lt (N : Nat) : ∀ c ∈ b8 N, c < 256 := fun c hc => by
  simp only [b8, List.mem_cons, List.not_mem_nil, or_false] at hc
  omega
theorem bv_take (L : List Nat) (i c : Nat) (h : L[i]? = some c) : bv (L.take i) ++ [Value.int .u8 (c : Int)] = bv (L.take (i + 1)) := by
  rw [List.take_add_one, h]
  unfold bv
  rw [List.map_append]
  rfl
theorem natb_sl {w : World} {V : Value} {v : Nat} (h : NatB w V v) : ∃ A l k, V = .slice A l k := by
  obtain ⟨A, l, c, e, _⟩ := h
  exact ⟨A, _, c, e⟩
theorem cb_own {w : World} {B g cap n : Nat} {L : List Nat} (h : OwnT w B 5 (.slice (some ⟨g, 0, none⟩) n cap) n (bv L)) : CB w g L := fun j c hc => h.cells j _ (bv_get hc)
theorem own_in {w : World} {B n : Nat} {e : TypeId} {v : Value} {xs : List Value} (h : OwnT w B e v n xs) : ∃ g cap, v = .slice (some ⟨g, 0, none⟩) n cap ∧ B ≤ g ∧ g < w.heap.size ∧ n ≤ cap ∧ cap ≤ maxLen := by
  obtain ⟨_, g, cap, cur, fz, rfl, hb, hg, _, hc, hm, _⟩ := h
  exact ⟨g, cap, rfl, hb, (Array.getElem?_eq_some_iff.1 hg).1, hc, hm⟩
theorem ownT_grown {w : World} {B n : Nat} {e : TypeId} {v : Value} {xs : List Value} (h : OwnT w B e v n xs) (o : Obj) : OwnT (w.alloc o) B e v n xs := by
  obtain ⟨h1, g, cap, cur, fz, rfl, hb, hg, h2⟩ := h
  exact ⟨h1, g, cap, cur, fz, rfl, hb, (World.grownBy_alloc w o none).block g (Array.getElem?_eq_some_iff.1 hg).1 (by simp) |>.trans hg, h2⟩
set_option maxHeartbeats 8000000 in
set_option maxRecDepth 100000 in
theorem rdig_int (neg : Bool) (N : Nat) (S : ByteArray) (A : Option Addr) (c : Nat) (w : World) (hs : S.size = 0) (hN : N < 18446744073709551616) :
    Calls Tryz.prog 36 #[.agg #[.int .i64 4, .bool neg, .int .u64 (N : Int), .string S, .slice A 0 c]] w fun e w' => ∃ s, e = .returned (.string s) ∧ bts s = sgb neg ++ dec (N + ng neg) ∧ Below w.heap.size w w' := by
  obtain ⟨i0, hi, hz0, hz1, hz2⟩ := info_parts info5
  have hb0 := below_alloc w (.cells #[.int .i64 4, .bool neg, .int .u64 (N : Int), .string S, .slice A 0 c] 36)
  have hh := heap_alloc_new w (.cells #[.int .i64 4, .bool neg, .int .u64 (N : Int), .string S, .slice A 0 c] 36)
  obtain ⟨W1, hW1⟩ : ∃ W1, w.alloc (.cells #[.int .i64 4, .bool neg, .int .u64 (N : Int), .string S, .slice A 0 c] 36) = W1 := ⟨_, rfl⟩
  have hs1 : W1.heap.size = w.heap.size + 1 := by rw [← hW1, World.size_alloc]
  rw [hW1] at hb0 hh
  obtain ⟨W2, cap, kb, -, -, hlt, hb2, hO⟩ := conv_cb W1 S (by omega)
  have hbS : bts S = [] := List.eq_nil_of_length_eq_zero (by rw [bts_length]; exact hs)
  rw [hbS, hs] at hO
  rw [hs] at kb
  have hO0 : OwnT W2 W1.heap.size 5 (.slice (some ⟨W1.heap.size, 0, none⟩) 0 cap) 0 (bv ((b8 N).take 0)) := hO
  rw [hs1] at kb hO0
  have hbW := hb2
  rw [hs1] at hbW
  have HH : Hid _ := Lib.hid (And.intro hb0 (And.intro hh (And.intro hs1 hN)))
  have hb8 := b8_val hN
  have hl := limbs_two hN
  subst hW1
  clear hO hb2 hb0 hh hs1 hbS hs
  go_enter Tryz.func36, Tryz.ntmps36
  go_wp2
  go_loopg [4, 3] 8 (fun kq v4 v3 wr => ∃ i : Nat, v4 = .int .i64 (56 - 8 * (i : Int)) ∧ i + kq = 8 ∧ OwnT wr (w.heap.size + 1) 5 v3 i (bv ((b8 N).take i)) ∧ Below (w.heap.size + 1) (w.alloc (.cells #[.int .i64 4, .bool neg, .int .u64 (N : Int), .string S, .slice A 0 c] 36)) wr)
  case atStart => exact ⟨0, rfl, rfl, hO0, hbW⟩
  case round =>
    clear hO0 hbW
    obtain ⟨i, rfl, hi8, hO, hb⟩ := hrel
    have hrow : wr.heap[w.heap.size]? = some (.cells #[.int .i64 4, .bool neg, .int .u64 (N : Int), .string S, .slice A 0 c] 36 (0, 0)) := (hb.block w.heap.size (Nat.lt_succ_self _)).trans HH.out.2.1
    have f0 := (cell_of_row wr w.heap.size 0 _ _ (0, 0) hrow).trans rfl
    have f1 := (cell_of_row wr w.heap.size 1 _ _ (0, 0) hrow).trans rfl
    have f2 := (cell_of_row wr w.heap.size 2 _ _ (0, 0) hrow).trans rfl
    have hbr := HH.out.1.trans (hb.mono (Nat.le_succ _))
    obtain ⟨g, cap3, rfl, hg1, hg2, hg3, hg4⟩ := own_in hO
    cases gk with
    | zero =>
      obtain rfl : i = 8 := by omega
      have hCB : CB wr g (b8 N) := cb_own hO
      have kF := rfromBytes_calls g cap3 (b8 N) wr hg2 hCB (b8_lt N) (by show 8 ≤ 512; decide) hg3 (by unfold maxLen at hg4; omega)
      rw [hb8] at kF
      have kF2 : Calls Tryz.prog 82 #[.slice (some ⟨g, 0, none⟩) 8 cap3] wr fun e w' => ∃ v', e = .returned (.tuple #[v', .int .i64 0]) ∧ NatB w' v' N ∧ Below wr.heap.size wr w' := kF
      rw [show (56 : Int) - 8 * ((8 : Nat) : Int) = -8 from by decide]
      clear kF hCB hO hb hg1 hg2 hg3 hg4 kb hb8
      cases neg with
      | false =>
        have kd := fun W V (h : NatB W V N) => rdigits_calls V N W h.a (by omega)
        go_wp2_with (first
          | (go_at_call 82; (with_reducible refine kF2.mono ?_); clear kF2; rintro e0 w0 ⟨v0, rfl, hv0, hb3⟩; have kD := kd w0 v0 hv0; have f1 := (cell_of_row w0 w.heap.size 1 _ _ (0, 0) (bk_below hrow hb3)).trans rfl)
          | (go_at_call 81; (with_reducible refine kD.mono ?_); clear kD; rintro e1 w1 ⟨s, rfl, hs, hb4⟩))
        go_ret
        exact ⟨s, rfl, hs, below_step hbr (below_step hb3 hb4)⟩
      | true =>
        have hl1 := limbs_succ hl
        have ka := fun W V (h : NatB W V N) => radd_two h (by omega) (by omega)
        have kd := fun W V (h : OwnN W V (N + 1)) => rdigits_calls V (N + 1) W (h.b (by omega)).a (by omega)
        go_wp2_with (first
          | (go_at_call 82; (with_reducible refine kF2.mono ?_); clear kF2; rintro e0 w0 ⟨v0, rfl, hv0, hb3⟩; obtain ⟨A0, l0, q0, rfl⟩ := natb_sl hv0; have kA := ka w0 _ hv0; have f1 := (cell_of_row w0 w.heap.size 1 _ _ (0, 0) (bk_below hrow hb3)).trans rfl)
          | (go_at_call 83; (with_reducible refine kA.mono ?_); clear kA; rintro e2 w2 ⟨v2, rfl, hv2, hb5⟩; have kD := kd w2 v2 hv2)
          | (go_at_call 81; (with_reducible refine kD.mono ?_); clear kD; rintro e1 w1 ⟨s, rfl, hs, hb4⟩; have hsz : s.size ≤ 131073 := (by rw [← bts_length, hs]; exact dec_short (by omega))))
        go_ret
        exact ⟨_, rfl, by rw [bts_append, hs]; rfl, below_step hbr (below_step hb3 (below_step hb5 hb4))⟩
    | succ d =>
      rcases (show i = 0 ∨ i = 1 ∨ i = 2 ∨ i = 3 ∨ i = 4 ∨ i = 5 ∨ i = 6 ∨ i = 7 by omega) with rfl | rfl | rfl | rfl | rfl | rfl | rfl | rfl
      · obtain ⟨C, hC⟩ : ∃ C, N / 72057594037927936 % 256 = C := ⟨_, rfl⟩
        have hcx : (b8 N)[0]? = some C := by rw [← hC]; rfl
        have hcI : IntKind.u8.wrap ((N : Int) / 72057594037927936) = (C : Int) := by rw [IntKind.wrap_u8]; omega
        have hcJ : (N : Int) / 72057594037927936 % 256 = (C : Int) := by omega
        have hbt := bv_take (b8 N) 0 C hcx
        have hO2 := ownT_grown hO (.cells #[.int .u8 (C : Int)] 5)
        have hb2 := hb.alloc (by have := HH.out.2.2.1; have := hb.size; omega) (.cells #[.int .u8 (C : Int)] 5)
        have hbs := hb.size
        rw [HH.out.2.2.1] at hbs
        rw [show (56 : Int) - 8 * ((0 : Nat) : Int) = 56 from by decide]
        clear hC hcx hrow hbr
        go_wp2_with (at_builtin; refine wpList_append_T _ rfl _ _ 73 rfl (w.heap.size + 1) 5 i0 (.int .u8 0) 1 Tryz.underlying73 hi hz0 hz1 hz2 rfl _ _ _ rfl hO2 ⟨wr.heap.size, 0, none⟩ 1 (.int .u8 (C : Int)) rfl (cell_one_new _ _ _ 0 _ rfl) rfl (by unfold maxLen; omega) (by omega) (by rw [World.size_alloc]; omega) ?_; intro v' w9 hown9 hgrow9; have hb9 := hb2.grown hgrow9 (by rw [World.size_alloc]; omega) (fun k hk => by cases hk; exact hg1))
        go_roundg d
        case rel => exact ⟨1, congrArg (Value.int .i64) (by decide : (48 : Int) = 56 - 8 * ((1 : Nat) : Int)), by omega, by rw [← hbt]; exact hown9, hb9⟩
        case measure => omega
      · obtain ⟨C, hC⟩ : ∃ C, N / 281474976710656 % 256 = C := ⟨_, rfl⟩
        have hcx : (b8 N)[1]? = some C := by rw [← hC]; rfl
        have hcI : IntKind.u8.wrap ((N : Int) / 281474976710656) = (C : Int) := by rw [IntKind.wrap_u8]; omega
        have hcJ : (N : Int) / 281474976710656 % 256 = (C : Int) := by omega
        have hbt := bv_take (b8 N) 1 C hcx
        have hO2 := ownT_grown hO (.cells #[.int .u8 (C : Int)] 5)
        have hb2 := hb.alloc (by have := HH.out.2.2.1; have := hb.size; omega) (.cells #[.int .u8 (C : Int)] 5)
        have hbs := hb.size
        rw [HH.out.2.2.1] at hbs
        rw [show (56 : Int) - 8 * ((1 : Nat) : Int) = 48 from by decide]
        clear hC hcx hrow hbr
        go_wp2_with (at_builtin; refine wpList_append_T _ rfl _ _ 73 rfl (w.heap.size + 1) 5 i0 (.int .u8 0) 1 Tryz.underlying73 hi hz0 hz1 hz2 rfl _ _ _ rfl hO2 ⟨wr.heap.size, 0, none⟩ 1 (.int .u8 (C : Int)) rfl (cell_one_new _ _ _ 0 _ rfl) rfl (by unfold maxLen; omega) (by omega) (by rw [World.size_alloc]; omega) ?_; intro v' w9 hown9 hgrow9; have hb9 := hb2.grown hgrow9 (by rw [World.size_alloc]; omega) (fun k hk => by cases hk; exact hg1))
        go_roundg d
        case rel => exact ⟨2, congrArg (Value.int .i64) (by decide : (40 : Int) = 56 - 8 * ((2 : Nat) : Int)), by omega, by rw [← hbt]; exact hown9, hb9⟩
        case measure => omega
      · obtain ⟨C, hC⟩ : ∃ C, N / 1099511627776 % 256 = C := ⟨_, rfl⟩
        have hcx : (b8 N)[2]? = some C := by rw [← hC]; rfl
        have hcI : IntKind.u8.wrap ((N : Int) / 1099511627776) = (C : Int) := by rw [IntKind.wrap_u8]; omega
        have hcJ : (N : Int) / 1099511627776 % 256 = (C : Int) := by omega
        have hbt := bv_take (b8 N) 2 C hcx
        have hO2 := ownT_grown hO (.cells #[.int .u8 (C : Int)] 5)
        have hb2 := hb.alloc (by have := HH.out.2.2.1; have := hb.size; omega) (.cells #[.int .u8 (C : Int)] 5)
        have hbs := hb.size
        rw [HH.out.2.2.1] at hbs
        rw [show (56 : Int) - 8 * ((2 : Nat) : Int) = 40 from by decide]
        clear hC hcx hrow hbr
        go_wp2_with (at_builtin; refine wpList_append_T _ rfl _ _ 73 rfl (w.heap.size + 1) 5 i0 (.int .u8 0) 1 Tryz.underlying73 hi hz0 hz1 hz2 rfl _ _ _ rfl hO2 ⟨wr.heap.size, 0, none⟩ 1 (.int .u8 (C : Int)) rfl (cell_one_new _ _ _ 0 _ rfl) rfl (by unfold maxLen; omega) (by omega) (by rw [World.size_alloc]; omega) ?_; intro v' w9 hown9 hgrow9; have hb9 := hb2.grown hgrow9 (by rw [World.size_alloc]; omega) (fun k hk => by cases hk; exact hg1))
        go_roundg d
        case rel => exact ⟨3, congrArg (Value.int .i64) (by decide : (32 : Int) = 56 - 8 * ((3 : Nat) : Int)), by omega, by rw [← hbt]; exact hown9, hb9⟩
        case measure => omega
      · obtain ⟨C, hC⟩ : ∃ C, N / 4294967296 % 256 = C := ⟨_, rfl⟩
        have hcx : (b8 N)[3]? = some C := by rw [← hC]; rfl
        have hcI : IntKind.u8.wrap ((N : Int) / 4294967296) = (C : Int) := by rw [IntKind.wrap_u8]; omega
        have hcJ : (N : Int) / 4294967296 % 256 = (C : Int) := by omega
        have hbt := bv_take (b8 N) 3 C hcx
        have hO2 := ownT_grown hO (.cells #[.int .u8 (C : Int)] 5)
        have hb2 := hb.alloc (by have := HH.out.2.2.1; have := hb.size; omega) (.cells #[.int .u8 (C : Int)] 5)
        have hbs := hb.size
        rw [HH.out.2.2.1] at hbs
        rw [show (56 : Int) - 8 * ((3 : Nat) : Int) = 32 from by decide]
        clear hC hcx hrow hbr
        go_wp2_with (at_builtin; refine wpList_append_T _ rfl _ _ 73 rfl (w.heap.size + 1) 5 i0 (.int .u8 0) 1 Tryz.underlying73 hi hz0 hz1 hz2 rfl _ _ _ rfl hO2 ⟨wr.heap.size, 0, none⟩ 1 (.int .u8 (C : Int)) rfl (cell_one_new _ _ _ 0 _ rfl) rfl (by unfold maxLen; omega) (by omega) (by rw [World.size_alloc]; omega) ?_; intro v' w9 hown9 hgrow9; have hb9 := hb2.grown hgrow9 (by rw [World.size_alloc]; omega) (fun k hk => by cases hk; exact hg1))
        go_roundg d
        case rel => exact ⟨4, congrArg (Value.int .i64) (by decide : (24 : Int) = 56 - 8 * ((4 : Nat) : Int)), by omega, by rw [← hbt]; exact hown9, hb9⟩
        case measure => omega
      · obtain ⟨C, hC⟩ : ∃ C, N / 16777216 % 256 = C := ⟨_, rfl⟩
        have hcx : (b8 N)[4]? = some C := by rw [← hC]; rfl
        have hcI : IntKind.u8.wrap ((N : Int) / 16777216) = (C : Int) := by rw [IntKind.wrap_u8]; omega
        have hcJ : (N : Int) / 16777216 % 256 = (C : Int) := by omega
        have hbt := bv_take (b8 N) 4 C hcx
        have hO2 := ownT_grown hO (.cells #[.int .u8 (C : Int)] 5)
        have hb2 := hb.alloc (by have := HH.out.2.2.1; have := hb.size; omega) (.cells #[.int .u8 (C : Int)] 5)
        have hbs := hb.size
        rw [HH.out.2.2.1] at hbs
        rw [show (56 : Int) - 8 * ((4 : Nat) : Int) = 24 from by decide]
        clear hC hcx hrow hbr
        go_wp2_with (at_builtin; refine wpList_append_T _ rfl _ _ 73 rfl (w.heap.size + 1) 5 i0 (.int .u8 0) 1 Tryz.underlying73 hi hz0 hz1 hz2 rfl _ _ _ rfl hO2 ⟨wr.heap.size, 0, none⟩ 1 (.int .u8 (C : Int)) rfl (cell_one_new _ _ _ 0 _ rfl) rfl (by unfold maxLen; omega) (by omega) (by rw [World.size_alloc]; omega) ?_; intro v' w9 hown9 hgrow9; have hb9 := hb2.grown hgrow9 (by rw [World.size_alloc]; omega) (fun k hk => by cases hk; exact hg1))
        go_roundg d
        case rel => exact ⟨5, congrArg (Value.int .i64) (by decide : (16 : Int) = 56 - 8 * ((5 : Nat) : Int)), by omega, by rw [← hbt]; exact hown9, hb9⟩
        case measure => omega
      · obtain ⟨C, hC⟩ : ∃ C, N / 65536 % 256 = C := ⟨_, rfl⟩
        have hcx : (b8 N)[5]? = some C := by rw [← hC]; rfl
        have hcI : IntKind.u8.wrap ((N : Int) / 65536) = (C : Int) := by rw [IntKind.wrap_u8]; omega
        have hcJ : (N : Int) / 65536 % 256 = (C : Int) := by omega
        have hbt := bv_take (b8 N) 5 C hcx
        have hO2 := ownT_grown hO (.cells #[.int .u8 (C : Int)] 5)
        have hb2 := hb.alloc (by have := HH.out.2.2.1; have := hb.size; omega) (.cells #[.int .u8 (C : Int)] 5)
        have hbs := hb.size
        rw [HH.out.2.2.1] at hbs
        rw [show (56 : Int) - 8 * ((5 : Nat) : Int) = 16 from by decide]
        clear hC hcx hrow hbr
        go_wp2_with (at_builtin; refine wpList_append_T _ rfl _ _ 73 rfl (w.heap.size + 1) 5 i0 (.int .u8 0) 1 Tryz.underlying73 hi hz0 hz1 hz2 rfl _ _ _ rfl hO2 ⟨wr.heap.size, 0, none⟩ 1 (.int .u8 (C : Int)) rfl (cell_one_new _ _ _ 0 _ rfl) rfl (by unfold maxLen; omega) (by omega) (by rw [World.size_alloc]; omega) ?_; intro v' w9 hown9 hgrow9; have hb9 := hb2.grown hgrow9 (by rw [World.size_alloc]; omega) (fun k hk => by cases hk; exact hg1))
        go_roundg d
        case rel => exact ⟨6, congrArg (Value.int .i64) (by decide : (8 : Int) = 56 - 8 * ((6 : Nat) : Int)), by omega, by rw [← hbt]; exact hown9, hb9⟩
        case measure => omega
      · obtain ⟨C, hC⟩ : ∃ C, N / 256 % 256 = C := ⟨_, rfl⟩
        have hcx : (b8 N)[6]? = some C := by rw [← hC]; rfl
        have hcI : IntKind.u8.wrap ((N : Int) / 256) = (C : Int) := by rw [IntKind.wrap_u8]; omega
        have hcJ : (N : Int) / 256 % 256 = (C : Int) := by omega
        have hbt := bv_take (b8 N) 6 C hcx
        have hO2 := ownT_grown hO (.cells #[.int .u8 (C : Int)] 5)
        have hb2 := hb.alloc (by have := HH.out.2.2.1; have := hb.size; omega) (.cells #[.int .u8 (C : Int)] 5)
        have hbs := hb.size
        rw [HH.out.2.2.1] at hbs
        rw [show (56 : Int) - 8 * ((6 : Nat) : Int) = 8 from by decide]
        clear hC hcx hrow hbr
        go_wp2_with (at_builtin; refine wpList_append_T _ rfl _ _ 73 rfl (w.heap.size + 1) 5 i0 (.int .u8 0) 1 Tryz.underlying73 hi hz0 hz1 hz2 rfl _ _ _ rfl hO2 ⟨wr.heap.size, 0, none⟩ 1 (.int .u8 (C : Int)) rfl (cell_one_new _ _ _ 0 _ rfl) rfl (by unfold maxLen; omega) (by omega) (by rw [World.size_alloc]; omega) ?_; intro v' w9 hown9 hgrow9; have hb9 := hb2.grown hgrow9 (by rw [World.size_alloc]; omega) (fun k hk => by cases hk; exact hg1))
        go_roundg d
        case rel => exact ⟨7, congrArg (Value.int .i64) (by decide : (0 : Int) = 56 - 8 * ((7 : Nat) : Int)), by omega, by rw [← hbt]; exact hown9, hb9⟩
        case measure => omega
      · obtain ⟨C, hC⟩ : ∃ C, N % 256 = C := ⟨_, rfl⟩
        have hcx : (b8 N)[7]? = some C := by rw [← hC]; rfl
        have hcI : IntKind.u8.wrap ((N : Int)) = (C : Int) := by rw [IntKind.wrap_u8]; omega
        have hcJ : (N : Int) % 256 = (C : Int) := by omega
        have hbt := bv_take (b8 N) 7 C hcx
        have hO2 := ownT_grown hO (.cells #[.int .u8 (C : Int)] 5)
        have hb2 := hb.alloc (by have := HH.out.2.2.1; have := hb.size; omega) (.cells #[.int .u8 (C : Int)] 5)
        have hbs := hb.size
        rw [HH.out.2.2.1] at hbs
        rw [show (56 : Int) - 8 * ((7 : Nat) : Int) = 0 from by decide]
        clear hC hcx hrow hbr
        go_wp2_with (at_builtin; refine wpList_append_T _ rfl _ _ 73 rfl (w.heap.size + 1) 5 i0 (.int .u8 0) 1 Tryz.underlying73 hi hz0 hz1 hz2 rfl _ _ _ rfl hO2 ⟨wr.heap.size, 0, none⟩ 1 (.int .u8 (C : Int)) rfl (cell_one_new _ _ _ 0 _ rfl) rfl (by unfold maxLen; omega) (by omega) (by rw [World.size_alloc]; omega) ?_; intro v' w9 hown9 hgrow9; have hb9 := hb2.grown hgrow9 (by rw [World.size_alloc]; omega) (fun k hk => by cases hk; exact hg1))
        go_roundg d
        case rel => exact ⟨8, congrArg (Value.int .i64) (by decide : (-8 : Int) = 56 - 8 * ((8 : Nat) : Int)), by omega, by rw [← hbt]; exact hown9, hb9⟩
        case measure => omega
set_option maxHeartbeats 8000000 in
set_option maxRecDepth 100000 in
theorem rdig_big (neg : Bool) (S : ByteArray) (A : Option Addr) (c : Nat) (w : World) (h512 : S.size ≤ 512) :
    Calls Tryz.prog 36 #[.agg #[.int .i64 5, .bool neg, .int .u64 0, .string S, .slice A 0 c]] w fun e w' => ∃ s, e = .returned (.string s) ∧ bts s = sgb neg ++ dec (bval (bts S) + ng neg) ∧ Below w.heap.size w w' := by
  have hb0 := below_alloc w (.cells #[.int .i64 5, .bool neg, .int .u64 0, .string S, .slice A 0 c] 36)
  have hh := heap_alloc_new w (.cells #[.int .i64 5, .bool neg, .int .u64 0, .string S, .slice A 0 c] 36)
  obtain ⟨W1, hW1⟩ : ∃ W1, w.alloc (.cells #[.int .i64 5, .bool neg, .int .u64 0, .string S, .slice A 0 c] 36) = W1 := ⟨_, rfl⟩
  have hs1 : W1.heap.size = w.heap.size + 1 := by rw [← hW1, World.size_alloc]
  rw [hW1] at hb0 hh
  obtain ⟨W2, cap, kb, hC, hcap, hlt, hb2, hO⟩ := conv_cb W1 S (by omega)
  obtain ⟨_, _, e4, _, _, _, hcm⟩ := own_in hO
  cases e4
  have kF := rfromBytes_calls W1.heap.size cap (bts S) W2 hlt hC (bts_all S) (by rw [bts_length]; exact h512) (by rw [bts_length]; exact hcap) (by unfold maxLen at hcm; omega)
  rw [bts_length] at kF
  have hl := limbs_bval (bts_all S) (by rw [bts_length]; exact h512)
  have hbA := hb0.trans (hb2.mono (by omega))
  have hhA := bk_below hh hb2
  have f0 := (cell_of_row W2 w.heap.size 0 _ _ (0, 0) hhA).trans rfl
  rw [hs1] at kb kF
  subst hW1
  generalize bval (bts S) = v at *
  clear h512 hC hcap hlt hb2 hb0 hh hs1 hO hcm
  go_enter Tryz.func36, Tryz.ntmps36
  go_wp2
  obtain ⟨K, HK⟩ : ∃ K, Hid (K = 0) := ⟨0, Lib.hid rfl⟩
  go_loopg [4, 3] K (fun kq v4 v3 wr => kq = 0 ∧ v4 = .int .i64 56 ∧ v3 = .slice (some ⟨w.heap.size + 1, 0, none⟩) S.size cap ∧ wr = W2)
  case atStart => exact ⟨HK.out, rfl, rfl, rfl⟩
  case round =>
    obtain ⟨hk0, rfl, rfl, rfl⟩ := hrel
    subst hk0
    cases neg with
    | false =>
      have kd := fun W V (h : NatB W V v) => rdigits_calls V v W h.a (by omega)
      go_wp2_with (first
        | (go_at_call 82; (with_reducible refine kF.mono ?_); clear kF; rintro e0 w0 ⟨v0, rfl, hv0, hb3⟩; have kD := kd w0 v0 hv0; have f1 := (cell_of_row w0 w.heap.size 1 _ _ (0, 0) (bk_below hhA hb3)).trans rfl)
        | (go_at_call 81; (with_reducible refine kD.mono ?_); clear kD; rintro e1 w1 ⟨s, rfl, hs, hb4⟩))
      go_ret
      exact ⟨s, rfl, hs, below_step hbA (below_step hb3 hb4)⟩
    | true =>
      have hl1 := limbs_succ hl
      have ka := fun W V (h : NatB W V v) => radd_two h (by omega) (by omega)
      have kd := fun W V (h : OwnN W V (v + 1)) => rdigits_calls V (v + 1) W (h.b (by omega)).a (by omega)
      go_wp2_with (first
        | (go_at_call 82; (with_reducible refine kF.mono ?_); clear kF; rintro e0 w0 ⟨v0, rfl, hv0, hb3⟩; obtain ⟨A0, l0, q0, rfl⟩ := natb_sl hv0; have kA := ka w0 _ hv0; have f1 := (cell_of_row w0 w.heap.size 1 _ _ (0, 0) (bk_below hhA hb3)).trans rfl)
        | (go_at_call 83; (with_reducible refine kA.mono ?_); clear kA; rintro e2 w2 ⟨v2, rfl, hv2, hb5⟩; have kD := kd w2 v2 hv2)
        | (go_at_call 81; (with_reducible refine kD.mono ?_); clear kD; rintro e1 w1 ⟨s, rfl, hs, hb4⟩; have hsz : s.size ≤ 131073 := (by rw [← bts_length, hs]; exact dec_short (by omega))))
      go_ret
      exact ⟨_, rfl, by rw [bts_append, hs]; rfl, below_step hbA (below_step hb3 (below_step hb5 hb4))⟩
set_option maxHeartbeats 8000000 in
set_option maxRecDepth 100000 in
theorem rtx_none (K : Int) (neg : Bool) (N : Nat) (S : ByteArray) (A : Option Addr) (l c : Nat) (w : World) (h : NoText K neg N S l) :
    Calls Tryz.prog 13 #[.agg #[.int .i64 K, .bool neg, .int .u64 (N : Int), .string S, .slice A l c]] w fun e w' => e = .returned (.tuple #[.string ⟨#[]⟩, .int .i64 10]) ∧ Below w.heap.size w w' := by
  have hb0 := below_alloc w (.cells #[.int .i64 K, .bool neg, .int .u64 (N : Int), .string S, .slice A l c] 36)
  rcases h with h | ⟨rfl, ⟨rfl, rfl⟩ | ⟨rfl, rfl, hs⟩ | ⟨rfl, hs⟩ | ⟨rfl, hN⟩ | ⟨rfl, rfl, h8⟩ | ⟨rfl, rfl, h8, h512⟩ | ⟨rfl, rfl, h8, h512, h0⟩ | ⟨n8, n4, n5⟩⟩
  · have hlI : ((l : Int) != 0) = true := bne_iff_ne.2 (by omega)
    clear h
    go_enter Tryz.func13, Tryz.ntmps13
    go_wp2
    go_ret2
    exact ⟨rfl, hb0⟩
  · by_cases hs : S.size = 0
    · have hemp := empty_of hs
      clear hs
      go_enter Tryz.func13, Tryz.ntmps13
      go_wp2
      go_ret2
      exact ⟨rfl, hb0⟩
    · have hful := full_of hs
      clear hs
      go_enter Tryz.func13, Tryz.ntmps13
      go_wp2
      go_ret2
      exact ⟨rfl, hb0⟩
  · have hful := full_of hs
    clear hs
    go_enter Tryz.func13, Tryz.ntmps13
    go_wp2
    go_ret2
    exact ⟨rfl, hb0⟩
  · have hful := full_of hs
    clear hs
    go_enter Tryz.func13, Tryz.ntmps13
    go_wp2
    go_ret2
    exact ⟨rfl, hb0⟩
  · have hNI : ((N : Int) == 0) = false := beq_eq_false_iff_ne.2 (by omega)
    clear hN
    go_enter Tryz.func13, Tryz.ntmps13
    go_wp2
    go_ret2
    exact ⟨rfl, hb0⟩
  · have h8I : ¬ (8 : Int) < (S.size : Int) := by omega
    clear h8
    go_enter Tryz.func13, Tryz.ntmps13
    go_wp2
    go_ret2
    exact ⟨rfl, hb0⟩
  · have h8I : (8 : Int) < (S.size : Int) := by omega
    have h5I : ¬ (S.size : Int) ≤ 512 := by omega
    clear h8 h512
    go_enter Tryz.func13, Tryz.ntmps13
    go_wp2
    go_ret2
    exact ⟨rfl, hb0⟩
  · have h8I : (8 : Int) < (S.size : Int) := by omega
    have h5I : (S.size : Int) ≤ 512 := by omega
    have hat := bts_ix h0
    have hs0 : 0 < S.size := by omega
    clear h8 h512 h0
    go_enter Tryz.func13, Tryz.ntmps13
    go_wp2
    go_ret2
    exact ⟨rfl, hb0⟩
  · have m8 : (K == 8) = false := beq_eq_false_iff_ne.2 n8
    have m4 : (K == 4) = false := beq_eq_false_iff_ne.2 n4
    have m5 : (K == 5) = false := beq_eq_false_iff_ne.2 n5
    clear n8 n4 n5
    go_enter Tryz.func13, Tryz.ntmps13
    go_wp2
    go_ret2
    exact ⟨rfl, hb0⟩
set_option maxHeartbeats 8000000 in
set_option maxRecDepth 100000 in
theorem rtx_num (K : Int) (neg : Bool) (N : Nat) (S : ByteArray) (A : Option Addr) (c v : Nat) (w : World) (hN : N < 18446744073709551616) (h : IsNum K N S v) :
    Calls Tryz.prog 13 #[.agg #[.int .i64 K, .bool neg, .int .u64 (N : Int), .string S, .slice A 0 c]] w fun e w' => ∃ s, e = .returned (.tuple #[.string s, .int .i64 0]) ∧ bts s = sgb neg ++ dec (v + ng neg) ∧ Below w.heap.size w w' := by
  have hb0 := below_alloc w (.cells #[.int .i64 K, .bool neg, .int .u64 (N : Int), .string S, .slice A 0 c] 36)
  rcases h with ⟨rfl, hs, rfl⟩ | ⟨rfl, rfl, h8, h512, ⟨c0, h0, hc0⟩, rfl⟩
  · have hemp := empty_of hs
    have kd := fun W => rdig_int neg v S A c W hs hN
    clear hs
    go_enter Tryz.func13, Tryz.ntmps13
    go_wp2_with (go_at_call 36; (with_reducible refine (kd _).mono ?_); clear kd; rintro e1 w1 ⟨s, rfl, hs, hb1⟩)
    go_ret2
    exact ⟨s, rfl, hs, below_step hb0 hb1⟩
  · have hat := bts_ix h0
    have hc0I : ((c0 : Int) != 0) = true := bne_iff_ne.2 (by omega)
    have hc0J : ((c0 : Int) == 0) = false := beq_eq_false_iff_ne.2 (by omega)
    have h8I : (8 : Int) < (S.size : Int) := by omega
    have h5I : (S.size : Int) ≤ 512 := by omega
    have hs0 : 0 < S.size := by omega
    have kd := fun W => rdig_big neg S A c W h512
    have hful := full_of (t := S) (by omega)
    clear h8 h512 h0 hc0
    go_enter Tryz.func13, Tryz.ntmps13
    go_wp2_with (go_at_call 36; (with_reducible refine (kd _).mono ?_); clear kd; rintro e1 w1 ⟨s, rfl, hs, hb1⟩)
    go_ret2
    exact ⟨s, rfl, hs, below_step hb0 hb1⟩
theorem rtext_bad (x : Nat) (w : World) (hx : x < 18446744073709551616) (h : fe x = 2047) :
    Calls Tryz.prog 10 #[.int .u64 (x : Int)] w fun e w' => e = .returned (.tuple #[.string ⟨#[]⟩, .int .i64 1]) ∧ Below w.heap.size w w' := by
  have k1 := rshortest_bad x w hx h
  clear h
  go_enter Tryz.func10, Tryz.ntmps10
  go_wp2_with (go_at_call 8; (with_reducible refine k1.mono ?_); clear k1; rintro e1 w1 ⟨rfl, hb1⟩)
  go_ret2
  exact ⟨rfl, hb1⟩
set_option maxHeartbeats 8000000 in
set_option maxRecDepth 100000 in
theorem rtx_bad (N : Nat) (S : ByteArray) (A : Option Addr) (c : Nat) (w : World) (hs : S.size = 0) (hN : N < 18446744073709551616) (h : fe N = 2047) :
    Calls Tryz.prog 13 #[.agg #[.int .i64 8, .bool false, .int .u64 (N : Int), .string S, .slice A 0 c]] w fun e w' => e = .returned (.tuple #[.string ⟨#[]⟩, .int .i64 10]) ∧ Below w.heap.size w w' := by
  have hb0 := below_alloc w (.cells #[.int .i64 8, .bool false, .int .u64 (N : Int), .string S, .slice A 0 c] 36)
  have hemp := empty_of hs
  have kt := fun W => rtext_bad N W hN h
  clear hs h
  go_enter Tryz.func13, Tryz.ntmps13
  go_wp2_with (go_at_call 10; (with_reducible refine (kt _).mono ?_); clear kt; rintro e1 w1 ⟨rfl, hb1⟩)
  go_ret2
  exact ⟨rfl, below_step hb0 hb1⟩
set_option maxHeartbeats 8000000 in
set_option maxRecDepth 100000 in
theorem rtx_fl (N : Nat) (S : ByteArray) (A : Option Addr) (c : Nat) (w : World) (hs : S.size = 0) (hN : N < 18446744073709551616) (h : fe N ≠ 2047) :
    Calls Tryz.prog 13 #[.agg #[.int .i64 8, .bool false, .int .u64 (N : Int), .string S, .slice A 0 c]] w fun en w' => ∃ (S' : ByteArray) (d : List Nat) (e : Int), en = .returned (.tuple #[.string S', .int .i64 0]) ∧ bts S' = sgl N ++ lay d e ∧ Digs N d e ∧ Below w.heap.size w w' := by
  have hb0 := below_alloc w (.cells #[.int .i64 8, .bool false, .int .u64 (N : Int), .string S, .slice A 0 c] 36)
  have hemp := empty_of hs
  have kt := fun W => rtext_calls N W hN h
  clear hs h
  go_enter Tryz.func13, Tryz.ntmps13
  go_wp2_with (go_at_call 10; (with_reducible refine (kt _).mono ?_); clear kt; rintro e1 w1 ⟨S', d, e, rfl, hS, hd, hb1⟩)
  go_ret2
  exact ⟨S', d, e, rfl, hS, hd, below_step hb0 hb1⟩
end Go.Proofs.YtffncomekbfihaaGreatDoor.Nat
