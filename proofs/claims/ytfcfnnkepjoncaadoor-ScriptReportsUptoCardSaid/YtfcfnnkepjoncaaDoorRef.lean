/- glossatorref22.Report, of any output, over what glossatorref04.Encode answers. -/
import Derived.Test.YtfcfnnkepjoncaaDoorTold2
namespace Go.Proofs.YtfcfnnkepjoncaaDoor.Hand
open Go.RowKit Go.Shelf
set_option linter.unusedVariables false
theorem ba_of {x : ByteArray} {l : List UInt8} (h : x.data.toList = l) : x = ⟨l.toArray⟩ := by
  apply ByteArray.ext; rw [← h]
theorem below_step2 {w w1 w2 : World} (h1 : Below w.heap.size w w1) (h2 : Below w1.heap.size w1 w2) : Below w.heap.size w w2 := h1.trans (h2.mono h1.size)
set_option maxHeartbeats 8000000 in
set_option maxRecDepth 100000 in
theorem ref_any (Ao : Option Addr) (no co : Nat) (word : ByteArray) (ls : List (Int × List Int)) (Al : Option Addr) (cl : Nat) (at_ e : Int) (w : World) (hL : LossAt w Al ls) (hI : ∀ q ∈ ls, I64 q.1 ∧ ∀ n ∈ q.2, I64 n) (ha : I64 at_) (he : I64 e)
    (hcase : (no = 0 ∧ word = outW) ∨ (0 < no ∧ ∃ hx : ByteArray, word = outW ++ ((⟨#[32]⟩ : ByteArray) ++ hx) ∧ ∀ W, Below w.heap.size w W → Calls Tryd.prog 12 #[.int .i64 0, .slice Ao no co] W fun e' w' => e' = .returned (.tuple #[.string hx, .int .i64 0]) ∧ Below W.heap.size W w'))
    (hlen : (repU word ls e at_).length ≤ 140737488355328) (hl63 : ls.length < 9223372036854775807) (hq63 : ∀ q ∈ ls, q.2.length < 1099511627776) :
    Calls Tryd.prog 5 #[.slice Ao no co, .slice Al ls.length cl, .int .i64 at_, .int .i64 e] w fun e' w' => e' = .returned (.string ⟨(repU word ls e at_).toArray⟩) ∧ Below w.heap.size w w' := by
  have HB0 := Below.refl w.heap.size w
  have hws : word.size ≤ 140737488355328 := by
    have h_ := hlen
    unfold repU lineU at h_
    simp only [List.length_append, Array.length_toList] at h_
    have e : word.data.size = word.size := rfl
    omega
  obtain ⟨wl, hwl⟩ : ∃ wl, lineU word [] = wl := ⟨_, rfl⟩
  unfold repU
  rw [hwl]
  have HL : Hid _ := Lib.hid (show (wl ++ lossU ls ++ lineU endW [e, at_]).length ≤ 140737488355328 by rw [← hwl]; exact hlen)
  have HW : Hid _ := Lib.hid hwl
  clear hlen hwl
  rcases hcase with ⟨rfl, rfl⟩ | ⟨hno, hx, rfl, hEnc⟩
  case' inl =>
    clear hws
    go_enter Tryd.func5, Tryd.ntmps5
    go_wp2
  case' inr =>
    have hs1 : hx.size ≤ 140737488355328 := by rw [ByteArray.size_append, ByteArray.size_append] at hws; omega
    have hs3 : 4 + hx.size ≤ 140737488355328 := by rw [ByteArray.size_append, ByteArray.size_append] at hws; have e3 : outW.size = 3 := rfl; have e4 : (⟨#[32]⟩ : ByteArray).size = 1 := rfl; omega
    have hno' : (0 : Int) < (no : Int) := by omega
    clear hws
    go_enter Tryd.func5, Tryd.ntmps5
    go_wp2_with (go_at_call 12; (with_reducible refine (hEnc _ (by first | exact Below.refl _ _ | exact HB0)).mono ?_); clear hEnc; rintro e0 w0 ⟨rfl, hbE⟩)
    clear HB0
    have HB0 := hbE
  all_goals
    go_loopg [9, 12, 13] ls.length (fun kq v9 v12 v13 wr => ∃ (j : Nat) (S : ByteArray), v12 = .int .i64 j ∧ j + kq = ls.length ∧ v9 = .string S ∧ S.data.toList = wl ++ lossU (ls.take j) ∧ Below w.heap.size w wr)
    case atStart => exact ⟨0, _, rfl, by omega, rfl, by rw [← HW.out]; simp [lossU, lineU, outW], HB0⟩
    case round =>
      clear HB0
      obtain ⟨j, S, rfl, hj, rfl, hS, HB⟩ := hrel
      cases gk with
      | zero =>
        obtain rfl : j = ls.length := by omega
        rw [List.take_length] at hS
        have hb := HL.out
        rw [List.length_append, ← hS, Array.length_toList] at hb
        have hb2 : (lineU endW [e, at_]).length = 3 + (1 + (Lib.itoa e).length + (1 + (Lib.itoa at_).length)) + 1 := by simp [lineU]; omega
        rw [hb2] at hb
        have hb3 : S.size + (3 + (1 + (Lib.itoa e).length + (1 + (Lib.itoa at_).length)) + 1) ≤ 140737488355328 := hb
        have b1 : S.size ≤ 140737488355328 := by omega
        have b2 : (Lib.itoa e).length ≤ 140737488355328 := by omega
        have b3 : (Lib.itoa at_).length ≤ 140737488355328 := by omega
        have HS : Hid _ := Lib.hid hS
        clear hb hb2 hS hL hI hq63
        go_wp2_with (first | (go_at_call 13; (with_reducible refine (told_any e _ he).mono ?_); rintro e1 w1 ⟨rfl, hb1⟩) | (go_at_call 13; (with_reducible refine (told_any at_ _ ha).mono ?_); rintro e2 w2 ⟨rfl, hb4⟩))
        go_ret
        refine ⟨congrArg (fun s => Ending.returned (Value.string s)) (ba_of ?_), below_step2 (below_step2 HB hb1) hb4⟩
        have h_ := HS.out
        simp [lineU, h_]
      | succ d =>
        obtain ⟨ad, Ap, cp, ⟨kind, path⟩, rfl, hq, z0, z1, hnil, hpc⟩ := hL j (by omega)
        dsimp only at z0 z1 hnil hpc
        have hqI := hI _ (List.mem_of_getElem? hq)
        have hq40 := hq63 _ (List.mem_of_getElem? hq)
        dsimp only at hqI hq40
        have hlt : (j : Int) < (ls.length : Int) := by omega
        have y0 := (HB.cell (World.block_lt_of_cell? _ _ z0)).trans z0
        have y1 := (HB.cell (World.block_lt_of_cell? _ _ z1)).trans z1
        have hle := lossU_le ls (j + 1)
        rw [lossU_take hq, List.length_append] at hle
        have hb := HL.out
        simp only [List.length_append] at hb
        have hSl : S.size = (wl).length + (lossU (ls.take j)).length := by
          have h_ := congrArg List.length hS
          rw [Array.length_toList, List.length_append] at h_; exact h_
        have hlu : (lineU lossW (kind :: path)).length = 4 + (1 + (Lib.itoa kind).length + (path.flatMap (fun n => 32 :: Lib.itoa n)).length) + 1 := by simp [lineU]; omega
        dsimp only at hle
        rw [hlu] at hle
        have b0 : S.size + (4 + (1 + (Lib.itoa kind).length + (path.flatMap (fun n => 32 :: Lib.itoa n)).length) + 1) ≤ 140737488355328 := by omega
        have b1 : S.size ≤ 140737488355328 := by omega
        have b2 : (Lib.itoa kind).length ≤ 140737488355328 := by omega
        have HS : Hid _ := Lib.hid hS
        have HQ : Hid _ := Lib.hid hq
        clear hle hb hSl hlu hS hq hI hq63 hL
        go_wp2_with (go_at_call 13; (with_reducible refine (told_any kind _ hqI.1).mono ?_); rintro e1 w1 ⟨rfl, hb1⟩)
        have HB1 := below_step2 HB hb1
        clear hb1 HB y0 y1
        go_loopg [9, 13] path.length (fun kq v9 v13 wr2 => ∃ (i : Nat) (S2 : ByteArray), v13 = .int .i64 i ∧ i + kq = path.length ∧ v9 = .string S2 ∧ S2.data.toList = S.data.toList ++ lossW.data.toList ++ (32 :: Lib.itoa kind) ++ (path.take i).flatMap (fun n => 32 :: Lib.itoa n) ∧ Below w.heap.size w wr2)
        case atStart => exact ⟨0, _, rfl, by omega, rfl, by simp, HB1⟩
        case round =>
          clear HB1
          obtain ⟨i, S2, rfl, hi, rfl, hS2, HB⟩ := hrel
          have y0 := (HB.cell (World.block_lt_of_cell? _ _ z0)).trans z0
          have hS2l : S2.size = S.size + 4 + (1 + (Lib.itoa kind).length) + ((path.take i).flatMap (fun n => 32 :: Lib.itoa n)).length := by
            have h_ := congrArg List.length hS2
            simp only [List.length_append, List.length_cons, List.length_nil, Array.length_toList] at h_
            have e9 : (#[108, 111, 115, 115] : Array UInt8).size = 4 := rfl
            show S2.data.size = S.data.size + 4 + (1 + (Lib.itoa kind).length) + _
            first | omega | (simp only [e9] at h_; omega)
          cases gk with
          | zero =>
            obtain rfl : i = path.length := by omega
            rw [List.take_length] at hS2 hS2l
            have b3 : S2.size + 1 ≤ 140737488355328 := by omega
            have H2 : Hid _ := Lib.hid hS2
            clear hS2 hS2l hpc hnil
            go_wp2
            go_roundg d
            case rel => exact ⟨j + 1, _, by go_num, by omega, rfl, by rw [lossU_take HQ.out]; have h1 := H2.out; have h2 := HS.out; simp [lineU, h1, h2], HB⟩
            case measure => omega
          | succ d2 =>
            have hii : i < path.length := by omega
            obtain ⟨n, hn⟩ : ∃ n, path[i]? = some n := ⟨_, List.getElem?_eq_getElem hii⟩
            cases Ap with
            | none => obtain ⟨rfl, _⟩ := hnil rfl; simp at hii
            | some ap =>
              have hcell := hpc ap rfl i (.int .i64 n) (by rw [List.getElem?_map, hn]; rfl)
              have yc := (HB.cell (World.block_lt_of_cell? _ _ hcell)).trans hcell
              have hf : (path.take (i + 1)).flatMap (fun n => 32 :: Lib.itoa n) = (path.take i).flatMap (fun n => 32 :: Lib.itoa n) ++ (32 :: Lib.itoa n) := by rw [List.take_add_one, hn, List.flatMap_append]; simp
              have hfl : ((path.take (i + 1)).flatMap (fun n => 32 :: Lib.itoa n)).length ≤ (path.flatMap (fun n => 32 :: Lib.itoa n)).length := by
                have h : path.flatMap (fun n => 32 :: Lib.itoa n) = (path.take (i + 1)).flatMap (fun n => 32 :: Lib.itoa n) ++ (path.drop (i + 1)).flatMap (fun n => 32 :: Lib.itoa n) := by rw [← List.flatMap_append, List.take_append_drop]
                rw [h, List.length_append]; omega
              rw [hf, List.length_append, List.length_cons] at hfl
              have b3 : S2.size + 1 ≤ 140737488355328 := by omega
              have b4 : (Lib.itoa n).length ≤ 140737488355328 := by omega
              have hin : (i : Int) < (path.length : Int) := by omega
              have hnI := hqI.2 n (List.mem_of_getElem? hn)
              have H2 : Hid _ := Lib.hid hS2
              have HF : Hid _ := Lib.hid hf
              clear hS2 hS2l hf hfl hpc hnil hcell hn
              go_wp2_with (go_at_call 13; (with_reducible refine (told_any n _ hnI).mono ?_); rintro e1 w2 ⟨rfl, hb2⟩)
              go_roundg d2
              case rel => exact ⟨i + 1, _, by go_num, by omega, rfl, by have h1 := H2.out; have h2 := HF.out; simp [h1, h2], below_step2 HB hb2⟩
              case measure => omega
end Go.Proofs.YtfcfnnkepjoncaaDoor.Hand
