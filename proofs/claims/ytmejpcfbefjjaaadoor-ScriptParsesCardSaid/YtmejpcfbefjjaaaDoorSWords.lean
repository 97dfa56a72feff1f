/- The reference's words. -/
import Derived.Test.YtmejpcfbefjjaaaDoorSRef2
import Derived.Lib.Walk
import Derived.Lib.Builder
import Derived.Lib.SliceRun
import Derived.Laws.OwnMore
import Derived.Laws.MakeOwn
import Derived.OneCell
import Derived.Below
import Derived.Shelf.RegionOpenPlain
namespace Go.Proofs.YtmejpcfbefjjaaaDoor.Scr
open Go.RowKit
set_option linter.unusedVariables false
set_option linter.unusedSimpArgs false
theorem infoStr : (Tryd.prog.info? 9).map (fun i => (i.zero, i.size, i.bytes)) = some (some (.string ByteArray.empty), 1, 16) := by kernel_rfl
theorem info8 : (Tryd.prog.info? 5).map (fun i => (i.zero, i.size, i.bytes)) = some (some (.int .u8 0), 1, 1) := by kernel_rfl
theorem infoBts : (Tryd.prog.info? 51).map (fun i => (i.zero, i.size, i.bytes)) = some (some (.slice none 0 0), 1, 24) := by kernel_rfl
theorem one_cell {v : Value} (h : v.oneCell' = true) : ∀ u ∈ [v], u.oneCell' = true := by intro u hu; simp at hu; subst hu; exact h
theorem own_form {w : World} {B e n : Nat} {v : Value} {xs : List Value} (h : w.ownsRow B e 1 v n xs) : ∃ A c, v = .slice A n c ∧ n ≤ c := by
  rcases h.2 with ⟨rfl, rfl⟩ | ⟨g, cap, cur, rfl, _, _, hnc, _⟩
  · exact ⟨none, 0, rfl, Nat.le_refl _⟩
  · exact ⟨_, _, rfl, hnc⟩
theorem own_base {w : World} {B e n : Nat} {v : Value} {xs : List Value} (h : w.ownsRow B e 1 v n xs) : ∀ k, v.ownBlock = some k → B ≤ k := fun k hk => (h.lt k hk).1
set_option maxRecDepth 100000 in
set_option maxHeartbeats 8000000 in
theorem words_calls (s : ByteArray) (w : World) (hs : s.size ≤ 65536) : Calls Tryd.prog 10 #[.string s] w fun e w' => ∃ v, e = .returned v ∧ w'.ownsRow w.heap.size 9 1 v (pieces 32 s 0 0).length ((pieces 32 s 0 0).map Value.string) ∧ Below w.heap.size w w' := by
  obtain ⟨P, hP⟩ : ∃ P, pieces 32 s 0 0 = P := ⟨_, rfl⟩
  rw [hP]
  obtain ⟨i0, hi0, hz0, hz1, hz2⟩ := info_parts infoStr
  have hO0 := World.ownsRow_nil w w.heap.size 9 1
  have hB0 := Below.refl w.heap.size w
  go_enter Tryd.func10, Tryd.ntmps10
  go_wp2
  go_loopg [3, 4, 5] (s.size + 1) (fun kq v3 v4 v5 wr => ∃ (i f : Nat) (done : List ByteArray), v4 = .int .i64 f ∧ v5 = .int .i64 i ∧ i + kq = s.size + 1 ∧ f ≤ i ∧ done.length ≤ i ∧ Hid ((i ≤ s.size → done ++ pieces 32 s f i = P) ∧ (i = s.size + 1 → done = P)) ∧ wr.ownsRow w.heap.size 9 1 v3 done.length (done.map Value.string) ∧ Below w.heap.size w wr)
  case atStart => exact ⟨0, 0, [], rfl, rfl, by omega, Nat.le_refl _, Nat.le_refl _, Lib.hid ⟨fun _ => by simpa using hP, fun h => by omega⟩, hO0, hB0⟩
  case round =>
    clear hO0 hB0 hP
    obtain ⟨i, f, done, rfl, rfl, hik, hfi, hdl, HP, hown, hb⟩ := hrel
    obtain ⟨A3, c3, rfl, _⟩ := own_form hown
    cases gk with
    | zero =>
      have hi1 : i = s.size + 1 := by omega
      have hd := HP.out.2 hi1
      subst hd
      have hle : ¬ (i : Int) ≤ (s.size : Int) := by omega
      go_wp2
      go_ret
      exact ⟨_, rfl, hown, hb⟩
    | succ d =>
      have hle : (i : Int) ≤ (s.size : Int) := by omega
      have hP1 := HP.out.1 (by omega)
      clear HP
      have hsz := hb.size
      have hf1 : (f : Int) ≤ (i : Int) := by omega
      by_cases hend : i = s.size
      · subst hend
        rw [pieces_end (by omega)] at hP1
        have HP1 := Lib.hid hP1
        clear hP1
        go_wp2_with (at_builtin; refine wpList_append_own _ rfl _ _ 48 rfl w.heap.size 9 i0 (.string ByteArray.empty) 1 16 Tryd.underlying48 hi0 hz0 hz1 hz2 rfl (by decide) _ _ _ rfl (hown.alloc _) ⟨wr.heap.size, 0, none⟩ 1 1 [.string (s.extract f s.size)] rfl rfl (cell_one_new _ _ _) (one_cell rfl) (by unfold maxLen; omega) (by omega) (by rw [World.size_alloc]; omega) ?_; intro v' w5 hown5 hgrow5 _)
        go_roundg d
        case rel =>
          refine ⟨s.size + 1, s.size + 1, done ++ [s.extract f s.size], by go_num, by go_num, by omega, by omega, ?_, ?_, ?_, ?_⟩
          · simp only [List.length_append, List.length_singleton]; omega
          · exact Lib.hid ⟨fun h => by omega, fun _ => HP1.out⟩
          · simpa using hown5
          · exact (hb.alloc hsz _).grown hgrow5 (by rw [World.size_alloc]; omega) (own_base hown)
        case measure => omega
      · have hlt : i < s.size := by omega
        have hne : ¬ (i : Int) = (s.size : Int) := by omega
        have hil : (i : Int) < (s.size : Int) := by omega
        by_cases hc : s[i]'hlt = 32
        · rw [pieces_hit hlt hc] at hP1
          have HP1 := Lib.hid hP1
          clear hP1
          have hcn : ((s[i]'hlt).toNat : Int) = 32 := by rw [hc]; rfl
          go_wp2_with (at_builtin; refine wpList_append_own _ rfl _ _ 48 rfl w.heap.size 9 i0 (.string ByteArray.empty) 1 16 Tryd.underlying48 hi0 hz0 hz1 hz2 rfl (by decide) _ _ _ rfl (hown.alloc _) ⟨wr.heap.size, 0, none⟩ 1 1 [.string (s.extract f i)] rfl rfl (cell_one_new _ _ _) (one_cell rfl) (by unfold maxLen; omega) (by omega) (by rw [World.size_alloc]; omega) ?_; intro v' w5 hown5 hgrow5 _)
          go_roundg d
          case rel =>
            refine ⟨i + 1, i + 1, done ++ [s.extract f i], by go_num, by go_num, by omega, by omega, ?_, ?_, ?_, ?_⟩
            · simp only [List.length_append, List.length_singleton]; omega
            · exact Lib.hid ⟨fun h => by rw [List.append_assoc]; exact HP1.out, fun h => by omega⟩
            · simpa using hown5
            · exact (hb.alloc hsz _).grown hgrow5 (by rw [World.size_alloc]; omega) (own_base hown)
          case measure => omega
        · rw [pieces_miss hlt hc] at hP1
          have HP1 := Lib.hid hP1
          clear hP1
          have b1 : ((i : Int) == (s.size : Int)) = false := by rw [beq_eq_false_iff_ne]; omega
          have hcn : ¬ ((s[i]'hlt).toNat : Int) = 32 := fun q => hc (by
            have h2 : (s[i]'hlt).toNat = 32 := by omega
            exact UInt8.toNat_inj.1 h2)
          have b2 : (((s[i]'hlt).toNat : Int) == 32) = false := by rw [beq_eq_false_iff_ne]; exact hcn
          go_wp2
          go_roundg d
          case rel => exact ⟨i + 1, f, done, by go_num, by go_num, by omega, by omega, by omega, Lib.hid ⟨fun _ => HP1.out, fun h => by omega⟩, hown, hb⟩
          case measure => omega
end Go.Proofs.YtmejpcfbefjjaaaDoor.Scr
