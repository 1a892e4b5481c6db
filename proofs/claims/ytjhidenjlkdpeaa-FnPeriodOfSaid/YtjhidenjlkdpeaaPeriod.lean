/- The walks of PeriodOf, of the program and of the reference, and of its exact law. -/
import Derived.Test.YtjhidenjlkdpeaaBase
import Derived.Test.YtjhidenjlkdpeaaPer
import Derived.Test.YtjhidenjlkdpeaaMem
import Derived.Maps.OwnSet
namespace Go.Proofs.Ytjhidenjlkdpeaa
set_option linter.unusedVariables false
set_option linter.unusedSimpArgs false
open Go.RowKit Go.Maps

theorem lawMap : Keyed Try.prog 3 := int_keyed Try.underlying3
theorem zeroInt (w : World) : (zeroValue 3).run Try.prog w = .ok (.int .i64 0) w := by kernel_rfl
theorem infoInt : (Try.prog.info? 3).map (fun i => (i.zero, i.size, i.bytes)) = some (some (.int .i64 0), 1, 8) := by kernel_rfl

def PerPost (a b : Int) (w : World) (e : Ending) (w' : World) : Prop := ∃ p n : Nat, IsPer a b p n ∧ e = .returned (.tuple #[.int .i64 p, .int .i64 n]) ∧ Below w.heap.size w w'

theorem proper_t (a b : Int) (w : World) (h1 : 1 ≤ b) (h2 : b ≤ 99) (h3 : 0 ≤ a) (h4 : a ≤ b - 1) : Calls Try.prog 51 #[.int .i64 a, .int .i64 b] w fun e w' => e = .returned (.bool true) ∧ w = w' := by
  go_enter Try.func51, Try.ntmps51
  go_wp2_with (first | (go_at_call 49; ((with_reducible refine (in_t _ _ _ _ ?_ ?_).mono ?_)); (omega); (omega); rintro e w' ⟨rfl, rfl⟩))
  go_ret
  simp
theorem proper_f (a b : Int) (w : World) (h : b < 1 ∨ 99 < b ∨ a < 0 ∨ b - 1 < a) : Calls Try.prog 51 #[.int .i64 a, .int .i64 b] w fun e w' => e = .returned (.bool false) ∧ w = w' := by
  by_cases h1 : 1 ≤ b ∧ b ≤ 99
  · obtain ⟨h1, h2⟩ := h1
    have h3 : a < 0 ∨ b - 1 < a := by omega
    clear h
    go_enter Try.func51, Try.ntmps51
    go_wp2_with (first | (go_at_call 49; ((with_reducible refine (in_t _ _ _ _ ?_ ?_).mono ?_)); (omega); (omega); rintro e w' ⟨rfl, rfl⟩) | (go_at_call 49; ((with_reducible refine (in_f _ _ _ _ ?_).mono ?_)); (omega); rintro e w' ⟨rfl, rfl⟩))
    go_ret
    simp
  · have h3 : b < 1 ∨ 99 < b := by omega
    clear h h1
    go_enter Try.func51, Try.ntmps51
    go_wp2_with (first | (go_at_call 49; ((with_reducible refine (in_f _ _ _ _ ?_).mono ?_)); (omega); rintro e w' ⟨rfl, rfl⟩))
    go_ret
    simp

theorem iPeriod_no (a b : Int) (w : World) (h : b < 1 ∨ 99 < b ∨ a < 0 ∨ b - 1 < a) : Calls Try.prog 18 #[.int .i64 a, .int .i64 b] w fun e w' => e = .returned (.tuple #[.int .i64 (-1), .int .i64 (-1)]) ∧ w = w' := by
  go_enter Try.func18, Try.ntmps18
  go_wp2_with (go_at_call 51; refine (proper_f _ _ _ ?_).mono ?_; (assumption); rintro e w' ⟨rfl, rfl⟩)
  go_ret2
  exact ⟨rfl, rfl⟩
theorem sPeriod_no (a b : Int) (w : World) (h : b < 1 ∨ 99 < b ∨ a < 0 ∨ b - 1 < a) : Calls Try.prog 17 #[.int .i64 a, .int .i64 b] w fun e w' => e = .returned (.tuple #[.int .i64 (-1), .int .i64 (-1)]) ∧ w = w' := by
  by_cases h1 : 1 ≤ b ∧ b ≤ 99
  · obtain ⟨h1, h2⟩ := h1
    have h3 : a < 0 ∨ b - 1 < a := by omega
    clear h
    go_enter Try.func17, Try.ntmps17
    go_wp2_with (first | (go_at_call 48; ((with_reducible refine (sin_t _ _ _ _ ?_ ?_).mono ?_)); (omega); (omega); rintro e w' ⟨rfl, rfl⟩) | (go_at_call 48; ((with_reducible refine (sin_f _ _ _ _ ?_).mono ?_)); (omega); rintro e w' ⟨rfl, rfl⟩))
    go_ret2
    exact ⟨rfl, rfl⟩
  · have h3 : b < 1 ∨ 99 < b := by omega
    clear h h1
    go_enter Try.func17, Try.ntmps17
    go_wp2_with (first | (go_at_call 48; ((with_reducible refine (sin_f _ _ _ _ ?_).mono ?_)); (omega); rintro e w' ⟨rfl, rfl⟩))
    go_ret2
    exact ⟨rfl, rfl⟩

set_option maxHeartbeats 1000000 in
theorem iPeriod_yes (a b : Int) (w : World) (h1 : 1 ≤ b) (h2 : b ≤ 99) (h3 : 0 ≤ a) (h4 : a ≤ b - 1) : Calls Try.prog 18 #[.int .i64 a, .int .i64 b] w (PerPost a b w) := by
  have hmm := @run_makeMap Try.prog
  go_enter Try.func18, Try.ntmps18
  go_wp2_with (go_at_call 51; refine (proper_t _ _ _ ?_ ?_ ?_ ?_).mono ?_; (omega); (omega); (omega); (omega); rintro e w' ⟨rfl, rfl⟩)
  go_loopg [0, 7, 8, 9] 200 (fun g s0 s7 s8 s9 wr => ∃ k : Nat, g + k = 200 ∧ k ≤ 99 ∧ s0 = .int .i64 (rm a b k) ∧ s7 = .int .i64 k ∧ Apart a b k ∧ wr.ownsMap Try.prog 3 (plainElem Try.prog 3) w.heap.size k (MD a b k) ∧ Below w.heap.size w wr)
  case atStart => exact ⟨0, rfl, by omega, rfl, rfl, apart_zero a b, World.ownsMap_made _ _ _ _, (Below.refl _ _).alloc (Nat.le_refl _) _⟩
  case round =>
    obtain ⟨k, hg, hk, rfl, rfl, hd, hown, hnx⟩ := hrel
    have hr := rm_range a b h3 (by omega) k
    obtain ⟨hr0, hr1⟩ := hr
    have hkey : keyOf Try.prog 3 (.int .i64 (rm a b k)) = some (.int .i64 (rm a b k)) := keyOf_int_mk Try.underlying3 (WalkArith.wf_i64 (by omega))
    by_cases hh : Maps.has (MD a b k) (.int .i64 (rm a b k)) = true
    · go_wp2_with (first | (at_lookup; refine wpList_lookup_own_ok_int _ rfl _ _ 60 rfl 3 3 .i64 lawMap Try.underlying60 Try.underlying3 (zeroInt _) w.heap.size k _ rfl hown _ _ rfl hkey ?_; intro c hat hwc; obtain ⟨p, rfl, hp, hper⟩ := MD_hit hd hh hat))
      go_ret2
      exact ⟨p, k - p, hper, by rw [show ((k - p : Nat) : Int) = (k : Int) - p from by omega]; rfl, hnx⟩
    · have hh' : Maps.has (MD a b k) (.int .i64 (rm a b k)) = false := by simpa using hh
      clear hh
      have hd1 := MD_miss hd hh'
      have hk1 := hd1.le h3 (by omega) h2
      go_wp2_with (first
        | (at_lookup; refine wpList_lookup_own_ok_int _ rfl _ _ 60 rfl 3 3 .i64 lawMap Try.underlying60 Try.underlying3 (zeroInt _) w.heap.size k _ rfl hown _ _ rfl hkey ?_; intro c hat hwc)
        | (at_mapUpdate; refine wpList_mapUpdate_own _ rfl _ _ _ 60 rfl 3 3 lawMap Try.underlying60 _ w.heap.size k _ rfl hown (by unfold maxLen; omega) _ _ _ rfl rfl hkey _ [] (plainElem_int Try.underlying3 (WalkArith.wf_i64 (by omega))) ?_; intro w1 hown1 hgrow1))
      go_roundg (gk - 1)
      case measure => omega
      case rel => exact ⟨k + 1, by omega, hk1, by rw [rm_succ], by go_num, hd1, by rw [MD_succ]; exact hown1, hnx.grown hgrow1 hnx.size (fun j hj => by cases hj; exact Nat.le_refl _)⟩

def remCells (a b : Int) (m : Nat) : List Value := (List.range m).map fun i => .int .i64 (rm a b i)
theorem remCells_at (a b : Int) {m j : Nat} (h : j < m) : (remCells a b m)[j]? = some (.int .i64 (rm a b j)) := by simp [remCells, h]
theorem remCells_succ (a b : Int) (m : Nat) : remCells a b (m + 1) = remCells a b m ++ [.int .i64 (rm a b m)] := by simp [remCells, List.range_succ]

set_option maxHeartbeats 1000000 in
theorem sPeriod_yes (a b : Int) (w : World) (h1 : 1 ≤ b) (h2 : b ≤ 99) (h3 : 0 ≤ a) (h4 : a ≤ b - 1) : Calls Try.prog 17 #[.int .i64 a, .int .i64 b] w (PerPost a b w) := by
  obtain ⟨i0, hi, hz0, hz1, hz2⟩ := info_parts infoInt
  go_enter Try.func17, Try.ntmps17
  go_wp2_with (first | (go_at_call 48; ((with_reducible refine (sin_t _ _ _ _ ?_ ?_).mono ?_)); (omega); (omega); rintro e w' ⟨rfl, rfl⟩))
  go_loopg [6] 199 (fun g s6 wr => ∃ m : Nat, g + m = 200 ∧ 1 ≤ m ∧ m ≤ 99 ∧ Apart a b m ∧ wr.ownsRow w.heap.size 3 1 s6 m (remCells a b m) ∧ Below w.heap.size w wr)
  case atStart => exact ⟨1, by omega, by omega, by omega, apart_one a b, owns_new w w.heap.size 3 1 1 #[.int .i64 a] (Nat.le_refl _) (by decide) rfl, (Below.refl _ _).alloc (Nat.le_refl _) _⟩
  case round =>
    obtain ⟨m, hg, hm, hm9, hd, hown, hnx⟩ := hrel
    obtain ⟨g, cap, rfl, _, _, hgb, hgs, hcell, _⟩ := owns_at hown hm
    obtain ⟨m, rfl⟩ : ∃ q, m = q + 1 := ⟨m - 1, by omega⟩
    have hr := rm_range a b h3 (show a < b by omega) m
    obtain ⟨hr0, hr1⟩ := hr
    have hn0 : 0 ≤ 10 * rm a b m % b := Int.emod_nonneg _ (by omega)
    have hn1 : 10 * rm a b m % b < b := Int.emod_lt_of_pos _ (by omega)
    have hlast := hcell m _ (remCells_at a b (by omega : m < m + 1))
    go_wp2_with fail
    go_loop [8] (fun s8 => ∃ k : Nat, k ≤ m + 1 ∧ s8 = .int .i64 k ∧ ∀ j, j < k → rm a b j ≠ rm a b (m + 1)) (fun s8 => m + 1 - (intOf s8).toNat)
    case atStart => exact ⟨0, by omega, rfl, fun j hj => by omega⟩
    case round =>
      obtain ⟨k, hk, rfl, hne⟩ := hrel
      have Hne := Lib.hid hne
      clear hne
      by_cases hlt : k < m + 1
      · have hck := hcell k _ (remCells_at a b hlt)
        by_cases he : rm a b k = 10 * rm a b m % b
        · have he' : (rm a b k == 10 * rm a b m % b) = true := by simpa using he
          have He := Lib.hid he
          clear he
          go_wp2_with fail
          go_ret2
          exact ⟨k, m + 1 - k, ⟨by omega, by rw [show k + (m + 1 - k) = m + 1 from by omega, rm_succ]; exact He.out, by rw [show k + (m + 1 - k) = m + 1 from by omega]; exact hd⟩, by rw [show ((m + 1 - k : Nat) : Int) = (m : Int) + 1 - k from by omega]; rfl, hnx⟩
        · have he' : (rm a b k == 10 * rm a b m % b) = false := by simpa using he
          have He := Lib.hid he
          clear he
          go_wp2_with fail
          go_round
          case rel => exact ⟨k + 1, by omega, by go_num, fun j hj => by
            by_cases e : j = k
            · subst e; rw [rm_succ]; exact He.out
            · exact Hne.out j (by omega)⟩
          case measure => simp [intOf]; omega
      · obtain rfl : k = m + 1 := by omega
        have hd1 : Apart a b (m + 1 + 1) := hd.succ Hne.out
        have hm2 := hd1.le h3 (show a < b by omega) h2
        clear hcell
        go_wp2_with (first | (at_builtin; refine wpList_append_own _ rfl _ _ 27 rfl w.heap.size 3 i0 (.int .i64 0) 1 8 Try.underlying27 hi hz0 hz1 hz2 rfl (by decide) _ _ _ rfl (hown.alloc _) ⟨wr.heap.size, 0, none⟩ 1 1 [.int .i64 (10 * rm a b m % b)] rfl rfl (cell_one_new _ _ _) (by simp [Value.oneCell']) (by unfold maxLen; omega) (by omega) (by have := hnx.size; simp; omega) ?_; intro v' w1 hown' hgrow _))
        go_roundg (gk - 1)
        case measure => omega
        case rel => exact ⟨m + 1 + 1, by omega, by omega, hm2, hd1, by rw [remCells_succ]; exact hown', (hnx.alloc hnx.size _).grown hgrow (by have := hnx.size; simp; omega) (fun j hj => by cases hj; exact hgb)⟩

/-- The exact law on PeriodOf. -/
theorem law_ExactPeriodOf (a : Int) (_wa : (Lit.int .i64 a).wf = true) (b : Int) (_wb : (Lit.int .i64 b).wf = true) (w : World) : Calls Try.prog 4 #[.int .i64 a, .int .i64 b] w fun e w' => e = .returned (.bool true) ∧ Below w.heap.size w w' := by
  by_cases h : 1 ≤ b ∧ b ≤ 99 ∧ 0 ≤ a ∧ a ≤ b - 1
  · obtain ⟨h1, h2, h3, h4⟩ := h
    go_enter Try.func4, Try.ntmps4
    go_wp2_with fail
    refine (sPeriod_yes a b _ h1 h2 h3 h4).mono ?_
    rintro e w1 ⟨p, n, hp, rfl, hb1⟩
    go_wp2_with fail
    refine (iPeriod_yes a b _ h1 h2 h3 h4).mono ?_
    rintro e w2 ⟨p', n', hp', rfl, hb2⟩
    obtain ⟨rfl, rfl⟩ := hp.unique hp'
    go_wp2_with fail
    go_ret
    exact ⟨rfl, hb1.trans (hb2.mono hb1.size)⟩
  · have h' : b < 1 ∨ 99 < b ∨ a < 0 ∨ b - 1 < a := by omega
    clear h
    go_enter Try.func4, Try.ntmps4
    go_wp2_with (first | (go_at_call 17; refine (sPeriod_no a b _ h').mono ?_; rintro e w' ⟨rfl, rfl⟩) | (go_at_call 18; refine (iPeriod_no a b _ h').mono ?_; rintro e w' ⟨rfl, rfl⟩))
    go_ret
    exact ⟨rfl, Below.refl _ _⟩
end Go.Proofs.Ytjhidenjlkdpeaa
