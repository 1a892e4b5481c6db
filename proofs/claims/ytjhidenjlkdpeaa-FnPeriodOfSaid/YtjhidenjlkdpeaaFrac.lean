/- The walks of FractionDigits, of the program and of the reference, and of its exact law. -/
import Derived.Test.YtjhidenjlkdpeaaPeriod
import Derived.Test.YtjhidenjlkdpeaaInts
namespace Go.Proofs.Ytjhidenjlkdpeaa
set_option linter.unusedVariables false
set_option linter.unusedSimpArgs false
open Go.RowKit

/-- The digits behind the point. -/
def fds (a b : Int) (m : Nat) : List Int := (List.range m).map fun j => 10 * rm a b j / b
theorem fds_length (a b : Int) (m : Nat) : (fds a b m).length = m := by simp [fds]
theorem fds_succ (a b : Int) (m : Nat) : fds a b (m + 1) = fds a b m ++ [10 * rm a b m / b] := by simp [fds, List.range_succ]
def FracOk (a b many : Int) : Prop := 1 ≤ b ∧ b ≤ 99 ∧ 0 ≤ a ∧ a ≤ b - 1 ∧ 0 ≤ many ∧ many ≤ 20
/-- What is handed back: a row of the call's own that reads as the list. -/
def IntsPost (xs : List Int) (w : World) (e : Ending) (w' : World) : Prop := ∃ v, e = .returned v ∧ w'.ownsRow w.heap.size 3 1 v xs.length (xs.map (Value.int .i64)) ∧ Below w.heap.size w w'

theorem zeroCells_ints (n : Nat) : (madeCells (Value.int .i64 0).cells (n * 1)).toList = (List.replicate n (0 : Int)).map (Value.int .i64) := by
  apply List.ext_getElem?
  intro i
  simp only [madeCells, Value.cells, List.map_replicate]
  by_cases h : i < n
  · simp [h, Nat.mod_one]
  · simp [h]

theorem fset (a b : Int) (k m : Nat) (h : k < m) : ((fds a b k ++ List.replicate (m - k) (0 : Int)).map (Value.int .i64)).set k (.int .i64 (10 * rm a b k / b)) = (fds a b (k + 1) ++ List.replicate (m - (k + 1)) (0 : Int)).map (Value.int .i64) := by
  rw [fds_succ, ← List.map_set, List.set_append_right _ _ (by simp [fds]), fds_length, Nat.sub_self, show m - k = (m - (k + 1)) + 1 from by omega, List.replicate_succ, List.set_cons_zero]
  simp

set_option maxHeartbeats 1000000 in
theorem iFrac_yes (a b : Int) (m : Nat) (w : World) (h1 : 1 ≤ b) (h2 : b ≤ 99) (h3 : 0 ≤ a) (h4 : a ≤ b - 1) (h5 : m ≤ 20) : Calls Try.prog 20 #[.int .i64 a, .int .i64 b, .int .i64 m] w (IntsPost (fds a b m) w) := by
  obtain ⟨i0, hi, hz0, hz1, hz2⟩ := info_parts infoInt
  go_enter Try.func20, Try.ntmps20
  go_wp2_with (first | (go_at_call 51; refine (proper_t _ _ _ ?_ ?_ ?_ ?_).mono ?_; (omega); (omega); (omega); (omega); rintro e w' ⟨rfl, rfl⟩) | (go_at_call 49; ((with_reducible refine (in_t _ _ _ _ ?_ ?_).mono ?_)); (omega); (omega); rintro e w' ⟨rfl, rfl⟩) | (at_make; refine wpList_make_full _ rfl _ _ 27 rfl w.heap.size 3 i0 (.int .i64 0) 1 Try.underlying27 hi hz0 hz1 _ _ _ _ m rfl rfl rfl rfl (by rw [hz2]; omega) (by unfold maxLen; omega) (Nat.le_refl _) ?_; intro w1 hown1 hgr1))
  rw [zeroCells_ints] at hown1
  go_loopg [0, 8, 22] m (fun g s0 s8 s22 wr => ∃ k : Nat, g + k = m ∧ s0 = .int .i64 (rm a b k) ∧ s22 = .int .i64 k ∧ wr.ownsRow w.heap.size 3 1 (.slice (some ⟨w.heap.size, 0, none⟩) m m) m ((fds a b k ++ List.replicate (m - k) (0 : Int)).map (Value.int .i64)) ∧ Below w.heap.size w wr)
  case atStart => exact ⟨0, rfl, rfl, rfl, hown1, (Below.refl _ _).grown hgr1 (Nat.le_refl _) (fun k h => by cases h)⟩
  case round =>
    obtain ⟨k, hk, rfl, rfl, hown, hnx⟩ := hrel
    by_cases hlt : k < m
    · have hr := rm_range a b h3 (show a < b by omega) k
      obtain ⟨hr0, hr1⟩ := hr
      obtain ⟨g', cap', hv, _, _, _, _, hcell, hfz⟩ := owns_at hown (by omega)
      cases hv
      have hlen : k < ((fds a b k ++ List.replicate (m - k) (0 : Int)).map (Value.int .i64)).length := by have := hown.1; omega
      have e1 := hcell k _ (List.getElem?_eq_getElem hlen)
      have e2 := hfz k
      clear hcell hfz
      go_wp2
      go_roundg (gk - 1)
      case measure => omega
      case rel => exact ⟨k + 1, by omega, by rw [rm_succ], by go_num, by rw [← fset a b k m hlt]; exact owns_set hown k (by omega) _, hnx.setCell (p := ⟨w.heap.size, k, none⟩) (Nat.le_refl _) _⟩
    · obtain rfl : k = m := by omega
      go_wp2
      go_ret
      exact ⟨_, rfl, by rw [fds_length]; simpa using hown, hnx⟩
theorem iFrac_no (a b many : Int) (w : World) (h : ¬ FracOk a b many) : Calls Try.prog 20 #[.int .i64 a, .int .i64 b, .int .i64 many] w (IntsPost [] w) := by
  unfold FracOk at h
  by_cases h1 : 1 ≤ b ∧ b ≤ 99 ∧ 0 ≤ a ∧ a ≤ b - 1
  · have h2 : many < 0 ∨ 20 < many := by omega
    obtain ⟨g1, g2, g3, g4⟩ := h1
    clear h
    go_enter Try.func20, Try.ntmps20
    go_wp2_with (first | (go_at_call 51; refine (proper_t _ _ _ ?_ ?_ ?_ ?_).mono ?_; (omega); (omega); (omega); (omega); rintro e w' ⟨rfl, rfl⟩) | (go_at_call 49; ((with_reducible refine (in_f _ _ _ _ ?_).mono ?_)); (omega); rintro e w' ⟨rfl, rfl⟩))
    go_ret
    exact ⟨_, rfl, World.ownsRow_nil _ _ _ _, Below.refl _ _⟩
  · have h2 : b < 1 ∨ 99 < b ∨ a < 0 ∨ b - 1 < a := by omega
    clear h h1
    go_enter Try.func20, Try.ntmps20
    go_wp2_with (go_at_call 51; refine (proper_f _ _ _ ?_).mono ?_; (assumption); rintro e w' ⟨rfl, rfl⟩)
    go_ret
    exact ⟨_, rfl, World.ownsRow_nil _ _ _ _, Below.refl _ _⟩

set_option maxHeartbeats 1000000 in
theorem sFrac_yes (a b : Int) (m : Nat) (w : World) (h1 : 1 ≤ b) (h2 : b ≤ 99) (h3 : 0 ≤ a) (h4 : a ≤ b - 1) (h5 : m ≤ 20) : Calls Try.prog 19 #[.int .i64 a, .int .i64 b, .int .i64 m] w (IntsPost (fds a b m) w) := by
  obtain ⟨i0, hi, hz0, hz1, hz2⟩ := info_parts infoInt
  go_enter Try.func19, Try.ntmps19
  go_wp2_with (first | (go_at_call 48; ((with_reducible refine (sin_t _ _ _ _ ?_ ?_).mono ?_)); (omega); (omega); rintro e w' ⟨rfl, rfl⟩))
  go_loopg [7, 8, 9] m (fun g s7 s8 s9 wr => ∃ k : Nat, g + k = m ∧ s8 = .int .i64 (rm a b k) ∧ s9 = .int .i64 k ∧ wr.ownsRow w.heap.size 3 1 s7 k ((fds a b k).map (Value.int .i64)) ∧ Below w.heap.size w wr)
  case atStart => exact ⟨0, rfl, rfl, rfl, owns_new w w.heap.size 3 1 0 #[] (Nat.le_refl _) (by decide) rfl, (Below.refl _ _).alloc (Nat.le_refl _) _⟩
  case round =>
    obtain ⟨k, hk, rfl, rfl, hown, hnx⟩ := hrel
    by_cases hlt : k < m
    · have hr := rm_range a b h3 (show a < b by omega) k
      obtain ⟨hr0, hr1⟩ := hr
      go_wp2_with (first | (go_at_call 48; ((with_reducible refine (sin_t _ _ _ _ ?_ ?_).mono ?_)); (omega); (omega); rintro e w' ⟨rfl, rfl⟩) | (at_builtin; refine wpList_append_own _ rfl _ _ 27 rfl w.heap.size 3 i0 (.int .i64 0) 1 8 Try.underlying27 hi hz0 hz1 hz2 rfl (by decide) _ _ _ rfl (hown.alloc _) ⟨wr.heap.size, 0, none⟩ 1 1 [.int .i64 (10 * rm a b k / b)] rfl rfl (cell_one_new _ _ _) (by simp [Value.oneCell']) (by unfold maxLen; omega) (by omega) (by have := hnx.size; simp; omega) ?_; intro v' w1 hown' hgrow _))
      have hb1 := (hnx.alloc hnx.size (.cells #[.int .i64 (10 * rm a b k / b)] 3)).grown hgrow (by have := hnx.size; simp; omega) (fun j hj => (hown.lt j hj).1)
      go_roundg (gk - 1)
      case measure => omega
      case rel => exact ⟨k + 1, by omega, by rw [rm_succ], by go_num, by rw [fds_succ, List.map_append]; exact hown', hb1⟩
    · obtain rfl : k = m := by omega
      go_wp2_with (first | (go_at_call 48; ((with_reducible refine (sin_t _ _ _ _ ?_ ?_).mono ?_)); (omega); (omega); rintro e w' ⟨rfl, rfl⟩))
      go_ret
      exact ⟨_, rfl, by rw [fds_length]; exact hown, hnx⟩
theorem sFrac_no (a b many : Int) (w : World) (h : ¬ FracOk a b many) : Calls Try.prog 19 #[.int .i64 a, .int .i64 b, .int .i64 many] w (IntsPost [] w) := by
  unfold FracOk at h
  have hnew := owns_new w w.heap.size 3 1 0 #[] (Nat.le_refl _) (by decide) rfl
  have hbel := (Below.refl w.heap.size w).alloc (Nat.le_refl _) (.cells #[] 3)
  by_cases h0 : many ≤ 0
  · clear h
    go_enter Try.func19, Try.ntmps19
    go_wp2_with fail
    refine wp_loop_rounds 1 ?_
    rw [rounds_succ]
    go_wp2_with fail
    go_ret
    exact ⟨_, rfl, hnew, hbel⟩
  have h0' : 0 < many := by omega
  clear h0
  by_cases h1 : 1 ≤ b ∧ b ≤ 99
  · obtain ⟨g1, g2⟩ := h1
    by_cases h3 : 0 ≤ a ∧ a ≤ b - 1
    · obtain ⟨g3, g4⟩ := h3
      have g5 : 20 < many := by omega
      clear h
      go_enter Try.func19, Try.ntmps19
      go_wp2_with fail
      refine wp_loop_rounds 1 ?_
      rw [rounds_succ]
      go_wp2_with (first | (go_at_call 48; ((with_reducible refine (sin_t _ _ _ _ ?_ ?_).mono ?_)); (omega); (omega); rintro e w' ⟨rfl, rfl⟩))
      go_ret
      exact ⟨_, rfl, hnew, hbel⟩
    · have g4 : a < 0 ∨ b - 1 < a := by omega
      clear h h3
      go_enter Try.func19, Try.ntmps19
      go_wp2_with fail
      refine wp_loop_rounds 1 ?_
      rw [rounds_succ]
      go_wp2_with (first | (go_at_call 48; ((with_reducible refine (sin_t _ _ _ _ ?_ ?_).mono ?_)); (omega); (omega); rintro e w' ⟨rfl, rfl⟩) | (go_at_call 48; ((with_reducible refine (sin_f _ _ _ _ ?_).mono ?_)); (omega); rintro e w' ⟨rfl, rfl⟩))
      go_ret
      exact ⟨_, rfl, hnew, hbel⟩
  · have g4 : b < 1 ∨ 99 < b := by omega
    clear h h1
    go_enter Try.func19, Try.ntmps19
    go_wp2_with fail
    refine wp_loop_rounds 1 ?_
    rw [rounds_succ]
    go_wp2_with (first | (go_at_call 48; ((with_reducible refine (sin_f _ _ _ _ ?_).mono ?_)); (omega); rintro e w' ⟨rfl, rfl⟩))
    go_ret
    exact ⟨_, rfl, hnew, hbel⟩

/-- Both, whatever the arguments. -/
def FD (a b many : Int) : List Int := if 1 ≤ b ∧ b ≤ 99 ∧ 0 ≤ a ∧ a ≤ b - 1 ∧ 0 ≤ many ∧ many ≤ 20 then fds a b many.toNat else []
theorem FD_length (a b many : Int) : (FD a b many).length ≤ 20 := by
  unfold FD
  split
  · rw [fds_length]; omega
  · simp
theorem iFrac (a b many : Int) (w : World) : Calls Try.prog 20 #[.int .i64 a, .int .i64 b, .int .i64 many] w (IntsPost (FD a b many) w) := by
  by_cases h : FracOk a b many
  · have e : FD a b many = fds a b many.toNat := if_pos h
    obtain ⟨h1, h2, h3, h4, h5, h6⟩ := h
    rw [e]
    obtain ⟨m, rfl⟩ := Int.eq_ofNat_of_zero_le h5
    exact iFrac_yes a b m w h1 h2 h3 h4 (by omega)
  · have e : FD a b many = [] := if_neg h
    rw [e]
    exact iFrac_no a b many w h
theorem sFrac (a b many : Int) (w : World) : Calls Try.prog 19 #[.int .i64 a, .int .i64 b, .int .i64 many] w (IntsPost (FD a b many) w) := by
  by_cases h : FracOk a b many
  · have e : FD a b many = fds a b many.toNat := if_pos h
    obtain ⟨h1, h2, h3, h4, h5, h6⟩ := h
    rw [e]
    obtain ⟨m, rfl⟩ := Int.eq_ofNat_of_zero_le h5
    exact sFrac_yes a b m w h1 h2 h3 h4 (by omega)
  · have e : FD a b many = [] := if_neg h
    rw [e]
    exact sFrac_no a b many w h

set_option maxHeartbeats 1000000 in
/-- The exact law on FractionDigits. -/
theorem law_ExactFractionDigits (a : Int) (_wa : (Lit.int .i64 a).wf = true) (b : Int) (_wb : (Lit.int .i64 b).wf = true) (many : Int) (_wm : (Lit.int .i64 many).wf = true) (w : World) :
    Calls Try.prog 5 #[.int .i64 a, .int .i64 b, .int .i64 many] w fun e w' => e = .returned (.bool true) ∧ Below w.heap.size w w' := by
  have hlen := FD_length a b many
  have cs := fun W => sFrac a b many W
  have ci := fun W => iFrac a b many W
  generalize FD a b many = xs at *
  have CS := Lib.hid cs
  have CI := Lib.hid ci
  clear cs ci
  go_enter Try.func5, Try.ntmps5
  go_wp2_with fail
  refine (CS.out _).mono ?_
  rintro e w1 ⟨v0, rfl, o0, b1⟩
  go_wp2_with fail
  refine (CI.out _).mono ?_
  rintro e w2 ⟨v1, rfl, o1, b2⟩
  have s0 := (IntSl.of_own o0).below b2 (Nat.le_refl _)
  go_wp2_with fail
  refine (eqInts _ w2.heap.size _ _ xs (IntSl.of_own o1) (s0.mono b2.size)).mono ?_
  rintro e w3 ⟨rfl, b3⟩
  have s0' := s0.below b3 b2.size
  have o1' := own_below o1 b3
  clear s0 o0 o1
  go_wp2_with fail
  refine (markInts _ _ _ _ xs 1 o1' (by omega) (by omega)).mono ?_
  rintro e w4 ⟨rfl, o4, g4⟩
  have hrow : ∀ k, v1.ownBlock = some k → w1.heap.size ≤ k := fun k hk => (o1'.lt k hk).1
  have s4 := s0'.grown g4 (by have := b2.size; have := b3.size; omega) hrow
  have hB4 : Below w.heap.size w w4 := (below_own (below_own b1 b2 b1.size) b3 (by have := b1.size; have := b2.size; omega)).grown g4 (by have := b1.size; have := b2.size; have := b3.size; omega) (fun k hk => by have := hrow k hk; have := b1.size; omega)
  have hs4 : w1.heap.size ≤ w4.heap.size := by have := b2.size; have := b3.size; have := g4.size; omega
  clear s0' o1' hrow b1 b2 b3 g4
  have m4 := IntSl.of_own (xs := marks 1 xs.length) (by rw [marks_length]; exact o4)
  go_wp2_with fail
  refine (heldInts _ _ _ 1 xs.length m4 (by omega) (by omega)).mono ?_
  rintro e w5 ⟨rfl, rfl⟩
  go_wp2_with fail
  refine (CI.out _).mono ?_
  rintro e w6 ⟨v2, rfl, o6, b6⟩
  have s6 := s4.below b6 hs4
  have m6 := m4.below b6 (Nat.le_refl _)
  have hs6 := b6.size
  go_wp2_with fail
  refine (eqInts _ w6.heap.size _ _ xs (IntSl.of_own o6) (s6.mono (by omega))).mono ?_
  rintro e w7 ⟨rfl, b7⟩
  have m7 := m6.below b7 hs6
  clear s4 s6 o6 m4 m6 o4
  go_wp2_with fail
  refine (heldInts _ _ _ 1 xs.length m7 (by omega) (by omega)).mono ?_
  rintro e w8 ⟨rfl, rfl⟩
  go_wp2_with fail
  go_ret
  exact ⟨rfl, below_own (below_own hB4 b6 hB4.size) b7 (by have := hB4.size; omega)⟩
end Go.Proofs.Ytjhidenjlkdpeaa
