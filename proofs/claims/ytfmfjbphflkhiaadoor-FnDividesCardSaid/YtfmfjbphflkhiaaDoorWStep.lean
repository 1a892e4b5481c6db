/- The walks of WrongStep, of the program and of the reference. -/
import Derived.Test.YtfmfjbphflkhiaaDoorBase
import Derived.Test.YtfmfjbphflkhiaaDoorRecs
namespace Go.Proofs.YtfmfjbphflkhiaaDoor
set_option linter.unusedVariables false
set_option linter.unusedSimpArgs false
open Go.RowKit

theorem isDig_t (n : Int) (w : World) (h1 : 0 ≤ n) (h2 : n ≤ 9) : Calls Tryd.prog 61 #[.int .i64 n] w fun e w' => e = .returned (.bool true) ∧ w = w' := by
  go_enter Tryd.func61, Tryd.ntmps61
  go_wp2_with (first | (go_at_call 37; ((with_reducible refine (in_t _ _ _ _ ?_ ?_).mono ?_)); (omega); (omega); rintro e w' ⟨rfl, rfl⟩))
  go_ret
  exact ⟨rfl, rfl⟩
theorem isDig_f (n : Int) (w : World) (h : n < 0 ∨ 9 < n) : Calls Tryd.prog 61 #[.int .i64 n] w fun e w' => e = .returned (.bool false) ∧ w = w' := by
  go_enter Tryd.func61, Tryd.ntmps61
  go_wp2_with (first | (go_at_call 37; ((with_reducible refine (in_f _ _ _ _ ?_).mono ?_)); (omega); rintro e w' ⟨rfl, rfl⟩))
  go_ret
  exact ⟨rfl, rfl⟩

/-- What is left before a step. -/
def lf (F : Nat → Nat → Int) : Nat → Int
  | 0 => 0
  | i + 1 => F i 3
/-- Is a step right? -/
def stepOk (F : Nat → Nat → Int) (d : Int) (i : Nat) : Bool :=
  decide (0 ≤ F i 1 ∧ F i 1 ≤ 9 ∧ 0 ≤ F i 2 ∧ F i 2 ≤ 9 ∧ F i 0 = lf F i ∧ 0 ≤ F i 3 ∧ F i 3 ≤ d - 1 ∧ F i 2 * d + F i 3 = 10 * F i 0 + F i 1)
theorem stepOk_iff {F : Nat → Nat → Int} {d : Int} {i : Nat} : stepOk F d i = true ↔ 0 ≤ F i 1 ∧ F i 1 ≤ 9 ∧ 0 ≤ F i 2 ∧ F i 2 ≤ 9 ∧ F i 0 = lf F i ∧ 0 ≤ F i 3 ∧ F i 3 ≤ d - 1 ∧ F i 2 * d + F i 3 = 10 * F i 0 + F i 1 := by simp [stepOk]
/-- The first wrong one of n; -1. -/
def firstBad (p : Nat → Bool) (n : Nat) : Int := match (List.range n).find? (fun i => !p i) with
  | some i => i
  | none => -1
theorem firstBad_here {p : Nat → Bool} {n k : Nat} (hk : k < n) (h : p k = false) (hb : ∀ j, j < k → p j = true) : firstBad p n = k := by
  have : (List.range n).find? (fun i => !p i) = some k := by
    rw [List.find?_range_eq_some]
    exact ⟨by simp [h], by simpa using hk, fun j hj => by simp [hb j hj]⟩
  unfold firstBad
  rw [this]
theorem firstBad_none {p : Nat → Bool} {n : Nat} (h : ∀ j, j < n → p j = true) : firstBad p n = -1 := by
  have : (List.range n).find? (fun i => !p i) = none := by
    rw [List.find?_eq_none]
    intro j hj
    simp [h j (by simpa using hj)]
  unfold firstBad
  rw [this]
theorem firstBad_cases (p : Nat → Bool) (n : Nat) : (firstBad p n = -1 ∧ ∀ j, j < n → p j = true) ∨ ∃ k, k < n ∧ firstBad p n = k ∧ p k = false ∧ ∀ j, j < k → p j = true := by
  cases h : (List.range n).find? (fun i => !p i) with
  | none =>
    left
    rw [List.find?_eq_none] at h
    refine ⟨by unfold firstBad; rw [List.find?_eq_none.2 h], fun j hj => ?_⟩
    simpa using h j (by simpa using hj)
  | some k =>
    right
    have h' := h
    rw [List.find?_range_eq_some] at h
    refine ⟨k, by simpa using h.2.1, by unfold firstBad; rw [h'], by simpa using h.1, fun j hj => by simpa using h.2.2 j hj⟩
def wsI (F : Nat → Nat → Int) (n : Nat) (d : Int) : Int := if n ≤ 9 ∧ 1 ≤ d ∧ d ≤ 99 then firstBad (stepOk F d) n else -2
theorem wsI_yes {F : Nat → Nat → Int} {n : Nat} {d : Int} (h : n ≤ 9 ∧ 1 ≤ d ∧ d ≤ 99) : wsI F n d = firstBad (stepOk F d) n := if_pos h
theorem wsI_no {F : Nat → Nat → Int} {n : Nat} {d : Int} (h : ¬ (n ≤ 9 ∧ 1 ≤ d ∧ d ≤ 99)) : wsI F n d = -2 := if_neg h
theorem stepOk_false {F : Nat → Nat → Int} {d : Int} {i : Nat} (h : ¬ (0 ≤ F i 1 ∧ F i 1 ≤ 9 ∧ 0 ≤ F i 2 ∧ F i 2 ≤ 9 ∧ F i 0 = lf F i ∧ 0 ≤ F i 3 ∧ F i 3 ≤ d - 1 ∧ F i 2 * d + F i 3 = 10 * F i 0 + F i 1)) : stepOk F d i = false := by
  cases e : stepOk F d i with
  | false => rfl
  | true => exact absurd (stepOk_iff.1 e) h


set_option maxHeartbeats 4000000 in
theorem iWrongStep (w : World) (B : Nat) (v : Value) (n : Nat) (F : Nat → Nat → Int) (d : Int) (hR : Recs w B v n 4 (IV F)) (hBw : B ≤ w.heap.size) :
    Calls Tryd.prog 86 #[v, .int .i64 d] w fun e w' => e = .returned (.int .i64 (wsI F n d)) ∧ Below w.heap.size w w' := by
  obtain ⟨A, cap, rfl, hnc, hcm, hcell⟩ := hR
  unfold maxLen at hcm
  by_cases hv : n ≤ 9 ∧ 1 ≤ d ∧ d ≤ 99
  · have HW := Lib.hid (wsI_yes (F := F) hv)
    obtain ⟨hn, h1, h2⟩ := hv
    have Hc := Lib.hid hcell
    clear hcell
    go_enter Tryd.func86, Tryd.ntmps86
    go_wp2_with (first | (go_at_call 37; ((with_reducible refine (in_t _ _ _ _ ?_ ?_).mono ?_)); (omega); (omega); rintro e w' ⟨rfl, rfl⟩))
    go_loopg [5, 6, 7, 18] n (fun g s5 s6 s7 s18 wr => ∃ k : Nat, ∃ l : Int, g + k = n ∧ s18 = .int .i64 k ∧ s5 = .int .i64 l ∧ Hid (l = lf F k) ∧ 0 ≤ l ∧ l ≤ 98 ∧ (∀ j, j < k → stepOk F d j = true) ∧ Below w.heap.size w wr)
    case atStart => exact ⟨0, 0, rfl, rfl, rfl, rfl, by omega, by omega, fun j hj => by omega, Below.refl _ _⟩
    case round =>
      obtain ⟨k, l, hg, rfl, rfl, hl, l0, l1, hok, hB⟩ := hrel
      have Hok := Lib.hid hok
      clear hok
      by_cases hlt : k < n
      · obtain ⟨b, o, rfl, hb, hc⟩ := Hc.out (by omega)
        have hbw : b < w.heap.size := by omega
        have e0 := (hB.cell (p := ⟨b, o + k * 4, none⟩) hbw).trans (hc k hlt 0 (by omega))
        have e1 := (hB.cell (p := ⟨b, o + k * 4 + 1, none⟩) hbw).trans (hc k hlt 1 (by omega))
        have e2 := (hB.cell (p := ⟨b, o + k * 4 + 2, none⟩) hbw).trans (hc k hlt 2 (by omega))
        have e3 := (hB.cell (p := ⟨b, o + k * 4 + 3, none⟩) hbw).trans (hc k hlt 3 (by omega))
        simp only [IV] at e0 e1 e2 e3
        have HBad := Lib.hid (fun h => firstBad_here hlt (stepOk_false (F := F) (d := d) (i := k) h) Hok.out)
        have HGood := Lib.hid (stepOk_iff (F := F) (d := d) (i := k)).2
        rw [← hl.out] at HBad HGood
        have HN := Lib.hid (show lf F (k + 1) = F k 3 from rfl)
        clear hc
        generalize F k 0 = x0 at *
        generalize F k 1 = x1 at *
        generalize F k 2 = x2 at *
        generalize F k 3 = x3 at *
        have hBs := hB.size
        have hBel := Lib.hid (hB.alloc hBs (.cells #[.int .i64 x0, .int .i64 x1, .int .i64 x2, .int .i64 x3] 100))
        clear hB
        by_cases t1 : 0 ≤ x1 ∧ x1 ≤ 9
        · obtain ⟨t1, t1'⟩ := t1
          by_cases t2 : 0 ≤ x2 ∧ x2 ≤ 9
          · obtain ⟨t2, t2'⟩ := t2
            by_cases t3 : x0 = l
            · have t3' : (x0 != l) = false := by simp [t3]
              have HX := Lib.hid t3
              have x00 : 0 ≤ x0 := by omega
              have x01 : x0 ≤ 98 := by omega
              clear t3
              by_cases t4 : 0 ≤ x3 ∧ x3 ≤ d - 1
              · obtain ⟨t4, t4'⟩ := t4
                have m0 : 0 ≤ x2 * d := Int.mul_nonneg t2 (by omega)
                have m1 : x2 * d ≤ 9 * 99 := Int.mul_le_mul t2' h2 (by omega) (by decide)
                by_cases t5 : x2 * d + x3 = 10 * x0 + x1
                · have t5' : (x2 * d + x3 != 10 * x0 + x1) = false := by simp [t5]
                  have HG := Lib.hid (HGood.out ⟨t1, t1', t2, t2', HX.out, t4, t4', t5⟩)
                  clear t5
                  go_wp2_with (first | (go_at_call 61; ((with_reducible refine (isDig_t _ _ ?_ ?_).mono ?_)); (omega); (omega); rintro e w' ⟨rfl, rfl⟩) | (go_at_call 37; ((with_reducible refine (in_t _ _ _ _ ?_ ?_).mono ?_)); (omega); (omega); rintro e w' ⟨rfl, rfl⟩))
                  go_roundg (gk - 1)
                  case measure => omega
                  case rel => exact ⟨k + 1, x3, by omega, by go_num, rfl, HN.out.symm, by omega, by omega, fun j hj => by
                    by_cases e : j = k
                    · subst e; exact HG.out
                    · exact Hok.out j (by omega), hBel.out⟩
                · have t5' : (x2 * d + x3 != 10 * x0 + x1) = true := by simpa using t5
                  have HF := Lib.hid (HBad.out (fun h => t5 h.2.2.2.2.2.2.2))
                  clear t5
                  go_wp2_with (first | (go_at_call 61; ((with_reducible refine (isDig_t _ _ ?_ ?_).mono ?_)); (omega); (omega); rintro e w' ⟨rfl, rfl⟩) | (go_at_call 37; ((with_reducible refine (in_t _ _ _ _ ?_ ?_).mono ?_)); (omega); (omega); rintro e w' ⟨rfl, rfl⟩))
                  go_ret
                  exact ⟨by rw [HW.out, HF.out]; rfl, hBel.out⟩
              · have t4' : x3 < 0 ∨ d - 1 < x3 := by omega
                have HF := Lib.hid (HBad.out (fun h => t4 ⟨h.2.2.2.2.2.1, h.2.2.2.2.2.2.1⟩))
                clear t4
                go_wp2_with (first | (go_at_call 61; ((with_reducible refine (isDig_t _ _ ?_ ?_).mono ?_)); (omega); (omega); rintro e w' ⟨rfl, rfl⟩) | (go_at_call 37; ((with_reducible refine (in_f _ _ _ _ ?_).mono ?_)); (omega); rintro e w' ⟨rfl, rfl⟩))
                go_ret
                exact ⟨by rw [HW.out, HF.out]; rfl, hBel.out⟩
            · have t3' : (x0 != l) = true := by simpa using t3
              have HF := Lib.hid (HBad.out (fun h => t3 h.2.2.2.2.1))
              clear t3
              go_wp2_with (first | (go_at_call 61; ((with_reducible refine (isDig_t _ _ ?_ ?_).mono ?_)); (omega); (omega); rintro e w' ⟨rfl, rfl⟩))
              go_ret
              exact ⟨by rw [HW.out, HF.out]; rfl, hBel.out⟩
          · have t2' : x2 < 0 ∨ 9 < x2 := by omega
            have HF := Lib.hid (HBad.out (fun h => t2 ⟨h.2.2.1, h.2.2.2.1⟩))
            clear t2
            go_wp2_with (first | (go_at_call 61; ((with_reducible refine (isDig_t _ _ ?_ ?_).mono ?_)); (omega); (omega); rintro e w' ⟨rfl, rfl⟩) | (go_at_call 61; ((with_reducible refine (isDig_f _ _ ?_).mono ?_)); (omega); rintro e w' ⟨rfl, rfl⟩))
            go_ret
            exact ⟨by rw [HW.out, HF.out]; rfl, hBel.out⟩
        · have t1' : x1 < 0 ∨ 9 < x1 := by omega
          have HF := Lib.hid (HBad.out (fun h => t1 ⟨h.1, h.2.1⟩))
          clear t1
          go_wp2_with (first | (go_at_call 61; ((with_reducible refine (isDig_f _ _ ?_).mono ?_)); (omega); rintro e w' ⟨rfl, rfl⟩))
          go_ret
          exact ⟨by rw [HW.out, HF.out]; rfl, hBel.out⟩
      · obtain rfl : k = n := by omega
        have HF := Lib.hid (firstBad_none Hok.out)
        go_wp2
        go_ret
        exact ⟨by rw [HW.out, HF.out]; rfl, hB⟩
  · have HW := Lib.hid (wsI_no (F := F) hv)
    clear hcell
    by_cases hn : 9 < n
    · clear hv
      go_enter Tryd.func86, Tryd.ntmps86
      go_wp2_with fail
      go_ret
      exact ⟨by rw [HW.out]; rfl, Below.refl _ _⟩
    · have hn' : n ≤ 9 := by omega
      have hd : d < 1 ∨ 99 < d := by omega
      clear hv hn
      go_enter Tryd.func86, Tryd.ntmps86
      go_wp2_with (first | (go_at_call 37; ((with_reducible refine (in_f _ _ _ _ ?_).mono ?_)); (omega); rintro e w' ⟨rfl, rfl⟩))
      go_ret
      exact ⟨by rw [HW.out]; rfl, Below.refl _ _⟩

set_option maxHeartbeats 4000000 in
theorem sWrongStep (w : World) (B : Nat) (v : Value) (n : Nat) (F : Nat → Nat → Int) (d : Int) (hR : Recs w B v n 4 (IV F)) (hBw : B ≤ w.heap.size) :
    Calls Tryd.prog 90 #[v, .int .i64 d] w fun e w' => e = .returned (.int .i64 (wsI F n d)) ∧ Below w.heap.size w w' := by
  obtain ⟨A, cap, rfl, hnc, hcm, hcell⟩ := hR
  unfold maxLen at hcm
  by_cases hv : n ≤ 9 ∧ 1 ≤ d ∧ d ≤ 99
  · have HW := Lib.hid (wsI_yes (F := F) hv)
    obtain ⟨hn, h1, h2⟩ := hv
    have Hc := Lib.hid hcell
    clear hcell
    go_enter Tryd.func90, Tryd.ntmps90
    go_wp2_with (first | (go_at_call 44; ((with_reducible refine (sin_t _ _ _ _ ?_ ?_).mono ?_)); (omega); (omega); rintro e w' ⟨rfl, rfl⟩))
    go_loopg [5, 6, 7] n (fun g s5 s6 s7 wr => ∃ k : Nat, ∃ l : Int, g + k = n ∧ s6 = .int .i64 k ∧ s5 = .int .i64 l ∧ Hid (l = lf F k) ∧ 0 ≤ l ∧ l ≤ 98 ∧ (∀ j, j < k → stepOk F d j = true) ∧ Below w.heap.size w wr)
    case atStart => exact ⟨0, 0, rfl, rfl, rfl, rfl, by omega, by omega, fun j hj => by omega, Below.refl _ _⟩
    case round =>
      obtain ⟨k, l, hg, rfl, rfl, hl, l0, l1, hok, hB⟩ := hrel
      have Hok := Lib.hid hok
      clear hok
      by_cases hlt : k < n
      · obtain ⟨b, o, rfl, hb, hc⟩ := Hc.out (by omega)
        have hbw : b < w.heap.size := by omega
        have e0 := (hB.cell (p := ⟨b, o + k * 4, none⟩) hbw).trans (hc k hlt 0 (by omega))
        have e1 := (hB.cell (p := ⟨b, o + k * 4 + 1, none⟩) hbw).trans (hc k hlt 1 (by omega))
        have e2 := (hB.cell (p := ⟨b, o + k * 4 + 2, none⟩) hbw).trans (hc k hlt 2 (by omega))
        have e3 := (hB.cell (p := ⟨b, o + k * 4 + 3, none⟩) hbw).trans (hc k hlt 3 (by omega))
        simp only [IV] at e0 e1 e2 e3
        have HBad := Lib.hid (fun h => firstBad_here hlt (stepOk_false (F := F) (d := d) (i := k) h) Hok.out)
        have HGood := Lib.hid (stepOk_iff (F := F) (d := d) (i := k)).2
        rw [← hl.out] at HBad HGood
        have HN := Lib.hid (show lf F (k + 1) = F k 3 from rfl)
        clear hc
        generalize F k 0 = x0 at *
        generalize F k 1 = x1 at *
        generalize F k 2 = x2 at *
        generalize F k 3 = x3 at *
        have hBs := hB.size
        have hBel := Lib.hid (hB.alloc hBs (.cells #[.int .i64 x0, .int .i64 x1, .int .i64 x2, .int .i64 x3] 100))
        clear hB
        by_cases t1 : 0 ≤ x1 ∧ x1 ≤ 9
        · obtain ⟨t1, t1'⟩ := t1
          by_cases t2 : 0 ≤ x2 ∧ x2 ≤ 9
          · obtain ⟨t2, t2'⟩ := t2
            by_cases t3 : x0 = l
            · have t3' : (x0 != l) = false := by simp [t3]
              have HX := Lib.hid t3
              have x00 : 0 ≤ x0 := by omega
              have x01 : x0 ≤ 98 := by omega
              clear t3
              by_cases t4 : 0 ≤ x3 ∧ x3 ≤ d - 1
              · obtain ⟨t4, t4'⟩ := t4
                have m0 : 0 ≤ x2 * d := Int.mul_nonneg t2 (by omega)
                have m1 : x2 * d ≤ 9 * 99 := Int.mul_le_mul t2' h2 (by omega) (by decide)
                by_cases t5 : x2 * d + x3 = 10 * x0 + x1
                · have t5' : (x2 * d + x3 != 10 * x0 + x1) = false := by simp [t5]
                  have HG := Lib.hid (HGood.out ⟨t1, t1', t2, t2', HX.out, t4, t4', t5⟩)
                  clear t5
                  go_wp2_with (first | (go_at_call 44; ((with_reducible refine (sin_t _ _ _ _ ?_ ?_).mono ?_)); (omega); (omega); rintro e w' ⟨rfl, rfl⟩) | (go_at_call 44; ((with_reducible refine (sin_t _ _ _ _ ?_ ?_).mono ?_)); (omega); (omega); rintro e w' ⟨rfl, rfl⟩))
                  go_roundg (gk - 1)
                  case measure => omega
                  case rel => exact ⟨k + 1, x3, by omega, by go_num, rfl, HN.out.symm, by omega, by omega, fun j hj => by
                    by_cases e : j = k
                    · subst e; exact HG.out
                    · exact Hok.out j (by omega), hBel.out⟩
                · have t5' : (x2 * d + x3 != 10 * x0 + x1) = true := by simpa using t5
                  have HF := Lib.hid (HBad.out (fun h => t5 h.2.2.2.2.2.2.2))
                  clear t5
                  go_wp2_with (first | (go_at_call 44; ((with_reducible refine (sin_t _ _ _ _ ?_ ?_).mono ?_)); (omega); (omega); rintro e w' ⟨rfl, rfl⟩) | (go_at_call 44; ((with_reducible refine (sin_t _ _ _ _ ?_ ?_).mono ?_)); (omega); (omega); rintro e w' ⟨rfl, rfl⟩))
                  go_ret
                  exact ⟨by rw [HW.out, HF.out]; rfl, hBel.out⟩
              · have t4' : x3 < 0 ∨ d - 1 < x3 := by omega
                have HF := Lib.hid (HBad.out (fun h => t4 ⟨h.2.2.2.2.2.1, h.2.2.2.2.2.2.1⟩))
                clear t4
                go_wp2_with (first | (go_at_call 44; ((with_reducible refine (sin_t _ _ _ _ ?_ ?_).mono ?_)); (omega); (omega); rintro e w' ⟨rfl, rfl⟩) | (go_at_call 44; ((with_reducible refine (sin_f _ _ _ _ ?_).mono ?_)); (omega); rintro e w' ⟨rfl, rfl⟩))
                go_ret
                exact ⟨by rw [HW.out, HF.out]; rfl, hBel.out⟩
            · have t3' : (x0 != l) = true := by simpa using t3
              have HF := Lib.hid (HBad.out (fun h => t3 h.2.2.2.2.1))
              clear t3
              go_wp2_with (first | (go_at_call 44; ((with_reducible refine (sin_t _ _ _ _ ?_ ?_).mono ?_)); (omega); (omega); rintro e w' ⟨rfl, rfl⟩))
              go_ret
              exact ⟨by rw [HW.out, HF.out]; rfl, hBel.out⟩
          · have t2' : x2 < 0 ∨ 9 < x2 := by omega
            have HF := Lib.hid (HBad.out (fun h => t2 ⟨h.2.2.1, h.2.2.2.1⟩))
            clear t2
            go_wp2_with (first | (go_at_call 44; ((with_reducible refine (sin_t _ _ _ _ ?_ ?_).mono ?_)); (omega); (omega); rintro e w' ⟨rfl, rfl⟩) | (go_at_call 44; ((with_reducible refine (sin_f _ _ _ _ ?_).mono ?_)); (omega); rintro e w' ⟨rfl, rfl⟩))
            go_ret
            exact ⟨by rw [HW.out, HF.out]; rfl, hBel.out⟩
        · have t1' : x1 < 0 ∨ 9 < x1 := by omega
          have HF := Lib.hid (HBad.out (fun h => t1 ⟨h.1, h.2.1⟩))
          clear t1
          go_wp2_with (first | (go_at_call 44; ((with_reducible refine (sin_f _ _ _ _ ?_).mono ?_)); (omega); rintro e w' ⟨rfl, rfl⟩))
          go_ret
          exact ⟨by rw [HW.out, HF.out]; rfl, hBel.out⟩
      · obtain rfl : k = n := by omega
        have HF := Lib.hid (firstBad_none Hok.out)
        go_wp2
        go_ret
        exact ⟨by rw [HW.out, HF.out]; rfl, hB⟩
  · have HW := Lib.hid (wsI_no (F := F) hv)
    clear hcell
    by_cases hn : 9 < n
    · clear hv
      go_enter Tryd.func90, Tryd.ntmps90
      go_wp2_with fail
      go_ret
      exact ⟨by rw [HW.out]; rfl, Below.refl _ _⟩
    · have hn' : n ≤ 9 := by omega
      have hd : d < 1 ∨ 99 < d := by omega
      clear hv hn
      go_enter Tryd.func90, Tryd.ntmps90
      go_wp2_with (first | (go_at_call 44; ((with_reducible refine (sin_f _ _ _ _ ?_).mono ?_)); (omega); rintro e w' ⟨rfl, rfl⟩))
      go_ret
      exact ⟨by rw [HW.out]; rfl, Below.refl _ _⟩
end Go.Proofs.YtfmfjbphflkhiaaDoor
