/- The laws' own helpers on lists of steps. -/
import Derived.Test.YtcpkjlgebghkgaaDoorBase
import Derived.Test.YtcpkjlgebghkgaaDoorRecs
import Derived.Deep.RegionHeld3
namespace Go.Proofs.YtcpkjlgebghkgaaDoor
set_option linter.unusedVariables false
set_option linter.unusedSimpArgs false
open Go.RowKit

theorem infoStep : (Tryd.prog.info? 60).map (fun i => (i.zero, i.size, i.bytes)) = some (some (.agg #[.int .i64 0, .int .i64 0, .int .i64 0, .int .i64 0]), 4, 32) := by kernel_rfl
theorem toStep_any (a b c d : Int) (w : World) : Calls Tryd.prog 65 #[.agg #[.int .i64 a, .int .i64 b, .int .i64 c, .int .i64 d]] w fun e w' => e = .returned (.agg #[.int .i64 a, .int .i64 b, .int .i64 c, .int .i64 d]) ∧ Below w.heap.size w w' := by
  go_enter Tryd.func65, Tryd.ntmps65
  go_wp2_with fail
  exact bodyPost_ret (v := .agg #[.int .i64 a, .int .i64 b, .int .i64 c, .int .i64 d]) (by simp [results, Tryd.results65, go_sem]) rfl ⟨rfl, (((Below.refl _ _).alloc (Nat.le_refl _) _).alloc (by simp) _).alloc (by simp; omega) _⟩

set_option maxHeartbeats 2000000 in
theorem toStepS_any (w : World) (B : Nat) (v : Value) (n : Nat) (F : Nat → Nat → Int) (hR : Recs w B v n 4 (IV F)) (hBw : B ≤ w.heap.size) (hn : n ≤ 1048576) :
    Calls Tryd.prog 26 #[v] w fun e w' => ∃ v', e = .returned v' ∧ Own w' w.heap.size 60 4 v' n (recCells 4 (IV F) n) ∧ Below w.heap.size w w' := by
  obtain ⟨A, cap, rfl, hnc, hcm, hcell⟩ := hR
  unfold maxLen at hcm
  obtain ⟨i0, hi, hz0, hz1, hz2⟩ := info_parts infoStep
  have Hc := Lib.hid hcell
  clear hcell
  go_enter Tryd.func26, Tryd.ntmps26
  go_wp2_with (first | (at_make; refine wpList_make_full _ rfl _ _ 39 rfl w.heap.size 60 i0 _ 4 Tryd.underlying39 hi hz0 hz1 _ _ _ _ n rfl rfl rfl rfl (by rw [hz2]; omega) (by unfold maxLen; omega) (Nat.le_refl _) ?_; intro w1 hown1 hgr1))
  have hown0 : Own w1 w.heap.size 60 4 (.slice (some ⟨w.heap.size, 0, none⟩) n n) n (recCells 4 (mix (IV F) (IV fun _ _ => 0) 0) n) := by
    rw [mix_zero]; rw [zeroCells_recs n 4 (.int .i64 0) (by decide) _ rfl] at hown1; exact Own.of_row hown1
  have hB0 : Below w.heap.size w w1 := (Below.refl _ _).grown hgr1 (Nat.le_refl _) (fun k h => by cases h)
  clear hown1 hgr1
  go_loopg [4] n (fun g s4 wr => ∃ k : Nat, g + k = n ∧ s4 = .int .i64 k ∧ Own wr w.heap.size 60 4 (.slice (some ⟨w.heap.size, 0, none⟩) n n) n (recCells 4 (mix (IV F) (IV fun _ _ => 0) k) n) ∧ Below w.heap.size w wr)
  case atStart => exact ⟨0, rfl, rfl, hown0, hB0⟩
  case round =>
    obtain ⟨k, hk, rfl, hown, hB⟩ := hrel
    by_cases hlt : k < n
    · obtain ⟨b, o, rfl, hb, hc⟩ := Hc.out (by omega)
      have hbw : b < w.heap.size := by omega
      have e0 := (hB.cell (p := ⟨b, o + k * 4, none⟩) hbw).trans (hc k hlt 0 (by omega))
      have e1 := (hB.cell (p := ⟨b, o + k * 4 + 1, none⟩) hbw).trans (hc k hlt 1 (by omega))
      have e2 := (hB.cell (p := ⟨b, o + k * 4 + 2, none⟩) hbw).trans (hc k hlt 2 (by omega))
      have e3 := (hB.cell (p := ⟨b, o + k * 4 + 3, none⟩) hbw).trans (hc k hlt 3 (by omega))
      simp only [IV] at e0 e1 e2 e3
      clear hc
      go_wp2_with fail
      refine (toStep_any _ _ _ _ _).mono ?_
      rintro e w2 ⟨rfl, b2⟩
      have hown2 := hown.below b2
      have hB2 := below_own hB b2 hB.size
      clear hown hB e0 e1 e2 e3
      obtain ⟨g', cap', hv, _, _, _, _, hcell, hfz⟩ := hown2.at_ (by omega)
      cases hv
      have c0 : w2.cell? ⟨w.heap.size, k * 4, none⟩ = _ := hcell (k * 4 + 0) _ (recCells_at (k := 4) (V := mix (IV F) (IV fun _ _ => 0) k) hlt (show 0 < 4 by decide))
      have c1 := hcell _ _ (recCells_at (k := 4) (V := mix (IV F) (IV fun _ _ => 0) k) hlt (show 1 < 4 by decide))
      have c2 := hcell _ _ (recCells_at (k := 4) (V := mix (IV F) (IV fun _ _ => 0) k) hlt (show 2 < 4 by decide))
      have c3 := hcell _ _ (recCells_at (k := 4) (V := mix (IV F) (IV fun _ _ => 0) k) hlt (show 3 < 4 by decide))
      have z0 := hfz (k * 4)
      have z1 := hfz (k * 4 + 1)
      have z2 := hfz (k * 4 + 2)
      have z3 := hfz (k * 4 + 3)
      clear hcell hfz
      go_wp2
      go_roundg (gk - 1)
      case measure => omega
      case rel =>
        exact ⟨k + 1, by omega, by go_num, put4 (V := IV F) hown2 hlt, (((hB2.setCell (p := ⟨w.heap.size, k * 4, none⟩) (Nat.le_refl _) _).setCell (p := ⟨w.heap.size, k * 4 + 1, none⟩) (Nat.le_refl _) _).setCell (p := ⟨w.heap.size, k * 4 + 2, none⟩) (Nat.le_refl _) _).setCell (p := ⟨w.heap.size, k * 4 + 3, none⟩) (Nat.le_refl _) _⟩
    · obtain rfl : k = n := by omega
      go_wp2
      go_ret
      exact ⟨_, rfl, by rw [mix_all] at hown; exact hown, hB⟩

set_option maxHeartbeats 1000000 in
theorem eqStep_t (a b c d : Int) (w : World) : Calls Tryd.prog 68 #[.agg #[.int .i64 a, .int .i64 b, .int .i64 c, .int .i64 d], .agg #[.int .i64 a, .int .i64 b, .int .i64 c, .int .i64 d]] w fun e w' => e = .returned (.bool true) ∧ Below w.heap.size w w' := by
  go_enter Tryd.func68, Tryd.ntmps68
  go_wp2_with fail
  go_ret
  exact ⟨rfl, ((Below.refl _ _).alloc (Nat.le_refl _) _).alloc (by simp) _⟩

set_option maxHeartbeats 4000000 in
theorem eqStepS_t (w : World) (B : Nat) (v1 v2 : Value) (n : Nat) (F : Nat → Nat → Int) (h1 : Recs w B v1 n 4 (IV F)) (h2 : Recs w B v2 n 4 (IV F)) (hBw : B ≤ w.heap.size) :
    Calls Tryd.prog 28 #[v1, v2] w fun e w' => e = .returned (.bool true) ∧ Below w.heap.size w w' := by
  obtain ⟨A1, c1, rfl, l1, m1, r1⟩ := h1
  obtain ⟨A2, c2, rfl, l2, m2, r2⟩ := h2
  have R1 := Lib.hid r1
  have R2 := Lib.hid r2
  clear r1 r2
  unfold maxLen at m1 m2
  go_enter Tryd.func28, Tryd.ntmps28
  go_wp2_with fail
  go_loopg [5] n (fun g s5 wr => ∃ k : Nat, g + k = n ∧ s5 = .int .i64 k ∧ Below w.heap.size w wr)
  case atStart => exact ⟨0, rfl, rfl, Below.refl _ _⟩
  case round =>
    obtain ⟨k, hk, rfl, hB⟩ := hrel
    by_cases hlt : k < n
    · obtain ⟨b1, o1, rfl, hb1, hc1⟩ := R1.out (by omega)
      obtain ⟨b2, o2, rfl, hb2, hc2⟩ := R2.out (by omega)
      have hbw1 : b1 < w.heap.size := by omega
      have hbw2 : b2 < w.heap.size := by omega
      have e0 := (hB.cell (p := ⟨b1, o1 + k * 4, none⟩) hbw1).trans (hc1 k hlt 0 (by omega))
      have e1 := (hB.cell (p := ⟨b1, o1 + k * 4 + 1, none⟩) hbw1).trans (hc1 k hlt 1 (by omega))
      have e2 := (hB.cell (p := ⟨b1, o1 + k * 4 + 2, none⟩) hbw1).trans (hc1 k hlt 2 (by omega))
      have e3 := (hB.cell (p := ⟨b1, o1 + k * 4 + 3, none⟩) hbw1).trans (hc1 k hlt 3 (by omega))
      have f0 := (hB.cell (p := ⟨b2, o2 + k * 4, none⟩) hbw2).trans (hc2 k hlt 0 (by omega))
      have f1 := (hB.cell (p := ⟨b2, o2 + k * 4 + 1, none⟩) hbw2).trans (hc2 k hlt 1 (by omega))
      have f2 := (hB.cell (p := ⟨b2, o2 + k * 4 + 2, none⟩) hbw2).trans (hc2 k hlt 2 (by omega))
      have f3 := (hB.cell (p := ⟨b2, o2 + k * 4 + 3, none⟩) hbw2).trans (hc2 k hlt 3 (by omega))
      simp only [IV] at e0 e1 e2 e3 f0 f1 f2 f3
      clear hc1 hc2
      have i1 : (k : Int) < (n : Int) := by omega
      have w1' : b1 < wr.heap.size := by have := hB.size; omega
      have w2' : b2 < wr.heap.size := by have := hB.size; omega
      have HB := Lib.hid hB
      clear hB
      go_wp2_with fail
      go_region_held3 (fun w' => w'.cell? ⟨b1, o1 + k * 4, none⟩ = some (.int .i64 (F k 0)) ∧ w'.cell? ⟨b1, o1 + k * 4 + 1, none⟩ = some (.int .i64 (F k 1)) ∧ w'.cell? ⟨b1, o1 + k * 4 + 2, none⟩ = some (.int .i64 (F k 2)) ∧ w'.cell? ⟨b1, o1 + k * 4 + 3, none⟩ = some (.int .i64 (F k 3)) ∧ w'.cell? ⟨b2, o2 + k * 4, none⟩ = some (.int .i64 (F k 0)) ∧ w'.cell? ⟨b2, o2 + k * 4 + 1, none⟩ = some (.int .i64 (F k 1)) ∧ w'.cell? ⟨b2, o2 + k * 4 + 2, none⟩ = some (.int .i64 (F k 2)) ∧ w'.cell? ⟨b2, o2 + k * 4 + 3, none⟩ = some (.int .i64 (F k 3)))
        (go_keep)
        (first | (go_at_call 68; refine (eqStep_t _ _ _ _ _).mono ?_; rintro e w2 ⟨rfl, q2⟩; have g0 := (q2.cell (p := ⟨b1, o1 + k * 4, none⟩) w1').trans e0; have g1 := (q2.cell (p := ⟨b1, o1 + k * 4 + 1, none⟩) w1').trans e1; have g2 := (q2.cell (p := ⟨b1, o1 + k * 4 + 2, none⟩) w1').trans e2; have g3 := (q2.cell (p := ⟨b1, o1 + k * 4 + 3, none⟩) w1').trans e3; have h0 := (q2.cell (p := ⟨b2, o2 + k * 4, none⟩) w2').trans f0; have h1 := (q2.cell (p := ⟨b2, o2 + k * 4 + 1, none⟩) w2').trans f1; have h2 := (q2.cell (p := ⟨b2, o2 + k * 4 + 2, none⟩) w2').trans f2; have h3 := (q2.cell (p := ⟨b2, o2 + k * 4 + 3, none⟩) w2').trans f3))
      go_wp2
      go_roundg (gk - 1)
      case measure => omega
      case rel => exact ⟨k + 1, by omega, by go_num, by first | exact below_own HB.out q2 HB.out.size | exact below_own HB.out.drew q2 HB.out.size⟩
    · obtain rfl : k = n := by omega
      go_wp2
      go_ret
      exact ⟨rfl, hB⟩

theorem szStepS_big (A : Option Addr) (n cap : Nat) (left : Int) (w : World) (h0 : 0 ≤ left) (h1 : left ≤ 1048576) (hn : n ≤ cap) (hc : cap ≤ maxLen) (h : left < n) :
    Calls Tryd.prog 24 #[.slice A n cap, .int .i64 left] w fun e w' => e = .returned (.int .i64 (-1)) ∧ w = w' := by
  unfold maxLen at hc
  have h' : left - (n : Int) < 0 := by omega
  go_enter Tryd.func24, Tryd.ntmps24
  go_wp2_with fail
  go_ret
  exact ⟨rfl, rfl⟩
theorem szStepS_ok (A : Option Addr) (n cap : Nat) (left : Int) (w : World) (h0 : 0 ≤ left) (h1 : left ≤ 1048576) (hn : n ≤ cap) (hc : cap ≤ maxLen) (h : n ≤ left) :
    Calls Tryd.prog 24 #[.slice A n cap, .int .i64 left] w fun e w' => e = .returned (.int .i64 (left - n)) ∧ w = w' := by
  unfold maxLen at hc
  have h' : 0 ≤ left - (n : Int) := by omega
  go_enter Tryd.func24, Tryd.ntmps24
  go_wp2_with fail
  go_ret
  exact ⟨rfl, rfl⟩

end Go.Proofs.YtcpkjlgebghkgaaDoor
