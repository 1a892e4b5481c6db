/- The laws' marks on lists of exercises. -/
import Derived.Test.YtfhefngpeknhlaaDoorStrS
import Derived.Test.YtfhefngpeknhlaaDoorTestS
namespace Go.Proofs.YtfhefngpeknhlaaDoor
set_option linter.unusedVariables false
set_option linter.unusedSimpArgs false
open Go.RowKit

/-- The marks: each field its number's text. -/
def tmV (i j : Nat) : ByteArray := mt (1 + 3 * i + j)
theorem markText_at (x : Int) (n : Nat) (hx : x = n) (h0 : 0 < n) (h1 : n ≤ 10000000) (w : World) : Calls Tryd.prog 71 #[.int .i64 x] w fun e w' => e = .returned (.string (mt n)) ∧ Below w.heap.size w w' := by
  subst hx
  exact markText_any n h0 h1 w
theorem upd3_mix (V U : Nat → Nat → Value) (i n : Nat) : recCells 3 (upd (upd (upd (mix V U i) i 0 (V i 0)) i 1 (V i 1)) i 2 (V i 2)) n = recCells 3 (mix V U (i + 1)) n := by
  apply recCells_congr
  intro a _ j hj
  rw [mix_succ]
  unfold upd
  by_cases ha : a = i
  · subst ha
    rcases (show j = 0 ∨ j = 1 ∨ j = 2 by omega) with rfl | rfl | rfl <;> simp
  · simp [ha]
set_option maxRecDepth 20000 in
set_option maxHeartbeats 4000000 in
theorem markTestS_any (w : World) (base : Nat) (v : Value) (n : Nat) (F : Nat → Nat → ByteArray) (hown : Own w base 31 3 v n (recCells 3 (SV F) n)) (hn : n ≤ 1048576) :
    Calls Tryd.prog 31 #[v, .int .i64 1] w fun e w' => e = .returned (.int .i64 (1 + 3 * n : Nat)) ∧ Own w' base 31 3 v n (recCells 3 (SV tmV) n) ∧ w.grownBy w' v.ownBlock := by
  rcases hown.2 with ⟨rfl, hx⟩ | ⟨g, cap, cur, rfl, hb, hg, hnc, hcm, hcs, ht⟩
  · subst hx
    go_enter Tryd.func31, Tryd.ntmps31
    go_wp2
    refine wp_loop_rounds 1 ?_
    rw [rounds_succ]
    go_wp2
    go_ret
    exact ⟨rfl, by rw [recCells_zero]; exact Own.nil _ _ _ _, World.grownBy.refl _ _⟩
  · have hgl : g < w.heap.size := (Array.getElem?_eq_some_iff.1 hg).1
    have hown0 : Own w base 31 3 (.slice (some ⟨g, 0, none⟩) n cap) n (recCells 3 (mix (SV tmV) (SV F) 0) n) := by rw [mix_zero]; exact hown
    clear hown hg hb hcs ht cur
    unfold maxLen at hcm
    go_enter Tryd.func31, Tryd.ntmps31
    go_wp2_with fail
    go_loopg [1, 5] n (fun gh s1 s5 wr => ∃ k : Nat, gh + k = n ∧ s5 = .int .i64 k ∧ s1 = .int .i64 (1 + 3 * k : Nat) ∧ Own wr base 31 3 (.slice (some ⟨g, 0, none⟩) n cap) n (recCells 3 (mix (SV tmV) (SV F) k) n) ∧ w.grownBy wr (some g))
    case atStart => exact ⟨0, rfl, rfl, rfl, hown0, World.grownBy.refl _ _⟩
    case round =>
      obtain ⟨k, hi, rfl, rfl, hown, hgr⟩ := hrel
      by_cases hlt : k < n
      · go_wp2_with fail
        refine (markText_at _ (1 + 3 * k + 0) (by omega) (by omega) (by omega) _).mono ?_
        rintro e w2 ⟨rfl, b2⟩
        have o2 := hown.below b2
        have g2 := hgr.trans (grown_of_below b2 (some g))
        obtain ⟨g', cap', hv, _, _, _, _, hcell, hfz⟩ := o2.at_ (by omega)
        cases hv
        have c0 : w2.cell? ⟨g, k * 3, none⟩ = _ := hcell (k * 3 + 0) _ (recCells_at (k := 3) (V := mix (SV tmV) (SV F) k) hlt (show 0 < 3 by decide))
        have z0 := hfz (k * 3)
        generalize hm0 : mt (1 + 3 * k + 0) = m0
        have HM0 := Lib.hid hm0
        have O2 := Lib.hid (show Own (w2.setCell ⟨g, k * 3, none⟩ (.string m0)) base 31 3 (.slice (some ⟨g, 0, none⟩) n cap) n (recCells 3 (upd (mix (SV tmV) (SV F) k) k 0 (.string m0)) n) from recs_set o2 hlt (show 0 < 3 by decide) (.string m0))
        have G2 := Lib.hid (g2.trans (grown_set w2 ⟨g, k * 3, none⟩ (.string m0)))
        clear hcell hfz hown hgr b2 o2 g2 hm0
        go_wp2_with fail
        refine (markText_at _ (1 + 3 * k + 1) (by omega) (by omega) (by omega) _).mono ?_
        rintro e w3 ⟨rfl, b3⟩
        have o3 := O2.out.below b3
        have g3 := G2.out.trans (grown_of_below b3 (some g))
        obtain ⟨g', cap', hv, _, _, _, _, hcell, hfz⟩ := o3.at_ (by omega)
        cases hv
        have c1 : w3.cell? ⟨g, k * 3 + 1, none⟩ = _ := hcell (k * 3 + 1) _ (recCells_at (k := 3) (V := upd (mix (SV tmV) (SV F) k) k 0 (.string m0)) hlt (show 1 < 3 by decide))
        have z1 := hfz (k * 3 + 1)
        generalize hm1 : mt (1 + 3 * k + 1) = m1
        have HM1 := Lib.hid hm1
        have O3 := Lib.hid (recs_set o3 hlt (show 1 < 3 by decide) (.string m1))
        have G3 := Lib.hid (g3.trans (grown_set w3 ⟨g, k * 3 + 1, none⟩ (.string m1)))
        clear hcell hfz b3 o3 g3 c0 z0 O2 G2 hm1
        go_wp2_with fail
        refine (markText_at _ (1 + 3 * k + 2) (by omega) (by omega) (by omega) _).mono ?_
        rintro e w4 ⟨rfl, b4⟩
        have o4 := O3.out.below b4
        have g4 := G3.out.trans (grown_of_below b4 (some g))
        obtain ⟨g', cap', hv, _, _, _, _, hcell, hfz⟩ := o4.at_ (by omega)
        cases hv
        have c2 : w4.cell? ⟨g, k * 3 + 2, none⟩ = _ := hcell (k * 3 + 2) _ (recCells_at (k := 3) (V := upd (upd (mix (SV tmV) (SV F) k) k 0 (.string m0)) k 1 (.string m1)) hlt (show 2 < 3 by decide))
        have z2 := hfz (k * 3 + 2)
        generalize hm2 : mt (1 + 3 * k + 2) = m2
        have HM2 := Lib.hid hm2
        have O4 := Lib.hid (recs_set o4 hlt (show 2 < 3 by decide) (.string m2))
        have G4 := Lib.hid (g4.trans (grown_set w4 ⟨g, k * 3 + 2, none⟩ (.string m2)))
        clear hcell hfz b4 o4 g4 c1 z1 O3 G3 hm2
        go_wp2_with fail
        go_roundg (gk - 1)
        case measure => omega
        case rel =>
          refine ⟨k + 1, by omega, by go_num, congrArg (Value.int .i64) (by omega), ?_, G4.out⟩
          obtain rfl := HM0.out
          obtain rfl := HM1.out
          obtain rfl := HM2.out
          rw [← upd3_mix]
          exact O4.out
      · obtain rfl : k = n := by omega
        go_wp2
        go_ret
        exact ⟨rfl, by rw [mix_all] at hown; exact hown, hgr⟩

set_option maxRecDepth 20000 in
set_option maxHeartbeats 4000000 in
theorem heldTestS_any (w : World) (B : Nat) (v : Value) (n : Nat) (h : Recs w B v n 3 (SV tmV)) (hn : n ≤ 1000) (hBw : B ≤ w.heap.size) :
    Calls Tryd.prog 32 #[v, .int .i64 1] w fun e' w' => e' = .returned (.int .i64 (1 + 3 * n : Nat)) ∧ Below w.heap.size w w' := by
  obtain ⟨A, c, rfl, l1, m1, r1⟩ := h
  have R1 := Lib.hid r1
  clear r1
  unfold maxLen at m1
  go_enter Tryd.func32, Tryd.ntmps32
  go_wp2_with fail
  go_loopg [1, 5] n (fun g s1 s5 wr => ∃ i : Nat, g + i = n ∧ s5 = .int .i64 i ∧ s1 = .int .i64 (1 + 3 * i : Nat) ∧ Below w.heap.size w wr)
  case atStart => exact ⟨0, rfl, rfl, rfl, Below.refl _ _⟩
  case round =>
    obtain ⟨i, hi, rfl, rfl, hB⟩ := hrel
    by_cases hlt : i < n
    · obtain ⟨b, o, rfl, hb, hc⟩ := R1.out (by omega)
      have hbw : b < w.heap.size := by omega
      have e0 := (hB.cell (p := ⟨b, o + i * 3, none⟩) hbw).trans (hc i hlt 0 (by omega))
      have e1 := (hB.cell (p := ⟨b, o + i * 3 + 1, none⟩) hbw).trans (hc i hlt 1 (by omega))
      have e2 := (hB.cell (p := ⟨b, o + i * 3 + 2, none⟩) hbw).trans (hc i hlt 2 (by omega))
      simp only [SV, tmV] at e0 e1 e2
      have i1 : (i : Int) < (n : Int) := by omega
      have w1' : b < wr.heap.size := by have := hB.size; omega
      have HB := Lib.hid hB
      have HM0 := Lib.hid fun (x : Int) (hx : x = ((1 + 3 * i + 0 : Nat) : Int)) W => markText_at x _ hx (by omega) (by omega) W
      have HM1 := Lib.hid fun (x : Int) (hx : x = ((1 + 3 * i + 1 : Nat) : Int)) W => markText_at x _ hx (by omega) (by omega) W
      have HM2 := Lib.hid fun (x : Int) (hx : x = ((1 + 3 * i + 2 : Nat) : Int)) W => markText_at x _ hx (by omega) (by omega) W
      clear hB hc
      generalize mt (1 + 3 * i + 0) = m0 at *
      generalize mt (1 + 3 * i + 1) = m1 at *
      generalize mt (1 + 3 * i + 2) = m2 at *
      go_wp2_with fail
      go_region_held3 (fun w' => w'.cell? ⟨b, o + i * 3, none⟩ = some (.string m0))
        (go_keep)
        (first | (go_at_call 71; refine (HM0.out _ (by omega) _).mono ?_; rintro e w2 ⟨rfl, q2⟩; have g0 := (q2.cell (p := ⟨b, o + i * 3, none⟩) w1').trans e0))
      have HB2 : Hid (Below w.heap.size w w2) := Lib.hid (by first | exact below_own HB.out q2 HB.out.size | exact below_own HB.out.drew q2 HB.out.size)
      have f1 := (q2.cell (p := ⟨b, o + i * 3 + 1, none⟩) w1').trans e1
      have f2 := (q2.cell (p := ⟨b, o + i * 3 + 2, none⟩) w1').trans e2
      have w2' : b < w2.heap.size := by have := q2.size; first | omega | (simp at this; omega)
      clear e0 e1 e2 q2 HB g0
      go_wp2_with fail
      go_region_held3 (fun w' => w'.cell? ⟨b, o + i * 3 + 1, none⟩ = some (.string m1))
        (go_keep)
        (first | (go_at_call 71; refine (HM1.out _ (by omega) _).mono ?_; rintro e w3 ⟨rfl, q3⟩; have g0 := (q3.cell (p := ⟨b, o + i * 3 + 1, none⟩) w2').trans f1))
      have HB3 : Hid (Below w.heap.size w w3) := Lib.hid (by first | exact below_own HB2.out q3 HB2.out.size | exact below_own HB2.out.drew q3 HB2.out.size)
      have h2 := (q3.cell (p := ⟨b, o + i * 3 + 2, none⟩) w2').trans f2
      have w3' : b < w3.heap.size := by have := q3.size; first | omega | (simp at this; omega)
      clear f1 f2 q3 HB2 g0
      go_wp2_with fail
      go_region_held3 (fun w' => w'.cell? ⟨b, o + i * 3 + 2, none⟩ = some (.string m2))
        (go_keep)
        (first | (go_at_call 71; refine (HM2.out _ (by omega) _).mono ?_; rintro e w4 ⟨rfl, q4⟩; have g0 := (q4.cell (p := ⟨b, o + i * 3 + 2, none⟩) w3').trans h2))
      go_wp2_with fail
      go_roundg (gk - 1)
      case measure => omega
      case rel => exact ⟨i + 1, by omega, by go_num, congrArg (Value.int .i64) (by omega), by first | exact below_own HB3.out q4 HB3.out.size | exact below_own HB3.out.drew q4 HB3.out.size⟩
    · obtain rfl : i = n := by omega
      go_wp2_with fail
      go_ret
      exact ⟨rfl, hB⟩
end Go.Proofs.YtfhefngpeknhlaaDoor
