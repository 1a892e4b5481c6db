/- The laws' own helpers on lists of exercises. -/
import Derived.Test.YtfhefngpeknhlaaDoorBase
import Derived.Test.YtfhefngpeknhlaaDoorRecs
import Derived.Deep.RegionHeld3
namespace Go.Proofs.YtfhefngpeknhlaaDoor
set_option linter.unusedVariables false
set_option linter.unusedSimpArgs false
open Go.RowKit

theorem infoTest : (Tryd.prog.info? 31).map (fun i => (i.zero, i.size, i.bytes)) = some (some (.agg #[.string ByteArray.empty, .string ByteArray.empty, .string ByteArray.empty]), 3, 48) := by kernel_rfl
theorem toTest_any (a b c : ByteArray) (w : World) : Calls Tryd.prog 69 #[.agg #[.string a, .string b, .string c]] w fun e w' => e = .returned (.agg #[.string a, .string b, .string c]) ∧ Below w.heap.size w w' := by
  go_enter Tryd.func69, Tryd.ntmps69
  go_wp2_with fail
  exact bodyPost_ret (v := .agg #[.string a, .string b, .string c]) (by simp [results, Tryd.results69, go_sem]) rfl ⟨rfl, (((Below.refl _ _).alloc (Nat.le_refl _) _).alloc (by simp) _).alloc (by simp; omega) _⟩

set_option maxHeartbeats 2000000 in
theorem toTestS_any (w : World) (B : Nat) (v : Value) (n : Nat) (F : Nat → Nat → ByteArray) (hR : Recs w B v n 3 (SV F)) (hBw : B ≤ w.heap.size) (hn : n ≤ 1048576) :
    Calls Tryd.prog 29 #[v] w fun e w' => ∃ v', e = .returned v' ∧ Own w' w.heap.size 31 3 v' n (recCells 3 (SV F) n) ∧ Below w.heap.size w w' := by
  obtain ⟨A, cap, rfl, hnc, hcm, hcell⟩ := hR
  unfold maxLen at hcm
  obtain ⟨i0, hi, hz0, hz1, hz2⟩ := info_parts infoTest
  have Hc := Lib.hid hcell
  clear hcell
  go_enter Tryd.func29, Tryd.ntmps29
  go_wp2_with (first | (at_make; refine wpList_make_full _ rfl _ _ 23 rfl w.heap.size 31 i0 _ 3 Tryd.underlying23 hi hz0 hz1 _ _ _ _ n rfl rfl rfl rfl (by rw [hz2]; omega) (by unfold maxLen; omega) (Nat.le_refl _) ?_; intro w1 hown1 hgr1))
  have hown0 : Own w1 w.heap.size 31 3 (.slice (some ⟨w.heap.size, 0, none⟩) n n) n (recCells 3 (mix (SV F) (SV fun _ _ => ByteArray.empty) 0) n) := by
    rw [mix_zero]; rw [zeroCells_recs n 3 (.string ByteArray.empty) (by decide) _ rfl] at hown1; exact Own.of_row hown1
  have hB0 : Below w.heap.size w w1 := (Below.refl _ _).grown hgr1 (Nat.le_refl _) (fun k h => by cases h)
  clear hown1 hgr1
  go_loopg [4] n (fun g s4 wr => ∃ k : Nat, g + k = n ∧ s4 = .int .i64 k ∧ Own wr w.heap.size 31 3 (.slice (some ⟨w.heap.size, 0, none⟩) n n) n (recCells 3 (mix (SV F) (SV fun _ _ => ByteArray.empty) k) n) ∧ Below w.heap.size w wr)
  case atStart => exact ⟨0, rfl, rfl, hown0, hB0⟩
  case round =>
    obtain ⟨k, hk, rfl, hown, hB⟩ := hrel
    by_cases hlt : k < n
    · obtain ⟨b, o, rfl, hb, hc⟩ := Hc.out (by omega)
      have hbw : b < w.heap.size := by omega
      have e0 := (hB.cell (p := ⟨b, o + k * 3, none⟩) hbw).trans (hc k hlt 0 (by omega))
      have e1 := (hB.cell (p := ⟨b, o + k * 3 + 1, none⟩) hbw).trans (hc k hlt 1 (by omega))
      have e2 := (hB.cell (p := ⟨b, o + k * 3 + 2, none⟩) hbw).trans (hc k hlt 2 (by omega))
      simp only [SV] at e0 e1 e2
      clear hc
      go_wp2_with fail
      refine (toTest_any _ _ _ _).mono ?_
      rintro e w2 ⟨rfl, b2⟩
      have hown2 := hown.below b2
      have hB2 := below_own hB b2 hB.size
      clear hown hB e0 e1 e2
      obtain ⟨g', cap', hv, _, _, _, _, hcell, hfz⟩ := hown2.at_ (by omega)
      cases hv
      have c0 : w2.cell? ⟨w.heap.size, k * 3, none⟩ = _ := hcell (k * 3 + 0) _ (recCells_at (k := 3) (V := mix (SV F) (SV fun _ _ => ByteArray.empty) k) hlt (show 0 < 3 by decide))
      have c1 := hcell _ _ (recCells_at (k := 3) (V := mix (SV F) (SV fun _ _ => ByteArray.empty) k) hlt (show 1 < 3 by decide))
      have c2 := hcell _ _ (recCells_at (k := 3) (V := mix (SV F) (SV fun _ _ => ByteArray.empty) k) hlt (show 2 < 3 by decide))
      have z0 := hfz (k * 3)
      have z1 := hfz (k * 3 + 1)
      have z2 := hfz (k * 3 + 2)
      clear hcell hfz
      go_wp2
      go_roundg (gk - 1)
      case measure => omega
      case rel =>
        exact ⟨k + 1, by omega, by go_num, put3 (V := SV F) hown2 hlt, ((hB2.setCell (p := ⟨w.heap.size, k * 3, none⟩) (Nat.le_refl _) _).setCell (p := ⟨w.heap.size, k * 3 + 1, none⟩) (Nat.le_refl _) _).setCell (p := ⟨w.heap.size, k * 3 + 2, none⟩) (Nat.le_refl _) _⟩
    · obtain rfl : k = n := by omega
      go_wp2
      go_ret
      exact ⟨_, rfl, by rw [mix_all] at hown; exact hown, hB⟩

set_option maxHeartbeats 1000000 in
theorem eqTest_t (a b c : ByteArray) (w : World) : Calls Tryd.prog 70 #[.agg #[.string a, .string b, .string c], .agg #[.string a, .string b, .string c]] w fun e w' => e = .returned (.bool true) ∧ Below w.heap.size w w' := by
  go_enter Tryd.func70, Tryd.ntmps70
  go_wp2_with fail
  go_ret
  exact ⟨rfl, ((Below.refl _ _).alloc (Nat.le_refl _) _).alloc (by simp) _⟩

set_option maxHeartbeats 4000000 in
theorem eqTestS_t (w : World) (B : Nat) (v1 v2 : Value) (n : Nat) (F : Nat → Nat → ByteArray) (h1 : Recs w B v1 n 3 (SV F)) (h2 : Recs w B v2 n 3 (SV F)) (hBw : B ≤ w.heap.size) :
    Calls Tryd.prog 30 #[v1, v2] w fun e w' => e = .returned (.bool true) ∧ Below w.heap.size w w' := by
  obtain ⟨A1, c1, rfl, l1, m1, r1⟩ := h1
  obtain ⟨A2, c2, rfl, l2, m2, r2⟩ := h2
  have R1 := Lib.hid r1
  have R2 := Lib.hid r2
  clear r1 r2
  unfold maxLen at m1 m2
  go_enter Tryd.func30, Tryd.ntmps30
  go_wp2_with fail
  go_loopg [5] n (fun g s5 wr => ∃ k : Nat, g + k = n ∧ s5 = .int .i64 k ∧ Below w.heap.size w wr)
  case atStart => exact ⟨0, rfl, rfl, Below.refl _ _⟩
  case round =>
    obtain ⟨k, hk, rfl, hB⟩ := hrel
    by_cases hlt : k < n
    · obtain ⟨b1, o1, rfl, hb1, hc1⟩ := R1.out (by omega)
      obtain ⟨b2, o2, rfl, hb2, hc2⟩ := R2.out (by omega)
      have hbw1 : b1 < w.heap.size := by omega
      have hbw2 : b2 < w.heap.size := by omega
      have e0 := (hB.cell (p := ⟨b1, o1 + k * 3, none⟩) hbw1).trans (hc1 k hlt 0 (by omega))
      have e1 := (hB.cell (p := ⟨b1, o1 + k * 3 + 1, none⟩) hbw1).trans (hc1 k hlt 1 (by omega))
      have e2 := (hB.cell (p := ⟨b1, o1 + k * 3 + 2, none⟩) hbw1).trans (hc1 k hlt 2 (by omega))
      have f0 := (hB.cell (p := ⟨b2, o2 + k * 3, none⟩) hbw2).trans (hc2 k hlt 0 (by omega))
      have f1 := (hB.cell (p := ⟨b2, o2 + k * 3 + 1, none⟩) hbw2).trans (hc2 k hlt 1 (by omega))
      have f2 := (hB.cell (p := ⟨b2, o2 + k * 3 + 2, none⟩) hbw2).trans (hc2 k hlt 2 (by omega))
      simp only [SV] at e0 e1 e2 f0 f1 f2
      clear hc1 hc2
      have i1 : (k : Int) < (n : Int) := by omega
      have w1' : b1 < wr.heap.size := by have := hB.size; omega
      have w2' : b2 < wr.heap.size := by have := hB.size; omega
      have HB := Lib.hid hB
      clear hB
      go_wp2_with fail
      go_region_held3 (fun w' => w'.cell? ⟨b1, o1 + k * 3, none⟩ = some (.string (F k 0)) ∧ w'.cell? ⟨b1, o1 + k * 3 + 1, none⟩ = some (.string (F k 1)) ∧ w'.cell? ⟨b1, o1 + k * 3 + 2, none⟩ = some (.string (F k 2)) ∧ w'.cell? ⟨b2, o2 + k * 3, none⟩ = some (.string (F k 0)) ∧ w'.cell? ⟨b2, o2 + k * 3 + 1, none⟩ = some (.string (F k 1)) ∧ w'.cell? ⟨b2, o2 + k * 3 + 2, none⟩ = some (.string (F k 2)))
        (go_keep)
        (first | (go_at_call 70; refine (eqTest_t _ _ _ _).mono ?_; rintro e w2 ⟨rfl, q2⟩; have g0 := (q2.cell (p := ⟨b1, o1 + k * 3, none⟩) w1').trans e0; have g1 := (q2.cell (p := ⟨b1, o1 + k * 3 + 1, none⟩) w1').trans e1; have g2 := (q2.cell (p := ⟨b1, o1 + k * 3 + 2, none⟩) w1').trans e2; have h0 := (q2.cell (p := ⟨b2, o2 + k * 3, none⟩) w2').trans f0; have h1 := (q2.cell (p := ⟨b2, o2 + k * 3 + 1, none⟩) w2').trans f1; have h2 := (q2.cell (p := ⟨b2, o2 + k * 3 + 2, none⟩) w2').trans f2))
      go_wp2
      go_roundg (gk - 1)
      case measure => omega
      case rel => exact ⟨k + 1, by omega, by go_num, by first | exact below_own HB.out q2 HB.out.size | exact below_own HB.out.drew q2 HB.out.size⟩
    · obtain rfl : k = n := by omega
      go_wp2
      go_ret
      exact ⟨rfl, hB⟩

/-- What is left of so many; less than 0 if there is too much. -/
def SzPost (left : Int) (w : World) (e : Ending) (w' : World) : Prop := ∃ r : Int, e = .returned (.int .i64 r) ∧ -1 ≤ r ∧ r ≤ left ∧ Below w.heap.size w w'
set_option maxHeartbeats 1000000 in
theorem szTest_any (a b c : ByteArray) (left : Int) (w : World) (ha : a.size ≤ maxLen) (hb : b.size ≤ maxLen) (hc : c.size ≤ maxLen) (h0 : 0 ≤ left) (h1 : left ≤ 1048576) :
    Calls Tryd.prog 68 #[.agg #[.string a, .string b, .string c], .int .i64 left] w (SzPost left w) := by
  unfold maxLen at ha hb hc
  have hbel := (Below.refl w.heap.size w).alloc (Nat.le_refl _) (.cells #[.string a, .string b, .string c] 71)
  by_cases t1 : left - a.size < 0
  · go_enter Tryd.func68, Tryd.ntmps68
    go_wp2_with fail
    go_ret
    exact ⟨-1, rfl, by omega, by omega, hbel⟩
  have t1' : 0 ≤ left - a.size := by omega
  clear t1
  by_cases t2 : left - a.size - b.size < 0
  · go_enter Tryd.func68, Tryd.ntmps68
    go_wp2_with fail
    go_ret
    exact ⟨-1, rfl, by omega, by omega, hbel⟩
  have t2' : 0 ≤ left - a.size - b.size := by omega
  clear t2
  by_cases t3 : left - a.size - b.size - c.size < 0
  · go_enter Tryd.func68, Tryd.ntmps68
    go_wp2_with fail
    go_ret
    exact ⟨-1, rfl, by omega, by omega, hbel⟩
  have t3' : 0 ≤ left - a.size - b.size - c.size := by omega
  clear t3
  go_enter Tryd.func68, Tryd.ntmps68
  go_wp2_with fail
  go_ret
  exact ⟨_, rfl, by omega, by omega, hbel⟩

/-- What is left behind a list; if it is not less than 0, the list is not long. -/
def SzSPost (n : Nat) (left : Int) (w : World) (e : Ending) (w' : World) : Prop := ∃ r : Int, e = .returned (.int .i64 r) ∧ -1 ≤ r ∧ r ≤ left ∧ (0 ≤ r → n ≤ 1048576) ∧ Below w.heap.size w w'
set_option maxHeartbeats 2000000 in
theorem szTestS_any (w : World) (B : Nat) (v : Value) (n : Nat) (F : Nat → Nat → ByteArray) (left : Int) (hR : Recs w B v n 3 (SV F)) (hBw : B ≤ w.heap.size) (hF : ∀ i, i < n → ∀ j, j < 3 → (F i j).size ≤ maxLen) (h0 : 0 ≤ left) (h1 : left ≤ 1048576) :
    Calls Tryd.prog 28 #[v, .int .i64 left] w (SzSPost n left w) := by
  obtain ⟨A, cap, rfl, hnc, hcm, hcell⟩ := hR
  unfold maxLen at hcm
  have Hc := Lib.hid hcell
  have HF := Lib.hid hF
  clear hcell hF
  by_cases t1 : left - n < 0
  · go_enter Tryd.func28, Tryd.ntmps28
    go_wp2_with fail
    go_ret
    exact ⟨-1, rfl, by omega, by omega, fun h => by omega, Below.refl _ _⟩
  have t1' : 0 ≤ left - n := by omega
  clear t1
  go_enter Tryd.func28, Tryd.ntmps28
  go_wp2_with fail
  go_loopg [1, 5] n (fun g s1 s5 wr => ∃ k : Nat, ∃ l : Int, g + k = n ∧ s5 = .int .i64 k ∧ s1 = .int .i64 l ∧ 0 ≤ l ∧ l ≤ left ∧ Below w.heap.size w wr)
  case atStart => exact ⟨0, left - n, rfl, rfl, rfl, t1', by omega, Below.refl _ _⟩
  case round =>
    obtain ⟨k, l, hk, rfl, rfl, hl0, hl1, hB⟩ := hrel
    by_cases hlt : k < n
    · obtain ⟨b, o, rfl, hb, hc⟩ := Hc.out (by omega)
      have hbw : b < w.heap.size := by omega
      have e0 := (hB.cell (p := ⟨b, o + k * 3, none⟩) hbw).trans (hc k hlt 0 (by omega))
      have e1 := (hB.cell (p := ⟨b, o + k * 3 + 1, none⟩) hbw).trans (hc k hlt 1 (by omega))
      have e2 := (hB.cell (p := ⟨b, o + k * 3 + 2, none⟩) hbw).trans (hc k hlt 2 (by omega))
      simp only [SV] at e0 e1 e2
      clear hc
      go_wp2_with fail
      refine (szTest_any _ _ _ l _ (HF.out k hlt 0 (by omega)) (HF.out k hlt 1 (by omega)) (HF.out k hlt 2 (by omega)) hl0 (by omega)).mono ?_
      rintro e w2 ⟨r, rfl, hr0, hr1, b2⟩
      have hB2 := below_own hB b2 hB.size
      clear hB e0 e1 e2
      by_cases hr : r < 0
      · go_wp2_with fail
        go_ret
        exact ⟨-1, rfl, by omega, by omega, fun h => by omega, hB2⟩
      · have hr' : 0 ≤ r := by omega
        clear hr
        go_wp2_with fail
        go_roundg (gk - 1)
        case measure => omega
        case rel => exact ⟨k + 1, r, by omega, by go_num, rfl, hr', by omega, hB2⟩
    · obtain rfl : k = n := by omega
      go_wp2
      go_ret
      exact ⟨l, rfl, by omega, by omega, fun _ => by omega, hB⟩
end Go.Proofs.YtfhefngpeknhlaaDoor
