/- The walks of ScoreOf, of the program and of the reference; its exact law. -/
import Derived.Test.YtfhefngpeknhlaaDoorExp2
import Derived.Test.YtfhefngpeknhlaaDoorDif
namespace Go.Proofs.YtfhefngpeknhlaaDoor
set_option linter.unusedVariables false
set_option linter.unusedSimpArgs false
open Go.RowKit

def cntE (S : Nat → Nat → ByteArray) (k : Nat) : Nat := ((List.range k).filter (expAt S 0)).length
theorem cntE_yes {S : Nat → Nat → ByteArray} {k : Nat} (h : expAt S 0 k = true) : cntE S (k + 1) = cntE S k + 1 := by
  simp [cntE, List.range_succ, List.filter_append, h]
theorem cntE_no {S : Nat → Nat → ByteArray} {k : Nat} (h : expAt S 0 k = false) : cntE S (k + 1) = cntE S k := by
  simp [cntE, List.range_succ, List.filter_append, h]
theorem cntE_le (S : Nat → Nat → ByteArray) (k : Nat) : cntE S k ≤ k := by
  unfold cntE
  exact Nat.le_trans (List.length_filter_le _ _) (by rw [List.length_range]; exact Nat.le_refl _)
def scoI (S : Nat → Nat → ByteArray) (n : Nat) : Int := if tokB S n = true then (cntE S n : Int) else -1

set_option maxRecDepth 20000 in
set_option maxHeartbeats 4000000 in
theorem iScore (w : World) (B : Nat) (v : Value) (n : Nat) (S : Nat → Nat → ByteArray) (hR : Recs w B v n 3 (SV S)) (hBw : B ≤ w.heap.size) (hS : ∀ i, i < n → ∀ j, j < 3 → (S i j).size ≤ maxLen) :
    Calls Tryd.prog 21 #[v] w fun e w' => e = .returned (.int .i64 (scoI S n)) ∧ Below w.heap.size w w' := by
  have HT := Lib.hid (iTestsOk w B v n S hR hBw hS)
  cases hk : tokB S n with
  | false =>
    have H1 := Lib.hid (show scoI S n = -1 by simp [scoI, hk])
    rw [hk] at HT
    clear hk hS hR
    go_enter Tryd.func21, Tryd.ntmps21
    go_wp2_with fail
    refine HT.out.mono ?_
    rintro e w1 ⟨rfl, b1⟩
    go_wp2_with fail
    go_ret
    exact ⟨by rw [H1.out]; rfl, b1⟩
  | true =>
    rw [hk] at HT
    have H1 := Lib.hid (show scoI S n = (cntE S n : Int) by simp [scoI, hk])
    have hn6 := tokB_len hk
    have HTk := Lib.hid fun k (hlt : k < n) W => takenBy_any (S k 0) (S k 1) 0 (hS k hlt 0 (by omega)) (hS k hlt 1 (by omega)) (takB_num (tokB_at hk hlt)).1 (takB_num (tokB_at hk hlt)).2 (by decide) (by decide) W
    obtain ⟨A, cap, rfl, hnc, hcm, hcell⟩ := hR
    unfold maxLen at hcm
    have Hc := Lib.hid hcell
    clear hk hS hcell
    go_enter Tryd.func21, Tryd.ntmps21
    go_wp2_with fail
    refine HT.out.mono ?_
    rintro e w1 ⟨rfl, b1⟩
    go_wp2_with fail
    go_loopg [3, 5, 11] n (fun g s3 s5 s11 wr => ∃ k y : Nat, g + k = n ∧ s11 = .int .i64 k ∧ s3 = .int .i64 y ∧ Hid (y = cntE S k) ∧ Below w.heap.size w wr)
    case atStart => exact ⟨0, 0, rfl, rfl, rfl, Lib.hid rfl, b1⟩
    case round =>
      obtain ⟨k, y, hk, rfl, rfl, HY, hB⟩ := hrel
      by_cases hlt : k < n
      · obtain ⟨b, o, rfl, hb, hc⟩ := Hc.out (by omega)
        have hbw : b < w.heap.size := by omega
        have e0 := (hB.cell (p := ⟨b, o + k * 3, none⟩) hbw).trans (hc k hlt 0 (by omega))
        have e1 := (hB.cell (p := ⟨b, o + k * 3 + 1, none⟩) hbw).trans (hc k hlt 1 (by omega))
        have e2 := (hB.cell (p := ⟨b, o + k * 3 + 2, none⟩) hbw).trans (hc k hlt 2 (by omega))
        simp only [SV] at e0 e1 e2
        have hy := cntE_le S k
        rw [← HY.out] at hy
        have HK := Lib.hid (HTk.out k hlt)
        have HX := Lib.hid (show expAt S 0 k = decide (tkS (S k 0).data.toList (S k 1).data.toList 0 = S k 2) from rfl)
        have HYe := Lib.hid fun h => cntE_yes (S := S) (k := k) h
        have HNo := Lib.hid fun h => cntE_no (S := S) (k := k) h
        rw [← HY.out] at HYe HNo
        clear hc
        generalize tkS (S k 0).data.toList (S k 1).data.toList 0 = x at *
        generalize S k 0 = q0 at *
        generalize S k 1 = q1 at *
        generalize S k 2 = q2 at *
        have hbel := hB.alloc hB.size (.cells #[.string q0, .string q1, .string q2] 31)
        have hW : ∀ j u, (#[Value.string q0, .string q1, .string q2])[j]? = some u → (wr.alloc (.cells #[.string q0, .string q1, .string q2] 31)).cell? ⟨wr.heap.size, j, none⟩ = some u := fun j u hj => by rw [World.cell?_alloc_mark, hj]
        have f0 := hW 0 _ rfl
        have f1 := hW 1 _ rfl
        have f2 := hW 2 _ rfl
        have hs1 : wr.heap.size < (wr.alloc (.cells #[.string q0, .string q1, .string q2] 31)).heap.size := by simp
        clear hW hB
        go_wp2_with fail
        generalize hw1 : wr.alloc (.cells #[.string q0, .string q1, .string q2] 31) = wz at *
        have HBel := Lib.hid hbel
        clear hw1 hbel e0 e1 e2
        by_cases hx : x = q2
        · have HE := Lib.hid (HYe.out (by rw [HX.out]; simp [hx]))
          have heq : (q2.toList == x.toList) = true := by rw [hx]; exact beq_self_eq_true _
          rw [hx] at HK
          clear hx
          go_region_held3 (fun w' => w'.cell? ⟨wr.heap.size, 0, none⟩ = some (.string q0) ∧ w'.cell? ⟨wr.heap.size, 1, none⟩ = some (.string q1) ∧ w'.cell? ⟨wr.heap.size, 2, none⟩ = some (.string q2))
            (go_keep)
            (first | (go_at_call 57; refine (HK.out _).mono ?_; rintro e w2 ⟨rfl, z2⟩; have g0 := (z2.cell (p := ⟨wr.heap.size, 0, none⟩) hs1).trans f0; have g1 := (z2.cell (p := ⟨wr.heap.size, 1, none⟩) hs1).trans f1; have g2 := (z2.cell (p := ⟨wr.heap.size, 2, none⟩) hs1).trans f2))
          go_wp2_with fail
          go_roundg (gk - 1)
          case measure => omega
          case rel => exact ⟨k + 1, y + 1, by omega, by go_num, by go_num, Lib.hid HE.out.symm, by first | exact below_own HBel.out z2 HBel.out.size | exact below_own HBel.out.drew z2 HBel.out.size⟩
        · have HE := Lib.hid (HNo.out (by rw [HX.out]; simp [hx]))
          have heq := strs_ne (fun e : q2 = x => hx e.symm)
          clear hx
          go_region_held3 (fun w' => w'.cell? ⟨wr.heap.size, 0, none⟩ = some (.string q0) ∧ w'.cell? ⟨wr.heap.size, 1, none⟩ = some (.string q1) ∧ w'.cell? ⟨wr.heap.size, 2, none⟩ = some (.string q2))
            (go_keep)
            (first | (go_at_call 57; refine (HK.out _).mono ?_; rintro e w2 ⟨rfl, z2⟩; have g0 := (z2.cell (p := ⟨wr.heap.size, 0, none⟩) hs1).trans f0; have g1 := (z2.cell (p := ⟨wr.heap.size, 1, none⟩) hs1).trans f1; have g2 := (z2.cell (p := ⟨wr.heap.size, 2, none⟩) hs1).trans f2))
          go_wp2_with fail
          go_roundg (gk - 1)
          case measure => omega
          case rel => exact ⟨k + 1, y, by omega, by go_num, rfl, Lib.hid HE.out.symm, by first | exact below_own HBel.out z2 HBel.out.size | exact below_own HBel.out.drew z2 HBel.out.size⟩
      · obtain rfl : k = n := by omega
        go_wp2_with fail
        go_ret
        exact ⟨by rw [H1.out, ← HY.out]; rfl, hB⟩

set_option maxRecDepth 20000 in
set_option maxHeartbeats 4000000 in
theorem sScore (w : World) (B : Nat) (v : Value) (n : Nat) (S : Nat → Nat → ByteArray) (hR : Recs w B v n 3 (SV S)) (hBw : B ≤ w.heap.size) (hS : ∀ i, i < n → ∀ j, j < 3 → (S i j).size ≤ maxLen) :
    Calls Tryd.prog 44 #[v] w fun e w' => e = .returned (.int .i64 (scoI S n)) ∧ Below w.heap.size w w' := by
  have HT := Lib.hid (sTestsOk w B v n S hR hBw hS)
  cases hk : tokB S n with
  | false =>
    have H1 := Lib.hid (show scoI S n = -1 by simp [scoI, hk])
    rw [hk] at HT
    clear hk hS hR
    go_enter Tryd.func44, Tryd.ntmps44
    go_wp2_with fail
    refine HT.out.mono ?_
    rintro e w1 ⟨rfl, b1⟩
    go_wp2_with fail
    go_ret
    exact ⟨by rw [H1.out]; rfl, b1⟩
  | true =>
    rw [hk] at HT
    have H1 := Lib.hid (show scoI S n = (cntE S n : Int) by simp [scoI, hk])
    have hn6 := tokB_len hk
    have HTk := Lib.hid fun k (hlt : k < n) W => sDifference (S k 0) (S k 1) (hS k hlt 0 (by omega)) (hS k hlt 1 (by omega)) (tokB_at hk hlt) W
    obtain ⟨A, cap, rfl, hnc, hcm, hcell⟩ := hR
    unfold maxLen at hcm
    have Hc := Lib.hid hcell
    clear hk hS hcell
    go_enter Tryd.func44, Tryd.ntmps44
    go_wp2_with fail
    refine HT.out.mono ?_
    rintro e w1 ⟨rfl, b1⟩
    go_wp2_with fail
    go_loopg [3, 4, 5, 6] n (fun g s3 s4 s5 s6 wr => ∃ k y : Nat, g + k = n ∧ s4 = .int .i64 k ∧ s3 = .int .i64 y ∧ Hid (y = cntE S k) ∧ Below w.heap.size w wr)
    case atStart => exact ⟨0, 0, rfl, rfl, rfl, Lib.hid rfl, b1⟩
    case round =>
      obtain ⟨k, y, hk, rfl, rfl, HY, hB⟩ := hrel
      by_cases hlt : k < n
      · obtain ⟨b, o, rfl, hb, hc⟩ := Hc.out (by omega)
        have hbw : b < w.heap.size := by omega
        have e0 := (hB.cell (p := ⟨b, o + k * 3, none⟩) hbw).trans (hc k hlt 0 (by omega))
        have e1 := (hB.cell (p := ⟨b, o + k * 3 + 1, none⟩) hbw).trans (hc k hlt 1 (by omega))
        have e2 := (hB.cell (p := ⟨b, o + k * 3 + 2, none⟩) hbw).trans (hc k hlt 2 (by omega))
        simp only [SV] at e0 e1 e2
        have hy := cntE_le S k
        rw [← HY.out] at hy
        have HK := Lib.hid (HTk.out k hlt)
        have HX := Lib.hid (show expAt S 0 k = decide (tkS (S k 0).data.toList (S k 1).data.toList 0 = S k 2) from rfl)
        have HYe := Lib.hid fun h => cntE_yes (S := S) (k := k) h
        have HNo := Lib.hid fun h => cntE_no (S := S) (k := k) h
        rw [← HY.out] at HYe HNo
        clear hc
        have i1 : (k : Int) < (n : Int) := by omega
        have w1' : b < wr.heap.size := by have := hB.size; omega
        have HB := Lib.hid hB
        clear hB
        generalize tkS (S k 0).data.toList (S k 1).data.toList 0 = x at *
        generalize S k 0 = q0 at *
        generalize S k 1 = q1 at *
        generalize S k 2 = q2 at *
        go_wp2_with fail
        go_region_held3 (fun w' => w'.cell? ⟨b, o + k * 3, none⟩ = some (.string q0) ∧ w'.cell? ⟨b, o + k * 3 + 1, none⟩ = some (.string q1) ∧ w'.cell? ⟨b, o + k * 3 + 2, none⟩ = some (.string q2))
          (go_keep)
          (first | (go_at_call 79; refine (HK.out _).mono ?_; rintro e w2 ⟨rfl, z2⟩; have g0 := (z2.cell (p := ⟨b, o + k * 3, none⟩) w1').trans e0; have g1 := (z2.cell (p := ⟨b, o + k * 3 + 1, none⟩) w1').trans e1; have g2 := (z2.cell (p := ⟨b, o + k * 3 + 2, none⟩) w1').trans e2))
        have HB2 : Hid (Below w.heap.size w w2) := Lib.hid (by first | exact below_own HB.out z2 HB.out.size | exact below_own HB.out.drew z2 HB.out.size)
        by_cases hx : x = q2
        · have HE := Lib.hid (HYe.out (by rw [HX.out]; simp [hx]))
          rw [hx]
          clear hx
          go_wp2_with fail
          go_roundg (gk - 1)
          case measure => omega
          case rel => exact ⟨k + 1, y + 1, by omega, by go_num, by go_num, Lib.hid HE.out.symm, HB2.out⟩
        · have HE := Lib.hid (HNo.out (by rw [HX.out]; simp [hx]))
          have heq := strs_ne hx
          clear hx
          go_wp2_with fail
          go_roundg (gk - 1)
          case measure => omega
          case rel => exact ⟨k + 1, y, by omega, by go_num, rfl, Lib.hid HE.out.symm, HB2.out⟩
      · obtain rfl : k = n := by omega
        go_wp2_with fail
        go_ret
        exact ⟨by rw [H1.out, ← HY.out]; rfl, hB⟩

end Go.Proofs.YtfhefngpeknhlaaDoor
