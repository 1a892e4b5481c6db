/- The law on TestsOk: there may be no exercises. -/
import Derived.Test.YtfhefngpeknhlabTtsq
namespace Go.Proofs.Ytfhefngpeknhlab
set_option linter.unusedVariables false
set_option linter.unusedSimpArgs false
open Go.RowKit

theorem recs_tailq {w : World} {B n cap : Nat} {A : Option Addr} {S : Nat → Nat → ByteArray} (h : Recs w B (.slice A n cap) n 3 (SV S)) (hn : 0 < n) :
    ∃ b o, A = some ⟨b, o, none⟩ ∧ Recs w B (.slice (some ⟨b, o + 3, none⟩) (n - 1) (cap - 1)) (n - 1) 3 (SV fun i => S (i + 1)) := by
  obtain ⟨A', cap', hv, hnc, hcm, hcell⟩ := h
  cases hv
  obtain ⟨b, o, rfl, hb, hc⟩ := hcell hn
  refine ⟨b, o, rfl, _, _, rfl, by omega, by omega, fun _ => ⟨b, o + 3, rfl, hb, fun i hi j hj => ?_⟩⟩
  have := hc (i + 1) (by omega) j hj
  rw [show o + (i + 1) * 3 + j = o + 3 + i * 3 + j by omega] at this
  exact this
theorem tokB_tailq {S : Nat → Nat → ByteArray} {n : Nat} (h : tokB S n = true) : tokB (fun i => S (i + 1)) (n - 1) = true := by
  have hl := tokB_len h
  exact tokB_good (by omega) fun j hj => tokB_at (i := j + 1) h (by omega)
theorem tokB_zeroq (S : Nat → Nat → ByteArray) : tokB S 0 = true := tokB_good (by omega) fun j hj => by omega

set_option maxRecDepth 20000 in
set_option maxHeartbeats 4000000 in
/-- The law on TestsOk. -/
theorem law_TestsOk (A : Option Addr) (len cap : Nat) (w : World) (hc : CodeIn w A len cap) :
    Calls Try.prog 3 #[.slice A len cap] w fun e w' => e = .returned (.bool true) ∧ Below w.heap.size w w' := by
  have hlc := hc.1
  have hcm := hc.2.1
  unfold maxLen at hcm
  by_cases hbig : 1048576 < len
  · go_enter Try.func3, Try.ntmps3
    go_wp2_with fail
    go_ret
    exact ⟨rfl, Below.refl _ _⟩
  have hbig' : len ≤ 1048576 := by omega
  clear hbig
  go_enter Try.func3, Try.ntmps3
  go_wp2_with fail
  refine (draw_TestsOk A len cap _ hc).mono ?_
  rintro e w1 ⟨v, n, S, rfl, hn, hS, o1, b1⟩
  clear hc
  have HS : Hid (∀ i, i < n → ∀ j, j < 3 → (S i j).size ≤ maxLen) := Lib.hid fun i _ j _ => by have := hS i j; unfold maxLen; omega
  have HSt : Hid (∀ i, i < n - 1 → ∀ j, j < 3 → (S (i + 1) j).size ≤ maxLen) := Lib.hid fun i _ j _ => by have := hS (i + 1) j; unfold maxLen; omega
  have hR1 := Recs.of_own o1
  obtain ⟨A1, cap1, rfl, hnc, hcm1, _⟩ := id hR1
  have HR1 := Lib.hid hR1
  unfold maxLen at hcm1
  have CI := Lib.hid fun W hR hB => iTestsOk W w1.heap.size (.slice A1 n cap1) n S hR hB HS.out
  have CS := Lib.hid fun W hR hB => sTestsOk W w1.heap.size (.slice A1 n cap1) n S hR hB HS.out
  have CZ := Lib.hid fun W v hR => iTestsOk W W.heap.size v 0 (fun _ _ => ByteArray.empty) hR (Nat.le_refl _) (fun i hi => by omega)
  rw [tokB_zeroq] at CZ
  have HT := Lib.hid fun h => tokB_tailq (S := S) (n := n) h
  clear hS o1 hR1
  generalize tokB S n = ok at *
  go_wp2_with fail
  refine (CI.out _ HR1.out (Nat.le_refl _)).mono ?_
  rintro e w2 ⟨rfl, b2⟩
  have hB2 := below_own b1 b2 b1.size
  have HR2 := Lib.hid (HR1.out.below b2 (Nat.le_refl _))
  have hs2 := b2.size
  clear b1 b2 HR1
  go_wp2_with fail
  refine (CS.out _ HR2.out hs2).mono ?_
  rintro e w3 ⟨rfl, b3⟩
  have hB3 := below_own hB2 b3 hB2.size
  have HR3 := Lib.hid (HR2.out.below b3 hs2)
  have hs3 : w1.heap.size ≤ w3.heap.size := by have := b3.size; omega
  clear hB2 b3 HR2 hs2
  have hnew := Recs.of_own (V := SV fun _ _ => ByteArray.empty) (n := 0) (k := 3) (by rw [recCells_zero]; exact Own.of_row (owns_new w3 w3.heap.size 40 3 0 #[] (Nat.le_refl _) (by decide) rfl))
  have CN := Lib.hid (CZ.out _ _ hnew)
  have hB3a := hB3.alloc hB3.size (.cells #[] 40)
  have HR3a := Lib.hid (HR3.out.below ((Below.refl _ _).alloc (Nat.le_refl _) (.cells #[] 40)) hs3)
  have hs3a : w1.heap.size ≤ (w3.alloc (.cells #[] 40)).heap.size := by simp; omega
  clear hnew HR3 hB3
  go_wp2_with fail
  refine CN.out.mono ?_
  rintro e w4 ⟨rfl, b4⟩
  have hB4 := below_own hB3a b4 hB3a.size
  have HR4 := Lib.hid (HR3a.out.below b4 hs3a)
  have hs4 : w1.heap.size ≤ w4.heap.size := by have := b4.size; omega
  clear hB3a b4 HR3a hs3a CN
  cases ok with
  | false =>
    go_wp2_with (go_at_call 8; refine (alive_any _).mono ?_; rintro e w' ⟨rfl, rfl⟩)
    go_ret
    exact ⟨rfl, hB4⟩
  | true =>
    by_cases hz : n = 0
    · subst hz
      go_wp2_with (go_at_call 8; refine (alive_any _).mono ?_; rintro e w' ⟨rfl, rfl⟩)
      go_ret
      exact ⟨rfl, hB4⟩
    · have hz' : 0 < n := by omega
      have e0 : ((n : Int) == 0) = false := by rw [beq_eq_false_iff_ne]; omega
      obtain ⟨b, o, rfl, HRt⟩ := recs_tailq HR4.out hz'
      by_cases hc1 : cap1 = 1
      · obtain rfl : n = 1 := by omega
        subst hc1
        have HRe : Recs w4 w1.heap.size (.slice (some ⟨b, o, none⟩) 0 0) 0 3 (SV fun i => S (i + 1)) := ⟨_, _, rfl, Nat.le_refl _, Nat.zero_le _, fun h => absurd h (by omega)⟩
        have CX := Lib.hid (iTestsOk w4 w1.heap.size _ 0 (fun i => S (i + 1)) HRe hs4 (fun i hi => by omega))
        rw [tokB_zeroq] at CX
        clear hz HRt HRe
        go_wp2_with fail
        refine CX.out.mono ?_
        rintro e w7 ⟨rfl, b7⟩
        have hB7 := below_own hB4 b7 hB4.size
        go_wp2_with (go_at_call 8; refine (alive_any _).mono ?_; rintro e w' ⟨rfl, rfl⟩)
        go_ret
        exact ⟨rfl, hB7⟩
      have hc2 : 1 < cap1 := by omega
      have hc3 : cap1 - 1 ≠ 0 := by omega
      have CX := Lib.hid (iTestsOk w4 w1.heap.size _ (n - 1) (fun i => S (i + 1)) HRt hs4 HSt.out)
      rw [HT.out (by first | rfl | trivial)] at CX
      clear hz HRt
      go_wp2_with fail
      refine CX.out.mono ?_
      rintro e w7 ⟨rfl, b7⟩
      have hB7 := below_own hB4 b7 hB4.size
      go_wp2_with (go_at_call 8; refine (alive_any _).mono ?_; rintro e w' ⟨rfl, rfl⟩)
      go_ret
      exact ⟨rfl, hB7⟩
end Go.Proofs.Ytfhefngpeknhlab
