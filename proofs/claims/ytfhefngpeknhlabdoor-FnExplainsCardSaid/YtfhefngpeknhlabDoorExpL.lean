/- The law on Explains: whoever keeps to a way is explained by it. -/
import Derived.Test.YtfhefngpeknhlabDoorLst
import Derived.Test.YtfhefngpeknhlabDoorAnsI
namespace Go.Proofs.YtfhefngpeknhlabDoor
set_option linter.unusedVariables false
set_option linter.unusedSimpArgs false
open Go.RowKit

set_option maxRecDepth 20000 in
set_option maxHeartbeats 4000000 in
/-- The law on Explains. -/
theorem law_Explains (A : Option Addr) (len cap : Nat) (w : World) (hc : CodeIn w A len cap) :
    Calls Tryd.prog 5 #[.slice A len cap] w fun e w' => e = .returned (.bool true) ∧ Below w.heap.size w w' := by
  have hlc := hc.1
  have hcm := hc.2.1
  unfold maxLen at hcm
  by_cases hbig : 1048576 < len
  · go_enter Tryd.func5, Tryd.ntmps5
    go_wp2_with fail
    go_ret
    exact ⟨rfl, Below.refl _ _⟩
  have hbig' : len ≤ 1048576 := by omega
  clear hbig
  go_enter Tryd.func5, Tryd.ntmps5
  go_wp2_with fail
  refine (draw_Explains A len cap _ hc).mono ?_
  rintro e w1 ⟨v, n, S, way, rfl, hn, hS, hw0, hw1, o1, b1⟩
  clear hc
  have HS : Hid (∀ i, i < n → ∀ j, j < 3 → (S i j).size ≤ maxLen) := Lib.hid fun i _ j _ => by have := hS i j; unfold maxLen; omega
  have HSt : Hid (∀ i, i < n - 1 → ∀ j, j < 3 → (S (i + 1) j).size ≤ maxLen) := Lib.hid fun i _ j _ => by have := hS (i + 1) j; unfold maxLen; omega
  have HSa : Hid (∀ i, i < n → ∀ j, j < 3 → (abS S way i j).size ≤ maxLen) := Lib.hid fun i _ j _ => by have := abS_size S way 110 (by decide) i j (hS i j); unfold maxLen; omega
  have hR1 := Recs.of_own o1
  obtain ⟨A1, cap1, rfl, hnc, hcm1, _⟩ := id hR1
  have HR1 := Lib.hid hR1
  unfold maxLen at hcm1
  have CI := Lib.hid fun W hR hB => iExplains W w1.heap.size (.slice A1 n cap1) n S way hR hB HS.out
  have CS := Lib.hid fun W hR hB => sExplains W w1.heap.size (.slice A1 n cap1) n S way hR hB HS.out
  have CT := Lib.hid fun W hR hB => sTestsOk W w1.heap.size (.slice A1 n cap1) n S hR hB HS.out
  have CA := Lib.hid fun W hR hB => iAnswered W w1.heap.size (.slice A1 n cap1) n S way hR hB HS.out
  have HE0 := Lib.hid fun h => expB_none (S := S) (n := n) (way := way) h
  have HE1 := Lib.hid fun h => expB_out (S := S) (n := n) (way := way) h
  clear hS o1 hR1
  go_wp2_with fail
  refine (CI.out _ HR1.out (Nat.le_refl _)).mono ?_
  rintro e w2 ⟨rfl, b2⟩
  have hB2 := below_own b1 b2 b1.size
  have HR2 := Lib.hid (HR1.out.below b2 (Nat.le_refl _))
  have hs2 := b2.size
  clear b1 b2 HR1
  go_wp2_with fail
  refine (CS.out _ HR2.out hs2).mono ?_
  rintro e w3 ⟨rfl, b3⟩
  have hB3 := below_own hB2 b3 hB2.size
  have HR3 := Lib.hid (HR2.out.below b3 hs2)
  have hs3 : w1.heap.size ≤ w3.heap.size := by have := b3.size; omega
  clear hB2 b3 HR2 hs2
  generalize hok : expB S n way = ok at *
  go_wp2_with fail
  refine (CT.out _ HR3.out hs3).mono ?_
  rintro e w4 ⟨rfl, b4⟩
  have hB4 := below_own hB3 b4 hB3.size
  have HR4 := Lib.hid (HR3.out.below b4 hs3)
  have hs4 : w1.heap.size ≤ w4.heap.size := by have := b4.size; omega
  clear hB3 b4 HR3 hs3
  cases hk : tokB S n with
  | false =>
    obtain rfl : false = ok := (HE0.out hk).symm
    clear hok
    go_wp2_with (go_at_call 11; refine (alive_any _).mono ?_; rintro e w' ⟨rfl, rfl⟩)
    go_ret
    exact ⟨rfl, hB4⟩
  | true =>
    by_cases hlo : way < 0
    · obtain rfl : false = ok := (HE1.out (.inl hlo)).symm
      clear hok
      go_wp2_with (go_at_call 11; refine (alive_any _).mono ?_; rintro e w' ⟨rfl, rfl⟩)
      go_ret
      exact ⟨rfl, hB4⟩
    have hlo' : 0 ≤ way := by omega
    clear hlo
    by_cases hhi : 16 ≤ way
    · obtain rfl : false = ok := (HE1.out (.inr (by omega))).symm
      clear hok
      go_wp2_with (go_at_call 11; refine (alive_any _).mono ?_; rintro e w' ⟨rfl, rfl⟩)
      go_ret
      exact ⟨rfl, hB4⟩
    have hhi' : way < 16 := by omega
    clear hhi HE0 HE1
    have HA := Lib.hid (abN_ok hk hlo' (show way ≤ 15 by omega))
    have HX := Lib.hid (expB_ab hk hlo' (show way ≤ 15 by omega))
    have HT := Lib.hid fun h => expB_tail (S := S) (n := n) (way := way) h
    rw [hok] at HT
    clear hk hok
    go_wp2_with fail
    refine (CA.out _ HR4.out hs4).mono ?_
    rintro e w5 ⟨v5, rfl, o5, b5⟩
    rw [HA.out] at o5
    have hB5 := below_own hB4 b5 hB4.size
    have HR5 := Lib.hid (HR4.out.below b5 hs4)
    have hs5 : w1.heap.size ≤ w5.heap.size := by have := b5.size; omega
    have r5 := Recs.of_own o5
    clear hB4 b5 HR4 hs4 o5
    have CX := Lib.hid (iExplains w5 w5.heap.size v5 n (abS S way) way r5 (Nat.le_refl _) HSa.out)
    rw [HX.out] at CX
    clear r5
    go_wp2_with fail
    refine CX.out.mono ?_
    rintro e w6 ⟨rfl, b6⟩
    have hB6 := below_own hB5 b6 hB5.size
    have HR6 := Lib.hid (HR5.out.below b6 hs5)
    have hs6 : w1.heap.size ≤ w6.heap.size := by have := b6.size; omega
    clear hB5 b6 HR5 hs5 CX
    cases ok with
    | false =>
      go_wp2_with fail
      go_ret
      exact ⟨rfl, hB6⟩
    | true =>
      by_cases hz : n = 0
      · subst hz
        go_wp2_with fail
        go_ret
        exact ⟨rfl, hB6⟩
      · have hz' : 0 < n := by omega
        have e0 : ((n : Int) == 0) = false := by rw [beq_eq_false_iff_ne]; omega
        obtain ⟨b, o, rfl, HRt⟩ := recs_tail HR6.out hz'
        by_cases hc1 : cap1 = 1
        · obtain rfl : n = 1 := by omega
          subst hc1
          have HRe : Recs w6 w1.heap.size (.slice (some ⟨b, o, none⟩) 0 0) 0 3 (SV fun i => S (i + 1)) := ⟨_, _, rfl, Nat.le_refl _, Nat.zero_le _, fun h => absurd h (by omega)⟩
          have CX := Lib.hid (iExplains w6 w1.heap.size _ 0 (fun i => S (i + 1)) way HRe hs6 (fun i hi => by omega))
          rw [HT.out (by first | rfl | trivial)] at CX
          clear hz HRt HRe
          go_wp2_with fail
          refine CX.out.mono ?_
          rintro e w7 ⟨rfl, b7⟩
          have hB7 := below_own hB6 b7 hB6.size
          go_wp2_with fail
          go_ret
          exact ⟨rfl, hB7⟩
        have hc2 : 1 < cap1 := by omega
        have hc3 : cap1 - 1 ≠ 0 := by omega
        have CX := Lib.hid (iExplains w6 w1.heap.size _ (n - 1) (fun i => S (i + 1)) way HRt hs6 HSt.out)
        rw [HT.out (by first | rfl | trivial)] at CX
        clear hz HRt
        go_wp2_with fail
        refine CX.out.mono ?_
        rintro e w7 ⟨rfl, b7⟩
        have hB7 := below_own hB6 b7 hB6.size
        go_wp2_with fail
        go_ret
        exact ⟨rfl, hB7⟩
end Go.Proofs.YtfhefngpeknhlabDoor
