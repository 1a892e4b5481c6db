/- The exact law on TestsOk. -/
import Derived.Test.YtjhidenjlkdpeaaTok
import Derived.Test.YtjhidenjlkdpeaaTestS
namespace Go.Proofs.Ytjhidenjlkdpeaa
set_option linter.unusedVariables false
set_option linter.unusedSimpArgs false
open Go.RowKit

/-- What came in as exercises. -/
theorem tests_in {w : World} {A : Option Addr} {len cap : Nat} (hin : RecsIn Try.prog w A len cap 3 StrField) : ∃ S, Recs w w.heap.size (.slice A len cap) len 3 (SV S) ∧ ∀ i, i < len → ∀ j, j < 3 → (S i j).size ≤ maxLen := by
  obtain ⟨V, hR0, hQ⟩ := hin.recs (by decide)
  obtain ⟨F, hF, hFb⟩ := str_fields hQ
  exact ⟨F, hR0.congr (U := SV F) hF, fun i _ j _ => hFb i j⟩

set_option maxHeartbeats 2000000 in
theorem law_ExactTestsOk (A : Option Addr) (len cap : Nat) (w : World) (hin : RecsIn Try.prog w A len cap 3 StrField) :
    Calls Try.prog 14 #[.slice A len cap] w fun e w' => e = .returned (.bool true) ∧ Below w.heap.size w w' := by
  obtain ⟨S, hR, hS⟩ := tests_in hin
  have HS := Lib.hid hS
  clear hin hS
  go_enter Try.func14, Try.ntmps14
  go_wp2_with fail
  refine (szTestS_any _ _ _ len S _ hR (Nat.le_refl _) HS.out (by omega) (by omega)).mono ?_
  rintro e w0 ⟨r, rfl, hr0, hr1, hr2, b0⟩
  by_cases hbig : r < 0
  · go_wp2_with fail
    go_ret
    exact ⟨rfl, b0⟩
  have hpos : 0 ≤ r := by omega
  have hs : len ≤ 1048576 := hr2 hpos
  clear hbig hr2
  have hR0 := hR.below b0 (Nat.le_refl _)
  go_wp2_with fail
  refine (toTestS_any _ _ _ _ S hR0 b0.size hs).mono ?_
  rintro e w1 ⟨v1, rfl, o1, b1⟩
  have hB1 := below_own b0 b1 b0.size
  go_wp2_with fail
  refine (sTestsOk _ _ v1 len S (Recs.of_own o1) (Nat.le_refl _) HS.out).mono ?_
  rintro e w2 ⟨rfl, b2⟩
  have hB2 := below_own hB1 b2 hB1.size
  have hR2 := hR.below hB2 (Nat.le_refl _)
  have hs2 := hB2.size
  clear o1 b1 b2 b0 hB1 hR0
  go_wp2_with fail
  refine (toTestS_any _ _ _ _ S hR2 (by omega) hs).mono ?_
  rintro e w3 ⟨v3, rfl, o3, b3⟩
  have hB3 := below_own hB2 b3 hs2
  go_wp2_with fail
  refine (iTestsOk _ _ v3 len S (Recs.of_own o3) (Nat.le_refl _) HS.out).mono ?_
  rintro e w4 ⟨rfl, b4⟩
  have hB4 := below_own hB3 b4 hB3.size
  have s4 := (Recs.of_own o3).below b4 (Nat.le_refl _)
  have hR4 := hR.below hB4 (Nat.le_refl _)
  have hs4 := hB4.size
  have hs34 := b4.size
  generalize tokB S len = x at *
  clear hR hR2 o3 b3 b4
  go_wp2_with fail
  refine (toTestS_any _ _ _ _ S hR4 (by omega) hs).mono ?_
  rintro e w5 ⟨v5, rfl, o5, b5⟩
  have hB5 := below_own hB4 b5 hs4
  have s5 := s4.below b5 (by omega)
  go_wp2_with fail
  refine (eqTestS_t _ w5.heap.size _ _ len S (s5.mono (by have := b5.size; omega)) (Recs.of_own o5) (Nat.le_refl _)).mono ?_
  rintro e w6 ⟨rfl, b6⟩
  go_wp2_with fail
  go_ret
  exact ⟨rfl, below_own hB5 b6 hB5.size⟩
end Go.Proofs.Ytjhidenjlkdpeaa
