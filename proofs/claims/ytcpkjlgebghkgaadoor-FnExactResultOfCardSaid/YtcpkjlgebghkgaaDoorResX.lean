/- The exact laws on ResultOf, DividendOf, QuotientOf, Divides. -/
import Derived.Test.YtcpkjlgebghkgaaDoorRes2
import Derived.Test.YtcpkjlgebghkgaaDoorStepS
namespace Go.Proofs.YtcpkjlgebghkgaaDoor
set_option linter.unusedVariables false
set_option linter.unusedSimpArgs false
open Go.RowKit

set_option maxRecDepth 20000 in
set_option maxHeartbeats 2000000 in
theorem law_iDividend (A : Option Addr) (len cap : Nat) (d : Int) (wd : (Lit.int .i64 d).wf = true) (w : World) (hin : RecsIn Tryd.prog w A len cap 4 IntField) :
    Calls Tryd.prog 5 #[.slice A len cap, .int .i64 d] w fun e w' => e = .returned (.bool true) ∧ Below w.heap.size w w' := by
  have hlc := hin.1
  have hcm := hin.2.1
  obtain ⟨V, hR0, hQ⟩ := hin.recs (by decide)
  obtain ⟨F, hF, hFb⟩ := int_fields hQ
  have hR := hR0.congr (U := IV F) hF
  clear hR0 hQ hF V hin hFb
  by_cases hbig : (1048576 : Int) < len
  · go_enter Tryd.func5, Tryd.ntmps5
    go_wp2_with fail
    refine (szStepS_big _ _ _ _ _ (by omega) (by omega) hlc hcm hbig).mono ?_
    rintro e w' ⟨rfl, rfl⟩
    go_wp2_with fail
    go_ret
    exact ⟨rfl, Below.refl _ _⟩
  have hs : len ≤ 1048576 := by omega
  go_enter Tryd.func5, Tryd.ntmps5
  go_wp2_with fail
  refine (szStepS_ok _ _ _ _ _ (by omega) (by omega) hlc hcm (by omega)).mono ?_
  rintro e w' ⟨rfl, rfl⟩
  clear hbig
  have hpos : (0 : Int) ≤ 1048576 - (len : Int) := by omega
  go_wp2_with fail
  refine (toStepS_any _ _ _ _ F hR (Nat.le_refl _) hs).mono ?_
  rintro e w1 ⟨v1, rfl, o1, b1⟩
  go_wp2_with fail
  refine (sDividend _ _ v1 len F d (Recs.of_own o1) (Nat.le_refl _)).mono ?_
  rintro e w2 ⟨rfl, b2⟩
  have hB2 := below_own b1 b2 b1.size
  have hR2 := hR.below hB2 (Nat.le_refl _)
  have hs2 := hB2.size
  clear o1 b1 b2
  go_wp2_with fail
  refine (toStepS_any _ _ _ _ F hR2 (by omega) hs).mono ?_
  rintro e w3 ⟨v3, rfl, o3, b3⟩
  have hB3 := below_own hB2 b3 hs2
  have hR3 := hR2.below b3 (by omega)
  go_wp2_with fail
  refine (iDividend _ _ v3 len F d (Recs.of_own o3) (Nat.le_refl _)).mono ?_
  rintro e w4 ⟨rfl, b4⟩
  have hB4 := below_own hB3 b4 hB3.size
  have s4 := (Recs.of_own o3).below b4 (Nat.le_refl _)
  have hR4 := hR3.below b4 (by have := b3.size; omega)
  have hs4 := hB4.size
  have hs34 := b4.size
  generalize resS F len d = x1 at *
  generalize resR F len d = x2 at *
  generalize dvdS F len d = x3 at *
  generalize rsOk F len d = x4 at *
  clear hR hR2 hR3 o3 b3 b4
  go_wp2_with fail
  refine (toStepS_any _ _ _ _ F hR4 (by omega) hs).mono ?_
  rintro e w5 ⟨v5, rfl, o5, b5⟩
  have hB5 := below_own hB4 b5 hs4
  have s5 := s4.below b5 (by omega)
  go_wp2_with fail
  refine (eqStepS_t _ w5.heap.size _ _ len F (s5.mono (by have := b5.size; omega)) (Recs.of_own o5) (Nat.le_refl _)).mono ?_
  rintro e w6 ⟨rfl, b6⟩
  go_wp2_with fail
  go_ret
  exact ⟨rfl, below_own hB5 b6 hB5.size⟩
set_option maxRecDepth 20000 in
set_option maxHeartbeats 2000000 in
theorem law_iResult (A : Option Addr) (len cap : Nat) (d : Int) (wd : (Lit.int .i64 d).wf = true) (w : World) (hin : RecsIn Tryd.prog w A len cap 4 IntField) :
    Calls Tryd.prog 6 #[.slice A len cap, .int .i64 d] w fun e w' => e = .returned (.bool true) ∧ Below w.heap.size w w' := by
  have hlc := hin.1
  have hcm := hin.2.1
  obtain ⟨V, hR0, hQ⟩ := hin.recs (by decide)
  obtain ⟨F, hF, hFb⟩ := int_fields hQ
  have hR := hR0.congr (U := IV F) hF
  clear hR0 hQ hF V hin hFb
  by_cases hbig : (1048576 : Int) < len
  · go_enter Tryd.func6, Tryd.ntmps6
    go_wp2_with fail
    refine (szStepS_big _ _ _ _ _ (by omega) (by omega) hlc hcm hbig).mono ?_
    rintro e w' ⟨rfl, rfl⟩
    go_wp2_with fail
    go_ret
    exact ⟨rfl, Below.refl _ _⟩
  have hs : len ≤ 1048576 := by omega
  go_enter Tryd.func6, Tryd.ntmps6
  go_wp2_with fail
  refine (szStepS_ok _ _ _ _ _ (by omega) (by omega) hlc hcm (by omega)).mono ?_
  rintro e w' ⟨rfl, rfl⟩
  clear hbig
  have hpos : (0 : Int) ≤ 1048576 - (len : Int) := by omega
  go_wp2_with fail
  refine (toStepS_any _ _ _ _ F hR (Nat.le_refl _) hs).mono ?_
  rintro e w1 ⟨v1, rfl, o1, b1⟩
  go_wp2_with fail
  refine (sResult _ _ v1 len F d (Recs.of_own o1) (Nat.le_refl _)).mono ?_
  rintro e w2 ⟨rfl, b2⟩
  have hB2 := below_own b1 b2 b1.size
  have hR2 := hR.below hB2 (Nat.le_refl _)
  have hs2 := hB2.size
  clear o1 b1 b2
  go_wp2_with fail
  refine (toStepS_any _ _ _ _ F hR2 (by omega) hs).mono ?_
  rintro e w3 ⟨v3, rfl, o3, b3⟩
  have hB3 := below_own hB2 b3 hs2
  have hR3 := hR2.below b3 (by omega)
  go_wp2_with fail
  refine (iResult _ _ v3 len F d (Recs.of_own o3) (Nat.le_refl _)).mono ?_
  rintro e w4 ⟨rfl, b4⟩
  have hB4 := below_own hB3 b4 hB3.size
  have s4 := (Recs.of_own o3).below b4 (Nat.le_refl _)
  have hR4 := hR3.below b4 (by have := b3.size; omega)
  have hs4 := hB4.size
  have hs34 := b4.size
  generalize resS F len d = x1 at *
  generalize resR F len d = x2 at *
  generalize dvdS F len d = x3 at *
  generalize rsOk F len d = x4 at *
  clear hR hR2 hR3 o3 b3 b4
  go_wp2_with fail
  refine (toStepS_any _ _ _ _ F hR4 (by omega) hs).mono ?_
  rintro e w5 ⟨v5, rfl, o5, b5⟩
  have hB5 := below_own hB4 b5 hs4
  have s5 := s4.below b5 (by omega)
  go_wp2_with fail
  refine (eqStepS_t _ w5.heap.size _ _ len F (s5.mono (by have := b5.size; omega)) (Recs.of_own o5) (Nat.le_refl _)).mono ?_
  rintro e w6 ⟨rfl, b6⟩
  go_wp2_with fail
  go_ret
  exact ⟨rfl, below_own hB5 b6 hB5.size⟩
set_option maxRecDepth 20000 in
set_option maxHeartbeats 2000000 in
theorem law_iQuotient (s : ByteArray) (hs : s.size ≤ maxLen) (d : Int) (wd : (Lit.int .i64 d).wf = true) (w : World) :
    Calls Tryd.prog 4 #[.string s, .int .i64 d] w fun e w' => e = .returned (.bool true) ∧ Below w.heap.size w w' := by
  have CS := Lib.hid fun W => sQuotient s hs d W
  have CI := Lib.hid fun W => iQuotient s hs d W
  unfold maxLen at hs
  by_cases hbig : 1048576 < s.size
  · go_enter Tryd.func4, Tryd.ntmps4
    go_wp2_with fail
    go_ret
    exact ⟨rfl, Below.refl _ _⟩
  generalize quS s d = x1 at *
  generalize quR s d = x2 at *
  generalize quB s d = x3 at *
  generalize dvsB s d = x4 at *
  go_enter Tryd.func4, Tryd.ntmps4
  go_wp2_with fail
  refine (CS.out _).mono ?_
  rintro e w1 ⟨rfl, b1⟩
  go_wp2_with fail
  refine (CI.out _).mono ?_
  rintro e w2 ⟨rfl, b2⟩
  have hB2 := below_own b1 b2 b1.size
  clear b1 b2
  go_wp2_with fail
  go_ret
  exact ⟨rfl, hB2⟩
set_option maxRecDepth 20000 in
set_option maxHeartbeats 2000000 in
theorem law_iDivides (s : ByteArray) (hs : s.size ≤ maxLen) (d : Int) (wd : (Lit.int .i64 d).wf = true) (w : World) :
    Calls Tryd.prog 7 #[.string s, .int .i64 d] w fun e w' => e = .returned (.bool true) ∧ Below w.heap.size w w' := by
  have CS := Lib.hid fun W => sDivides s hs d W
  have CI := Lib.hid fun W => iDivides s hs d W
  unfold maxLen at hs
  by_cases hbig : 1048576 < s.size
  · go_enter Tryd.func7, Tryd.ntmps7
    go_wp2_with fail
    go_ret
    exact ⟨rfl, Below.refl _ _⟩
  generalize quS s d = x1 at *
  generalize quR s d = x2 at *
  generalize quB s d = x3 at *
  generalize dvsB s d = x4 at *
  go_enter Tryd.func7, Tryd.ntmps7
  go_wp2_with fail
  refine (CS.out _).mono ?_
  rintro e w1 ⟨rfl, b1⟩
  go_wp2_with fail
  refine (CI.out _).mono ?_
  rintro e w2 ⟨rfl, b2⟩
  have hB2 := below_own b1 b2 b1.size
  clear b1 b2
  go_wp2_with fail
  go_ret
  exact ⟨rfl, hB2⟩
end Go.Proofs.YtcpkjlgebghkgaaDoor
