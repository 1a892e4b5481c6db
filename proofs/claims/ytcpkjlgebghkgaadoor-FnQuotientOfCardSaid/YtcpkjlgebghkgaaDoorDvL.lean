/- The law on DividedOf: its transcript is right and tells the numeral's digits. -/
import Derived.Test.YtcpkjlgebghkgaaDoorDvp
import Derived.Test.YtcpkjlgebghkgaaDoorDivn
namespace Go.Proofs.YtcpkjlgebghkgaaDoor
set_option linter.unusedVariables false
set_option linter.unusedSimpArgs false
open Go.RowKit

/-- A text and a number, drawn. -/
def DrawSI (w : World) (e : Ending) (w' : World) : Prop := ∃ s d, e = .returned (.tuple #[.string s, .int .i64 d]) ∧ s.size ≤ 110 ∧ 0 ≤ d ∧ d ≤ 100 ∧ Below w.heap.size w w'
set_option maxRecDepth 20000 in
theorem draw_Divided (A : Option Addr) (len cap : Nat) (w : World) (hc : CodeIn w A len cap) : Calls Tryd.prog 33 #[.slice A len cap] w (DrawSI w) := by
  go_enter Tryd.func33, Tryd.ntmps33
  go_wp2_with fail
  refine (open_any A len cap _ hc).mono ?_
  rintro e w0 ⟨rfl, hR0, hB0⟩
  go_wp2_with fail
  refine (numeral_any _ _ _ _ _ hR0 (by omega) (by omega) (by omega) (by omega) (by omega)).mono ?_
  rintro e w1 ⟨s, rfl, hs, p1, hp1, hR1, hg1⟩
  have hB1 := hB0.grown hg1 hB0.size (fun k hk => by cases hk; exact Nat.le_refl _)
  go_wp2_with fail
  refine (pick_any _ _ _ _ hR1 (by omega)).mono ?_
  rintro e w2 ⟨x, rfl, hx, hz, hR2, hg2⟩
  have hB2 := hB1.grown hg2 hB1.size (fun k hk => by cases hk; exact Nat.le_refl _)
  obtain ⟨hx0, hx1⟩ := hx (by omega)
  go_wp2_with fail
  go_ret2
  exact ⟨s, x, rfl, hs, hx0, by omega, hB2⟩

set_option maxRecDepth 20000 in
set_option maxHeartbeats 4000000 in
/-- The law on DividedOf. -/
theorem law_DividedOf (A : Option Addr) (len cap : Nat) (w : World) (hc : CodeIn w A len cap) :
    Calls Tryd.prog 8 #[.slice A len cap] w fun e w' => e = .returned (.bool true) ∧ Below w.heap.size w w' := by
  have hlc := hc.1
  have hcm := hc.2.1
  unfold maxLen at hcm
  by_cases hbig : 1048576 < len
  · go_enter Tryd.func8, Tryd.ntmps8
    go_wp2_with fail
    go_ret
    exact ⟨rfl, Below.refl _ _⟩
  have hbig' : len ≤ 1048576 := by omega
  clear hbig
  go_enter Tryd.func8, Tryd.ntmps8
  go_wp2_with fail
  refine (draw_Divided A len cap _ hc).mono ?_
  rintro e w1 ⟨s, d, rfl, hs, hd0, hd1, b1⟩
  clear hc
  have hsm : s.size ≤ maxLen := by unfold maxLen; omega
  have CS := Lib.hid fun W => sDivided s hsm d W
  have CI := Lib.hid fun W => iDivided s hsm d W
  have HO := Lib.hid (dv_ok s d)
  have HD := Lib.hid (dvd_dv s d)
  clear hsm
  go_wp2_with fail
  refine (CI.out _).mono ?_
  rintro e w2 ⟨v2, rfl, o2, b2⟩
  have hR2 := Recs.of_own o2
  have hB2 := below_own b1 b2 b1.size
  clear o2 b1 b2
  go_wp2_with fail
  refine (CS.out _).mono ?_
  rintro e w3 ⟨v3, rfl, o3, b3⟩
  have hR3 := hR2.below b3 (Nat.le_refl _)
  have hs3 := b3.size
  have hB3 := below_own hB2 b3 hB2.size
  have hT3 := Recs.of_own o3
  clear o3 b3 hR2 hB2
  go_wp2_with fail
  refine (sameSteps_t _ w3.heap.size _ _ (dvN s d) (dvF s.data.toList d) (hR3.mono hs3) hT3 (Nat.le_refl _)).mono ?_
  rintro e w4 ⟨rfl, b4⟩
  have hR4 := hR3.below b4 hs3
  have hs4 := b4.size
  have hB4 := below_own hB3 b4 hB3.size
  clear hR3 hT3 b4 hB3
  by_cases hz : dvN s d = 0
  · rw [hz] at hR4
    obtain ⟨A', cap', rfl, hnc, hcm', hcell⟩ := hR4
    unfold maxLen at hcm'
    clear hcell
    go_wp2_with (go_at_call 19; refine (alive_any _).mono ?_; rintro e w' ⟨rfl, rfl⟩)
    go_ret
    exact ⟨rfl, hB4⟩
  · obtain ⟨hn, h1, h2, e1, hw, hok⟩ := HO.out hz
    have HDs := Lib.hid (HD.out hz)
    have CD := Lib.hid fun W hR hB => iDividend W w2.heap.size v2 (dvN s d) (dvF s.data.toList d) d hR hB
    have CW := Lib.hid fun W hR hB => iWrongStep W w2.heap.size v2 (dvN s d) (dvF s.data.toList d) d hR hB
    rw [hw] at CW
    rw [HDs.out, hok] at CD
    clear HD HO HDs hw hok hn
    have hR4' := hR4
    obtain ⟨A', cap', rfl, hnc, hcm', hcell⟩ := hR4'
    unfold maxLen at hcm'
    clear hcell
    have hz' : 0 < s.size := by omega
    have e2 : ((dvN s d : Int) == 0) = false := by simp; omega
    have HE1 := Lib.hid e1
    clear e1 hz
    go_wp2_with fail
    refine (CD.out _ hR4 (by omega)).mono ?_
    rintro e w5 ⟨rfl, b5⟩
    have hR5 := hR4.below b5 (by omega)
    have hs5 := b5.size
    have hB5 := below_own hB4 b5 hB4.size
    clear hR4 b5 hB4
    go_wp2_with fail
    refine (CW.out _ hR5 (by omega)).mono ?_
    rintro e w6 ⟨rfl, b6⟩
    have hB6 := below_own hB5 b6 hB5.size
    rw [HE1.out] at *
    go_wp2_with fail
    go_ret
    exact ⟨rfl, hB6⟩
end Go.Proofs.YtcpkjlgebghkgaaDoor
