/- Drawing two numerals: the walk of l20Both, and the draws for RowsOf and ProductOf. -/
import Derived.Test.YtfmfjbphflkhiaaGreatDoorDrw
namespace Go.Proofs.YtfmfjbphflkhiaaGreatDoor
set_option linter.unusedVariables false
set_option linter.unusedSimpArgs false
open Go.RowKit

set_option maxRecDepth 20000 in
set_option maxHeartbeats 1000000 in
theorem both_any (most : Int) (rb p : Nat) (w : World) (h : Rdr w rb p) (hp : p < 800000000) (hm0 : 1 ≤ most) (hm : most ≤ 100) :
    Calls Tryz.prog 15 #[.pointer (some ⟨rb, 0, none⟩), .int .i64 most] w fun e w' => ∃ s t, e = .returned (.tuple #[.string s, .string t]) ∧ s.size ≤ 110 ∧ t.size ≤ 110 ∧ ∃ p', p' ≤ p + 2100 ∧ Rdr w' rb p' ∧ w.grownBy w' (some rb) := by
  go_enter Tryz.func15, Tryz.ntmps15
  go_wp2_with fail
  refine (numeral_any _ _ _ _ _ h (by omega) hm0 hm (by omega) (by omega)).mono ?_
  rintro e w1 ⟨s, rfl, hs, p1, hp1, hR1, hg1⟩
  go_wp2_with fail
  refine (numeral_any _ _ _ _ _ hR1 (by omega) hm0 hm (by omega) (by omega)).mono ?_
  rintro e w2 ⟨t, rfl, ht, p2, hp2, hR2, hg2⟩
  go_wp2_with fail
  refine (pick_any _ _ _ _ hR2 (by omega)).mono ?_
  rintro e w3 ⟨x, rfl, hx, hz, hR3, hg3⟩
  have hg := (hg1.trans hg2).trans hg3
  clear hx hz hR1 hR2 hg1 hg2 hg3
  by_cases h0 : x = 0
  · have e0 : (x == 0) = true := by simp [h0]
    clear h0
    go_wp2_with fail
    go_ret2
    exact ⟨s, s, rfl, hs, hs, p2 + 1, by omega, hR3, hg⟩
  · have e0 : (x == 0) = false := beq_eq_false_iff_ne.2 h0
    clear h0
    go_wp2_with fail
    go_ret2
    exact ⟨s, t, rfl, hs, ht, p2 + 1, by omega, hR3, hg⟩
/-- Two texts, drawn. -/
def DrawSS (w : World) (e : Ending) (w' : World) : Prop := ∃ s t, e = .returned (.tuple #[.string s, .string t]) ∧ s.size ≤ 110 ∧ t.size ≤ 110 ∧ Below w.heap.size w w'
set_option maxRecDepth 20000 in
theorem draw_Rows (A : Option Addr) (len cap : Nat) (w : World) (hc : CodeIn w A len cap) : Calls Tryz.prog 5 #[.slice A len cap] w (DrawSS w) := by
  go_enter Tryz.func5, Tryz.ntmps5
  go_wp2_with fail
  refine (open_any A len cap _ hc).mono ?_
  rintro e w0 ⟨rfl, hR0, hB0⟩
  go_wp2_with fail
  refine (both_any _ _ _ _ hR0 (by omega) (by omega) (by omega)).mono ?_
  rintro e w1 ⟨s, t, rfl, hs, ht, p1, hp1, hR1, hg1⟩
  have hB1 := hB0.grown hg1 hB0.size (fun k hk => by cases hk; exact Nat.le_refl _)
  go_wp2_with fail
  go_ret2
  exact ⟨s, t, rfl, hs, ht, hB1⟩
set_option maxRecDepth 20000 in
theorem draw_Product (A : Option Addr) (len cap : Nat) (w : World) (hc : CodeIn w A len cap) : Calls Tryz.prog 11 #[.slice A len cap] w (DrawSS w) := by
  go_enter Tryz.func11, Tryz.ntmps11
  go_wp2_with fail
  refine (open_any A len cap _ hc).mono ?_
  rintro e w0 ⟨rfl, hR0, hB0⟩
  go_wp2_with fail
  refine (both_any _ _ _ _ hR0 (by omega) (by omega) (by omega)).mono ?_
  rintro e w1 ⟨s, t, rfl, hs, ht, p1, hp1, hR1, hg1⟩
  have hB1 := hB0.grown hg1 hB0.size (fun k hk => by cases hk; exact Nat.le_refl _)
  go_wp2_with fail
  go_ret2
  exact ⟨s, t, rfl, hs, ht, hB1⟩
end Go.Proofs.YtfmfjbphflkhiaaGreatDoor
