/- Drawing two numerals: the walks of l20Both and l20Greater. -/
import Derived.Test.YtfhefngpeknhlabDoorDrw
import Derived.Test.YtfhefngpeknhlabDoorOrd
namespace Go.Proofs.YtfhefngpeknhlabDoor
set_option linter.unusedVariables false
set_option linter.unusedSimpArgs false
open Go.RowKit

def TwoPost (rb p : Nat) (w : World) (e : Ending) (w' : World) : Prop :=
  ∃ s t, e = .returned (.tuple #[.string s, .string t]) ∧ s.size ≤ 110 ∧ t.size ≤ 110 ∧ ∃ p', p' ≤ p + 2200 ∧ Rdr w' rb p' ∧ w.grownBy w' (some rb)
set_option maxRecDepth 20000 in
set_option maxHeartbeats 1000000 in
theorem both_any (most : Int) (rb p : Nat) (w : World) (h : Rdr w rb p) (hp : p < 800000000) (hm0 : 1 ≤ most) (hm : most ≤ 100) :
    Calls Tryd.prog 50 #[.pointer (some ⟨rb, 0, none⟩), .int .i64 most] w fun e w' => ∃ s t, e = .returned (.tuple #[.string s, .string t]) ∧ s.size ≤ 110 ∧ t.size ≤ 110 ∧ ∃ p', p' ≤ p + 2100 ∧ Rdr w' rb p' ∧ w.grownBy w' (some rb) := by
  go_enter Tryd.func50, Tryd.ntmps50
  go_wp2_with fail
  refine (numeral_any _ _ _ _ _ h (by omega) hm0 hm (by omega) (by omega)).mono ?_
  rintro e w1 ⟨s, rfl, hs, p1, hp1, hR1, hg1⟩
  go_wp2_with fail
  refine (numeral_any _ _ _ _ _ hR1 (by omega) hm0 hm (by omega) (by omega)).mono ?_
  rintro e w2 ⟨t, rfl, ht, p2, hp2, hR2, hg2⟩
  go_wp2_with fail
  refine (pick_any _ _ _ _ hR2 (by omega)).mono ?_
  rintro e w3 ⟨x, rfl, hx, hz, hR3, hg3⟩
  have hg := (hg1.trans hg2).trans hg3
  clear hx hz hR1 hR2 hg1 hg2 hg3
  by_cases h0 : x = 0
  · have e0 : (x == 0) = true := by simp [h0]
    clear h0
    go_wp2_with fail
    go_ret2
    exact ⟨s, s, rfl, hs, hs, p2 + 1, by omega, hR3, hg⟩
  · have e0 : (x == 0) = false := beq_eq_false_iff_ne.2 h0
    clear h0
    go_wp2_with fail
    go_ret2
    exact ⟨s, t, rfl, hs, ht, p2 + 1, by omega, hR3, hg⟩
set_option maxRecDepth 20000 in
set_option maxHeartbeats 1000000 in
theorem greater_any (most : Int) (rb p : Nat) (w : World) (h : Rdr w rb p) (hp : p < 700000000) (hm0 : 1 ≤ most) (hm : most ≤ 100) :
    Calls Tryd.prog 27 #[.pointer (some ⟨rb, 0, none⟩), .int .i64 most] w (TwoPost rb p w) := by
  go_enter Tryd.func27, Tryd.ntmps27
  go_wp2_with fail
  refine (both_any _ _ _ _ h (by omega) hm0 hm).mono ?_
  rintro e w1 ⟨s, t, rfl, hs, ht, p1, hp1, hR1, hg1⟩
  go_wp2_with fail
  refine (sOrder s t (by unfold maxLen; omega) (by unfold maxLen; omega) _).mono ?_
  rintro e w2 ⟨rfl, b2⟩
  have hR2 := hR1.below b2 hR1.lt
  have hg2 := hg1.trans (grown_of_below b2 _)
  clear hR1 hg1 b2
  generalize ordI s.data.toList t.data.toList = o at *
  by_cases ho : o = -1
  · subst ho
    go_wp2_with fail
    refine (pick_any _ _ _ _ hR2 (by omega)).mono ?_
    rintro e w3 ⟨x, rfl, hx, hz, hR3, hg3⟩
    have hg := hg2.trans hg3
    clear hx hz hg2 hg3 hR2
    by_cases h0 : 0 < x
    · go_wp2_with fail
      go_ret2
      exact ⟨t, s, rfl, ht, hs, p1 + 1, by omega, hR3, hg⟩
    · go_wp2_with fail
      go_ret2
      exact ⟨s, t, rfl, hs, ht, p1 + 1, by omega, hR3, hg⟩
  · have e0 : (o == -1) = false := beq_eq_false_iff_ne.2 ho
    clear ho
    go_wp2_with fail
    go_ret2
    exact ⟨s, t, rfl, hs, ht, p1, by omega, hR2, hg2⟩

/-- Two texts, drawn. -/
def DrawSS (w : World) (e : Ending) (w' : World) : Prop := ∃ s t, e = .returned (.tuple #[.string s, .string t]) ∧ s.size ≤ 110 ∧ t.size ≤ 110 ∧ Below w.heap.size w w'
set_option maxRecDepth 20000 in
theorem draw_Answers (A : Option Addr) (len cap : Nat) (w : World) (hc : CodeIn w A len cap) : Calls Tryd.prog 7 #[.slice A len cap] w (DrawSS w) := by
  go_enter Tryd.func7, Tryd.ntmps7
  go_wp2_with fail
  refine (open_any A len cap _ hc).mono ?_
  rintro e w0 ⟨rfl, hR0, hB0⟩
  go_wp2_with fail
  refine (greater_any _ _ _ _ hR0 (by omega) (by omega) (by omega)).mono ?_
  rintro e w1 ⟨s, t, rfl, hs, ht, p1, hp1, hR1, hg1⟩
  have hB1 := hB0.grown hg1 hB0.size (fun k hk => by cases hk; exact Nat.le_refl _)
  go_wp2_with fail
  go_ret2
  exact ⟨s, t, rfl, hs, ht, hB1⟩
def WayPost (rb p : Nat) (w : World) (e : Ending) (w' : World) : Prop :=
  ∃ s t, ∃ way : Int, e = .returned (.tuple #[.string s, .string t, .int .i64 way]) ∧ s.size ≤ 110 ∧ t.size ≤ 110 ∧ -1 ≤ way ∧ way ≤ 16 ∧ ∃ p', p' ≤ p + 2300 ∧ Rdr w' rb p' ∧ w.grownBy w' (some rb)
set_option maxRecDepth 20000 in
set_option maxHeartbeats 1000000 in
theorem way_any (rb p : Nat) (w : World) (h : Rdr w rb p) (hp : p < 700000000) :
    Calls Tryd.prog 32 #[.pointer (some ⟨rb, 0, none⟩)] w (WayPost rb p w) := by
  go_enter Tryd.func32, Tryd.ntmps32
  go_wp2_with fail
  refine (greater_any _ _ _ _ h (by omega) (by omega) (by omega)).mono ?_
  rintro e w1 ⟨s, t, rfl, hs, ht, p1, hp1, hR1, hg1⟩
  go_wp2_with fail
  refine (pick_any _ _ _ _ hR1 (by omega)).mono ?_
  rintro e w2 ⟨x, rfl, hx, hz, hR2, hg2⟩
  obtain ⟨hx0, hx1⟩ := hx (by omega)
  clear hz
  go_wp2_with fail
  refine (pick_any _ _ _ _ hR2 (by omega)).mono ?_
  rintro e w3 ⟨y, rfl, hy, hz, hR3, hg3⟩
  obtain ⟨hy0, hy1⟩ := hy (by omega)
  have hq : 0 ≤ y / 19 ∧ y / 19 ≤ 1 := by omega
  have ht19 : y.tdiv 19 = y / 19 := Int.tdiv_eq_ediv_of_nonneg hy0
  clear hz
  go_wp2_with fail
  go_ret3
  exact ⟨s, t, x - y / 19, rfl, hs, ht, by omega, by omega, p1 + 1 + 1, by omega, hR3, (hg1.trans hg2).trans hg3⟩
/-- Two texts and a way, drawn. -/
def DrawSSI (w : World) (e : Ending) (w' : World) : Prop := ∃ s t, ∃ way : Int, e = .returned (.tuple #[.string s, .string t, .int .i64 way]) ∧ s.size ≤ 110 ∧ t.size ≤ 110 ∧ -1 ≤ way ∧ way ≤ 16 ∧ Below w.heap.size w w'
set_option maxRecDepth 20000 in
theorem draw_TakenBy (A : Option Addr) (len cap : Nat) (w : World) (hc : CodeIn w A len cap) : Calls Tryd.prog 23 #[.slice A len cap] w (DrawSSI w) := by
  go_enter Tryd.func23, Tryd.ntmps23
  go_wp2_with fail
  refine (open_any A len cap _ hc).mono ?_
  rintro e w0 ⟨rfl, hR0, hB0⟩
  go_wp2_with fail
  refine (way_any _ _ _ hR0 (by omega)).mono ?_
  rintro e w1 ⟨s, t, way, rfl, hs, ht, hw0, hw1, p1, hp1, hR1, hg1⟩
  have hB1 := hB0.grown hg1 hB0.size (fun k hk => by cases hk; exact Nat.le_refl _)
  go_wp2_with fail
  go_ret3
  exact ⟨s, t, way, rfl, hs, ht, hw0, hw1, hB1⟩
set_option maxRecDepth 20000 in
theorem draw_Comes (A : Option Addr) (len cap : Nat) (w : World) (hc : CodeIn w A len cap) : Calls Tryd.prog 13 #[.slice A len cap] w (DrawSSI w) := by
  go_enter Tryd.func13, Tryd.ntmps13
  go_wp2_with fail
  refine (open_any A len cap _ hc).mono ?_
  rintro e w0 ⟨rfl, hR0, hB0⟩
  go_wp2_with fail
  refine (way_any _ _ _ hR0 (by omega)).mono ?_
  rintro e w1 ⟨s, t, way, rfl, hs, ht, hw0, hw1, p1, hp1, hR1, hg1⟩
  have hB1 := hB0.grown hg1 hB0.size (fun k hk => by cases hk; exact Nat.le_refl _)
  go_wp2_with fail
  go_ret3
  exact ⟨s, t, way, rfl, hs, ht, hw0, hw1, hB1⟩
end Go.Proofs.YtfhefngpeknhlabDoor
