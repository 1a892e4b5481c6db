/- The law on Divides: nine and eleven divide what leaves nothing. -/
import Derived.Test.YtfmfjbphflkhiaaDoorNe
import Derived.Test.YtfmfjbphflkhiaaDoorQuo2
import Derived.Test.YtfmfjbphflkhiaaDoorRowR
import Derived.Test.YtfmfjbphflkhiaaDoorRowD
namespace Go.Proofs.YtfmfjbphflkhiaaDoor
set_option linter.unusedVariables false
set_option linter.unusedSimpArgs false
open Go.RowKit

theorem qu_yes {s : ByteArray} {d : Int} (hn : numB s.data.toList = true) (h1 : 1 ≤ d) (h2 : d ≤ 99) : quB s d = true := by
  have hl := numB_len hn
  rw [str_len] at hl
  have hN : dvN s d = s.size := if_pos ⟨hn, h1, h2⟩
  obtain ⟨_, _, _, _, hw, _⟩ := dv_ok s d (by rw [hN]; omega)
  unfold quB rsOk
  rw [decide_eq_true_eq]
  exact ⟨by rw [hN]; omega, hw⟩
theorem qu_no {s : ByteArray} {d : Int} (hn : numB s.data.toList = false) : quB s d = false := by
  have hN : dvN s d = 0 := if_neg fun h => by rw [hn] at h; exact absurd h.1 (by decide)
  unfold quB
  rw [hN]
  exact rsOk_empty _ _
theorem dvs_no {s : ByteArray} {d : Int} (hn : numB s.data.toList = false) : dvsB s d = false := by unfold dvsB; rw [qu_no hn]; rfl
theorem dvs_iff {s : ByteArray} {d : Int} (hn : numB s.data.toList = true) (h1 : 1 ≤ d) (h2 : d ≤ 99) : dvsB s d = (val s.data.toList % d == 0) := by
  have hq := qu_yes hn h1 h2
  obtain ⟨_, _, _, _, _, e⟩ := qu_all hq
  have hv : valO s.data.toList = val s.data.toList := if_pos hn
  unfold dvsB
  rw [hq, e, hv]; rfl
theorem dvs_law (s : ByteArray) : (numB s.data.toList = false → ∀ d, dvsB s d = false) ∧ (numB s.data.toList = true → (dvsB s 9 = (ninI s.data.toList == 0)) ∧ (dvsB s 11 = (eleI s.data.toList == 0)) ∧ dvsB s 1 = true) := by
  refine ⟨fun h d => dvs_no h, fun h => ?_⟩
  refine ⟨?_, ?_, ?_⟩
  · rw [dvs_iff h (by decide) (by decide)]; unfold ninI; rw [if_pos h]
  · rw [dvs_iff h (by decide) (by decide)]; unfold eleI; rw [if_pos h]
  · rw [dvs_iff h (by decide) (by decide), Int.emod_one]; rfl

set_option maxRecDepth 20000 in
set_option maxHeartbeats 1000000 in
theorem draw_Divides (A : Option Addr) (len cap : Nat) (w : World) (hc : CodeIn w A len cap) : Calls Tryd.prog 14 #[.slice A len cap] w fun e w' => ∃ s d, e = .returned (.tuple #[.string s, .int .i64 d]) ∧ s.size ≤ 110 ∧ -20 ≤ d ∧ d ≤ 100 ∧ Below w.heap.size w w' := by
  go_enter Tryd.func14, Tryd.ntmps14
  go_wp2_with fail
  refine (open_any A len cap _ hc).mono ?_
  rintro e w0 ⟨rfl, hR0, hB0⟩
  have hrb := hR0.lt
  have hsz := hB0.size
  go_wp2_with fail
  refine (pick_any _ _ _ _ hR0 (by omega)).mono ?_
  rintro e w1 ⟨d, rfl, hd, hz1, hR1, hg1⟩
  obtain ⟨hd0, hd1⟩ := hd (by omega)
  clear hd hz1
  go_wp2_with fail
  refine (numeral_any _ _ _ _ _ hR1 (by omega) (by omega) (by omega) (by omega) (by omega)).mono ?_
  rintro e w2 ⟨s, rfl, hs, p2, hp2, hR2, hg2⟩
  have hG2 := hg1.trans hg2
  have hF9 := fun i j hi => mulF_range s ((1 + d) % 10) i j hi
  have hq : ∀ i, i < rwN s ((1 + d) % 10) → ∀ j, j < 5 → -1000 ≤ mulF s.data.toList ((1 + d) % 10) i j ∧ mulF s.data.toList ((1 + d) % 10) i j ≤ 1000 := fun i hi j _ => by have := hF9 i j hi; omega
  have CR := Lib.hid fun W v hR => sRowWritten W W.heap.size v (rwN s ((1 + d) % 10)) (mulF s.data.toList ((1 + d) % 10)) hR (Nat.le_refl _) hq
  have hxs := rwS_size (mulF s.data.toList ((1 + d) % 10)) (rwN s ((1 + d) % 10))
  clear hg1 hg2 hR1 hR0 hF9 hq
  go_wp2_with fail
  refine (sRowOf s _ (by unfold maxLen; omega) _).mono ?_
  rintro e w3 ⟨v, rfl, o3, b3⟩
  have R3 := Recs.of_own o3
  have hR3 := hR2.below b3 hR2.lt
  have hG3 := hG2.trans (grown_of_below b3 (some w.heap.size))
  generalize mulF s.data.toList ((1 + d) % 10) = F at *
  generalize rwN s ((1 + d) % 10) = n at *
  generalize rwS F n = x at *
  generalize rwB F n = ok at *
  clear o3 b3 hG2 hR2
  go_wp2_with fail
  refine (CR.out _ v R3).mono ?_
  rintro e w4 ⟨rfl, b4⟩
  have hR4 := hR3.below b4 hR3.lt
  have hG4 := hG3.trans (grown_of_below b4 (some w.heap.size))
  clear R3 b4 hG3 hR3 CR
  cases ok with
  | true =>
    go_wp2_with fail
    refine (pick_any _ _ _ _ hR4 (by omega)).mono ?_
    rintro e w5 ⟨y, rfl, hy, hz5, hR5, hg5⟩
    have hB5 := hB0.grown (hG4.trans hg5) hB0.size (fun k hk => by cases hk; exact Nat.le_refl _)
    by_cases hy0 : y = 0
    · have t0 : (y == 0) = true := by rw [hy0]; rfl
      by_cases hd9 : 1 + d < 10
      · clear hy0 hy hz5
        go_wp2_with fail
        go_ret2
        exact ⟨x, 1 + d, rfl, by omega, by omega, by omega, hB5⟩
      · have hd9' : 10 ≤ 1 + d := by omega
        clear hy0 hy hz5
        go_wp2_with fail
        refine (pick_any _ _ _ _ hR5 (by omega)).mono ?_
        rintro e w6 ⟨z, rfl, hz, hz6, hR6, hg6⟩
        have hB6 := hB5.grown hg6 hB5.size (fun k hk => by cases hk; exact Nat.le_refl _)
        obtain ⟨hz0, hz1⟩ := hz (by omega)
        have hq1 : 0 ≤ z / 19 ∧ z / 19 ≤ 1 := by omega
        go_wp2_with fail
        go_ret2
        exact ⟨s, _, rfl, hs, by omega, by omega, hB6⟩
    · have t0 : (y == 0) = false := beq_eq_false_iff_ne.2 hy0
      clear hy0 hy hz5
      go_wp2_with fail
      refine (pick_any _ _ _ _ hR5 (by omega)).mono ?_
      rintro e w6 ⟨z, rfl, hz, hz6, hR6, hg6⟩
      have hB6 := hB5.grown hg6 hB5.size (fun k hk => by cases hk; exact Nat.le_refl _)
      obtain ⟨hz0, hz1⟩ := hz (by omega)
      have hq1 : 0 ≤ z / 19 ∧ z / 19 ≤ 1 := by omega
      go_wp2_with fail
      go_ret2
      exact ⟨s, _, rfl, hs, by omega, by omega, hB6⟩
  | false =>
    have hB4 := hB0.grown hG4 hB0.size (fun k hk => by cases hk; exact Nat.le_refl _)
    go_wp2_with fail
    refine (pick_any _ _ _ _ hR4 (by omega)).mono ?_
    rintro e w6 ⟨z, rfl, hz, hz6, hR6, hg6⟩
    have hB6 := hB4.grown hg6 hB4.size (fun k hk => by cases hk; exact Nat.le_refl _)
    obtain ⟨hz0, hz1⟩ := hz (by omega)
    have hq1 : 0 ≤ z / 19 ∧ z / 19 ≤ 1 := by omega
    go_wp2_with fail
    go_ret2
    exact ⟨s, _, rfl, hs, by omega, by omega, hB6⟩

set_option maxRecDepth 20000 in
set_option maxHeartbeats 4000000 in
/-- The law on Divides. -/
theorem law_Divides (A : Option Addr) (len cap : Nat) (w : World) (hc : CodeIn w A len cap) :
    Calls Tryd.prog 4 #[.slice A len cap] w fun e w' => e = .returned (.bool true) ∧ Below w.heap.size w w' := by
  have hlc := hc.1
  have hcm := hc.2.1
  unfold maxLen at hcm
  by_cases hbig : 1048576 < len
  · go_enter Tryd.func4, Tryd.ntmps4
    go_wp2_with fail
    go_ret
    exact ⟨rfl, Below.refl _ _⟩
  have hbig' : len ≤ 1048576 := by omega
  clear hbig
  go_enter Tryd.func4, Tryd.ntmps4
  go_wp2_with fail
  refine (draw_Divides A len cap _ hc).mono ?_
  rintro e w1 ⟨s, d, rfl, hs, hd0, hd1, b1⟩
  clear hc
  have hsm : s.size ≤ maxLen := by unfold maxLen; omega
  have CI := Lib.hid fun (d : Int) W => iDivides s hsm d W
  have CS := Lib.hid fun (d : Int) W => sDivides s hsm d W
  have CN := Lib.hid fun W => sNum s hsm W
  have C9 := Lib.hid fun W => iNineOf s hsm W
  have C11 := Lib.hid fun W => iElevenOf s hsm W
  obtain ⟨hl1, hl2⟩ := dvs_law s
  cases hn : numB s.data.toList with
  | false =>
    have hz := hl1 hn d
    have CId := Lib.hid (CI.out d)
    have CSd := Lib.hid (CS.out d)
    rw [hz] at CId CSd
    rw [hn] at CN
    clear hl1 hl2 hn hsm hz CI CS
    go_wp2_with fail
    refine (CId.out _).mono ?_
    rintro e w2 ⟨rfl, b2⟩
    have hB2 := below_own b1 b2 b1.size
    clear b1 b2
    go_wp2_with fail
    refine (CSd.out _).mono ?_
    rintro e w3 ⟨rfl, b3⟩
    have hB3 := below_own hB2 b3 hB2.size
    go_wp2_with fail
    refine (CN.out _).mono ?_
    rintro e w4 ⟨rfl, rfl⟩
    go_wp2_with (go_at_call 11; refine (alive_any _).mono ?_; rintro e w' ⟨rfl, rfl⟩)
    go_ret
    exact ⟨rfl, hB3⟩
  | true =>
    obtain ⟨h9, h11, h1⟩ := hl2 hn
    have CId := Lib.hid (CI.out d)
    have CSd := Lib.hid (CS.out d)
    have D9 := Lib.hid (CI.out 9)
    have D11 := Lib.hid (CI.out 11)
    have D1 := Lib.hid (CI.out 1)
    rw [h9] at D9
    rw [h11] at D11
    rw [h1] at D1
    rw [hn] at CN
    clear hl1 hl2 hn hsm h9 h11 h1 CI CS
    generalize dvsB s d = ok at *
    generalize ninI s.data.toList = nn at *
    generalize eleI s.data.toList = ne at *
    go_wp2_with fail
    refine (CId.out _).mono ?_
    rintro e w2 ⟨rfl, b2⟩
    have hB2 := below_own b1 b2 b1.size
    clear b1 b2
    go_wp2_with fail
    refine (CSd.out _).mono ?_
    rintro e w3 ⟨rfl, b3⟩
    have hB3 := below_own hB2 b3 hB2.size
    have t1 : (ok != ok) = false := by cases ok <;> rfl
    clear hB2 b3
    go_wp2_with fail
    refine (CN.out _).mono ?_
    rintro e w4 ⟨rfl, rfl⟩
    cases e9 : (nn == 0) <;> cases e11 : (ne == 0) <;> (
      rw [e9] at D9
      rw [e11] at D11
      go_wp2_with fail
      refine (D9.out _).mono ?_
      rintro e w4 ⟨rfl, b4⟩
      have hB4 := below_own hB3 b4 hB3.size
      clear hB3 b4
      go_wp2_with fail
      refine (C9.out _).mono ?_
      rintro e w5 ⟨rfl, rfl⟩
      go_wp2_with fail
      refine (D11.out _).mono ?_
      rintro e w6 ⟨rfl, b6⟩
      have hB6 := below_own hB4 b6 hB4.size
      clear hB4 b6
      go_wp2_with fail
      refine (C11.out _).mono ?_
      rintro e w7 ⟨rfl, rfl⟩
      go_wp2_with fail
      refine (D1.out _).mono ?_
      rintro e w8 ⟨rfl, b8⟩
      have hB8 := below_own hB6 b8 hB6.size
      go_wp2_with fail
      go_ret
      exact ⟨rfl, hB8⟩)
end Go.Proofs.YtfmfjbphflkhiaaDoor
