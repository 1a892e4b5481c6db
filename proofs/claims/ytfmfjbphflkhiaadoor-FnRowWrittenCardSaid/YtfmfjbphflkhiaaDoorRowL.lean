/- The law on RowWritten. -/
import Derived.Test.YtfmfjbphflkhiaaDoorRowR
import Derived.Test.YtfmfjbphflkhiaaDoorRowV
import Derived.Test.YtfmfjbphflkhiaaDoorRowD
import Derived.Test.YtfmfjbphflkhiaaDoorQuo2
namespace Go.Proofs.YtfmfjbphflkhiaaDoor
set_option linter.unusedVariables false
set_option linter.unusedSimpArgs false
open Go.RowKit

theorem rw_all {F : Nat → Nat → Int} {n : Nat} (h : rwB F n = true) : 1 ≤ n ∧ n ≤ 9 ∧ (∀ i, i < n → 0 ≤ F i 0 ∧ F i 0 ≤ 9) ∧ (0 ≤ F 0 1 ∧ F 0 1 ≤ 9) ∧ numB (rwS F n).data.toList = true ∧ valO (rwS F n).data.toList = rV (fun i => F i 0) n * F 0 1 := by
  by_cases hw : wrR F n = -1
  · have hb : coB F n = true := by rw [← h]; exact (if_pos hw).symm
    have hs : rwS F n = coS F n := if_pos hw
    obtain ⟨h1, h9, hr⟩ := wrR_ok hw
    have hv := row_val h1 hr hb
    rw [hs]
    exact ⟨h1, h9, fun i hi => (rowAt_iff.1 (hr i hi)).2.1, (rowAt_iff.1 (hr 0 (by omega))).2.2.1, hv.1, hv.2⟩
  · rw [show rwB F n = false from if_neg hw] at h
    cases h
theorem rw_none {F : Nat → Nat → Int} {n : Nat} (h : rwB F n = false) : rwS F n = ⟨#[]⟩ := by
  by_cases hw : wrR F n = -1
  · have hb : coB F n = false := by rw [← h]; exact (if_pos hw).symm
    rw [show rwS F n = coS F n from if_pos hw]
    exact co_no hb
  · exact if_neg hw

set_option maxRecDepth 20000 in
theorem draw_RowW (A : Option Addr) (len cap : Nat) (w : World) (hc : CodeIn w A len cap) : Calls Tryd.prog 8 #[.slice A len cap] w fun e w' => ∃ v n F, e = .returned v ∧ n ≤ 9 ∧ (∀ i j, i < n → -10 ≤ F i j ∧ F i j ≤ 20) ∧ Own w' w.heap.size 29 5 v n (recCells 5 (IV F) n) ∧ Below w.heap.size w w' := by
  go_enter Tryd.func8, Tryd.ntmps8
  go_wp2_with fail
  refine (open_any A len cap _ hc).mono ?_
  rintro e w0 ⟨rfl, hR0, hB0⟩
  go_wp2_with fail
  refine (row_any _ _ _ _ hR0 (by omega) (by omega) (by omega)).mono ?_
  rintro e w1 ⟨v, n, F, rfl, hn, hF, ho, p', hp', hR', hg⟩
  have hB1 := hB0.grown hg hB0.size (fun k hk => by cases hk; exact Nat.le_refl _)
  have ho' := ho.mono hB0.size
  go_wp2_with fail
  go_ret
  exact ⟨v, n, F, rfl, hn, hF, ho', hB1⟩

set_option maxRecDepth 20000 in
set_option maxHeartbeats 4000000 in
/-- The law on RowWritten. -/
theorem law_RowWritten (A : Option Addr) (len cap : Nat) (w : World) (hc : CodeIn w A len cap) :
    Calls Tryd.prog 3 #[.slice A len cap] w fun e w' => e = .returned (.bool true) ∧ Below w.heap.size w w' := by
  have hlc := hc.1
  have hcm := hc.2.1
  unfold maxLen at hcm
  by_cases hbig : 1048576 < len
  · go_enter Tryd.func3, Tryd.ntmps3
    go_wp2_with fail
    go_ret
    exact ⟨rfl, Below.refl _ _⟩
  have hbig' : len ≤ 1048576 := by omega
  clear hbig
  go_enter Tryd.func3, Tryd.ntmps3
  go_wp2_with fail
  refine (draw_RowW A len cap _ hc).mono ?_
  rintro e w1 ⟨v, n, F, rfl, hn, hF, ho, b1⟩
  clear hc
  have hR := Recs.of_own ho
  clear ho
  have hF' : ∀ i, i < n → ∀ j, j < 5 → -1000 ≤ F i j ∧ F i j ≤ 1000 := fun i hi j _ => by have := hF i j hi; omega
  have CD := Lib.hid fun W hR hB => iRowWritten W w1.heap.size v n F hR hB hF'
  have CS := Lib.hid fun W hR hB => sRowWritten W w1.heap.size v n F hR hB hF'
  clear hF hF'
  cases hok : rwB F n with
  | false =>
    have H := rw_none hok
    rw [H, hok] at CD CS
    clear H hok
    go_wp2_with fail
    refine (CD.out _ hR (Nat.le_refl _)).mono ?_
    rintro e w2 ⟨rfl, b2⟩
    have hR2 := hR.below b2 (Nat.le_refl _)
    have hB2 := below_own b1 b2 b1.size
    have hs2 := b2.size
    clear b1 b2 hR
    go_wp2_with fail
    refine (CS.out _ hR2 hs2).mono ?_
    rintro e w3 ⟨rfl, b3⟩
    have hB3 := below_own hB2 b3 hB2.size
    go_wp2_with (go_at_call 11; refine (alive_any _).mono ?_; rintro e w' ⟨rfl, rfl⟩)
    go_ret
    exact ⟨rfl, hB3⟩
  | true =>
    obtain ⟨h1, h9, hd, hq, hnum, hval⟩ := rw_all hok
    have HD := Lib.hid hd
    have HC := Lib.hid fun m (hm : m ≤ n) => acV_small h1 hd m (by omega)
    have HE := Lib.hid (acV_zero (fun i => F i 0) n)
    have hsz : (rwS F n).size ≤ 9 := rwS_size F n
    have hsm : (rwS F n).size ≤ maxLen := by unfold maxLen; omega
    have CN := Lib.hid fun W => iNum (rwS F n) hsm W
    have CV := Lib.hid fun W => value_any (rwS F n) hsm W
    rw [hnum] at CN
    rw [hval] at CV
    rw [hok] at CD CS
    clear hok hnum hval hsz hsm hd
    generalize rwS F n = x at *
    go_wp2_with fail
    refine (CD.out _ hR (Nat.le_refl _)).mono ?_
    rintro e w2 ⟨rfl, b2⟩
    have hR2 := hR.below b2 (Nat.le_refl _)
    have hB2 := below_own b1 b2 b1.size
    have hs2 := b2.size
    clear b1 b2 hR
    go_wp2_with fail
    refine (CS.out _ hR2 hs2).mono ?_
    rintro e w3 ⟨rfl, b3⟩
    have hR3 := hR2.below b3 hs2
    have hB3 := below_own hB2 b3 hB2.size
    have hs3 : w1.heap.size ≤ w3.heap.size := by have := b3.size; omega
    clear hR2 hB2 b3
    obtain ⟨A', cap', rfl, hnc, hcm', hcell⟩ := hR3
    obtain ⟨b, o, rfl, hb, hc⟩ := hcell (by omega)
    have hbw : b < w3.heap.size := by omega
    have Hc := Lib.hid hc
    have ey := hc 0 (by omega) 1 (by omega)
    simp only [IV, Nat.zero_mul, Nat.add_zero] at ey
    unfold maxLen at hcm'
    clear hcell hc CD CS
    generalize hqq : F 0 1 = q at *
    clear hqq
    obtain ⟨q0, q9⟩ := hq
    go_wp2_with fail
    go_loopg [8, 9] n (fun g s8 s9 wr => ∃ m : Nat, ∃ y : Int, g + m = n ∧ s9 = .int .i64 ((g : Int) - 1) ∧ s8 = .int .i64 y ∧ Hid (y = acV (fun i => F i 0) n 0 m) ∧ w3 = wr)
    case atStart => exact ⟨0, 0, rfl, by first | rfl | go_num, rfl, Lib.hid rfl, rfl⟩
    case round =>
      obtain ⟨m, y, hgm, rfl, rfl, HY, rfl⟩ := hrel
      have hy := HC.out m (by omega)
      rw [← HY.out] at hy
      obtain ⟨y0, y1⟩ := hy
      by_cases hlt : m < n
      · obtain ⟨k, rfl⟩ : ∃ k, gk = k + 1 := ⟨gk - 1, by omega⟩
        have hkm : n - 1 - m = k := by omega
        have e3 := Hc.out k (by omega) 0 (by omega)
        rw [show IV F k 0 = .int .i64 (F k 0) from rfl, Nat.add_zero] at e3
        have hd := HD.out k (by omega)
        have HN := Lib.hid (show acV (fun i => F i 0) n 0 (m + 1) = 10 * y + F k 0 by rw [HY.out, ← hkm]; rfl)
        have k2 : (((k + 1 : Nat) : Int) - 1) = ((k : Nat) : Int) := by omega
        rw [k2]
        have hki : (0 : Int) ≤ (k : Int) := by omega
        have hkn : k < n := by omega
        clear HY
        generalize F k 0 = z at *
        go_wp2_with fail
        go_roundg k
        case measure => omega
        case rel => exact ⟨m + 1, 10 * y + z, by omega, by first | rfl | go_num, rfl, Lib.hid HN.out.symm, rfl⟩
      · obtain rfl : gk = 0 := by omega
        obtain rfl : m = n := by omega
        rw [← HE.out, ← HY.out] at CV
        have hp0 : 0 ≤ y * q := Int.mul_nonneg y0 q0
        have hp1 : y * q ≤ y * 9 := Int.mul_le_mul_of_nonneg_left q9 y0
        have hp2 : y * q ≤ 9000000000 := by omega
        have hwq : IntKind.i64.wrap (y * q) = y * q := by rw [IntKind.wrap_i64]; omega
        have hmi : 0 < m := by omega
        clear hp1 HY HE
        go_wp2_with fail
        go_region_held3 (fun w' => w'.cell? ⟨b, o + 1, none⟩ = some (.int .i64 q)) (go_keep)
          (first | (go_at_call 12; refine (CN.out _).mono ?_; rintro e w4 ⟨rfl, rfl⟩) | (go_at_call 13; refine (CV.out _).mono ?_; rintro e w5 ⟨rfl, q5⟩; have g0 := (q5.cell (p := ⟨b, o + 1, none⟩) hbw).trans ey))
        all_goals (have hB5 : Below w.heap.size w w5 := by first | exact below_own hB3 q5 hB3.size | exact below_own hB3.drew q5 hB3.size)
        all_goals (go_wp2_with fail)
        all_goals (go_ret)
        all_goals (exact ⟨rfl, hB5⟩)
end Go.Proofs.YtfmfjbphflkhiaaDoor
