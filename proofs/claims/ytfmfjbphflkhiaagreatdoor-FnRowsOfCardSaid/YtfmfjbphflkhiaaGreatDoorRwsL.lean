/- The law on RowsOf: rows are added to the product. -/
import Derived.Test.YtfmfjbphflkhiaaGreatDoorRws
import Derived.Test.YtfmfjbphflkhiaaGreatDoorPrV
import Derived.Test.YtfmfjbphflkhiaaGreatDoorBth
namespace Go.Proofs.YtfmfjbphflkhiaaGreatDoor
set_option linter.unusedVariables false
set_option linter.unusedSimpArgs false
open Go.RowKit

theorem rsN_yes {s t : List UInt8} (h : rwsB s t = true) : rsN s t = t.length := if_pos h
theorem rsN_no {s t : List UInt8} (h : rwsB s t = false) : rsN s t = 0 := if_neg (by rw [h]; decide)
theorem vals_wrap {a b : Int} (ha : 0 ≤ a ∧ a < 1000000000) (hb : 0 ≤ b ∧ b < 1000000000) : 0 ≤ a * b ∧ a * b ≤ 1000000000000000000 ∧ IntKind.i64.wrap (a * b) = a * b := by
  have h := prod_range (A := 1000000000) (B := 1000000000) ⟨ha.1, by omega⟩ ⟨hb.1, by omega⟩
  refine ⟨h.1, h.2, ?_⟩
  rw [IntKind.wrap_i64]
  have := h.2
  omega

set_option maxRecDepth 20000 in
set_option maxHeartbeats 4000000 in
/-- The law on RowsOf. -/
theorem law_RowsOf (A : Option Addr) (len cap : Nat) (w : World) (hc : CodeIn w A len cap) :
    Calls Tryz.prog 3 #[.slice A len cap] w fun e w' => e = .returned (.bool true) ∧ Below w.heap.size w w' := by
  have hlc := hc.1
  have hcm := hc.2.1
  unfold maxLen at hcm
  by_cases hbig : 1048576 < len
  · go_enter Tryz.func3, Tryz.ntmps3
    go_wp2_with fail
    go_ret
    exact ⟨rfl, Below.refl _ _⟩
  have hbig' : len ≤ 1048576 := by omega
  clear hbig
  go_enter Tryz.func3, Tryz.ntmps3
  go_wp2_with fail
  refine (draw_Rows A len cap _ hc).mono ?_
  rintro e w1 ⟨s, t, rfl, hs, ht, b1⟩
  clear hc
  have hsm : s.size ≤ maxLen := by unfold maxLen; omega
  have htm : t.size ≤ maxLen := by unfold maxLen; omega
  have CI := Lib.hid fun W => iRowsOf s t hsm htm W
  have CS := Lib.hid fun W => sRowsOf s t hsm htm W
  cases hok : rwsB s.data.toList t.data.toList with
  | false =>
    have hn := rsN_no hok
    rw [hok, hn] at CI CS
    clear hok hn hsm htm
    generalize rtS s.data.toList t.data.toList = X at *
    go_wp2_with fail
    refine (CI.out _).mono ?_
    rintro e w2 ⟨v2, rfl, o2, b2⟩
    have hB2 := below_own b1 b2 b1.size
    clear b1
    go_wp2_with fail
    refine (CS.out _).mono ?_
    rintro e w3 ⟨v3, rfl, o3, b3⟩
    have hB3 := below_own hB2 b3 hB2.size
    have s2 := (Sl.of_ownV o2).below (b3.mono (Nat.le_refl _))
    have s3 := Sl.of_ownV o3
    go_wp2_with fail
    refine (sameTexts _ w3.heap.size _ _ 0 X (s2.mono b3.size) s3).mono ?_
    rintro e w4 ⟨rfl, b4⟩
    have hB4 := below_own hB3 b4 hB3.size
    obtain ⟨A2, c2, rfl, l2, m2, r2⟩ := s2
    clear r2
    go_wp2_with (go_at_call 9; refine (alive_any _).mono ?_; rintro e w' ⟨rfl, rfl⟩)
    go_ret
    exact ⟨rfl, hB4⟩
  | true =>
    obtain ⟨hns, hnt, hr⟩ := rws_at hok
    have hn := rsN_yes hok
    have hl9 := numB_len hnt
    have hsum := rows_sum hok
    have hX : ∀ i, i < t.data.toList.length → numB (rtS s.data.toList t.data.toList i).data.toList = true := fun i hi => rt_num (hr i hi)
    have HR := Lib.hid fun k (hk : k ≤ t.data.toList.length) => su_range hX k hk
    have HVr := Lib.hid fun i (hi : i < t.data.toList.length) => valO_range (hX i hi)
    have HZ := Lib.hid fun i => mvS_size (roS s.data.toList (dg t.data.toList i)).data.toList i
    have CVx := Lib.hid fun i W => value_any (rtS s.data.toList t.data.toList i) (by have := HZ.out i; unfold maxLen; exact Nat.le_trans this (by decide)) W
    have CVs := Lib.hid fun W => value_any s hsm W
    have CVt := Lib.hid fun W => value_any t htm W
    obtain ⟨q0, q1, qw⟩ := vals_wrap (valO_range hns) (valO_range hnt)
    rw [hok, hn] at CI CS
    have hlt : t.data.toList.length = t.size := str_len t
    clear HZ hr hX hns hnt hn hok hsm htm
    rw [hlt] at CI CS HR HVr hl9 hsum
    have HSum := Lib.hid hsum
    clear hlt hsum
    generalize rtS s.data.toList t.data.toList = X at *
    generalize valO s.data.toList = a at *
    generalize valO t.data.toList = b at *
    obtain ⟨l1, l9⟩ := hl9
    go_wp2_with fail
    refine (CI.out _).mono ?_
    rintro e w2 ⟨v2, rfl, o2, b2⟩
    have hB2 := below_own b1 b2 b1.size
    clear b1
    go_wp2_with fail
    refine (CS.out _).mono ?_
    rintro e w3 ⟨v3, rfl, o3, b3⟩
    have hB3 := below_own hB2 b3 hB2.size
    have s2 := (Sl.of_ownV o2).below (b3.mono (Nat.le_refl _))
    have s3 := Sl.of_ownV o3
    go_wp2_with fail
    refine (sameTexts _ w3.heap.size _ _ t.size X (s2.mono b3.size) s3).mono ?_
    rintro e w4 ⟨rfl, b4⟩
    have hB4 := below_own hB3 b4 hB3.size
    have s4 := (s2.mono b3.size).below b4
    have hs4 := b4.size
    clear s2 s3 o2 o3 b2 b3 b4 hB2 hB3 CI CS
    obtain ⟨A2, c2, rfl, hnc, hcm2, hcell⟩ := s4
    obtain ⟨g, o, rfl, hb, hc⟩ := hcell (by omega)
    have hgw : g < w4.heap.size := by omega
    have Hc := Lib.hid hc
    unfold maxLen at hcm2
    clear hcell hc
    go_wp2_with fail
    go_loopg [9, 10] t.size (fun gk s11 s12 wr => ∃ k : Nat, ∃ y : Int, gk + k = t.size ∧ s12 = .int .i64 k ∧ s11 = .int .i64 y ∧ Hid (y = suV X k) ∧ Below w4.heap.size w4 wr)
    case atStart => exact ⟨0, 0, rfl, rfl, rfl, Lib.hid rfl, Below.refl _ _⟩
    case round =>
      obtain ⟨k, y, hk, rfl, rfl, HY, hB⟩ := hrel
      by_cases hlt : k < t.size
      · have hy := HR.out k (by omega)
        have hv := HVr.out k hlt
        rw [← HY.out] at hy
        have e0 := (hB.cell (p := ⟨g, o + k, none⟩) hgw).trans (Hc.out k hlt)
        rw [show TV X k = .string (X k) from rfl] at e0
        have HN : Hid (suV X (k + 1) = y + valO (X k).data.toList) := Lib.hid (by rw [HY.out]; rfl)
        have CV := Lib.hid (CVx.out k)
        have hki : (k : Int) < (t.size : Int) := by omega
        have hk9 : (k : Int) ≤ 9 := by omega
        have hy1 : 0 ≤ y ∧ y ≤ 9000000000 := by omega
        clear hy
        generalize valO (X k).data.toList = u at *
        generalize X k = x at *
        go_wp2_with fail
        refine (CV.out _).mono ?_
        rintro e w5 ⟨rfl, b5⟩
        have hB5 := below_own hB b5 hB.size
        go_wp2_with fail
        go_roundg (gk - 1)
        case measure => omega
        case rel => exact ⟨k + 1, y + u, by omega, by go_num, by go_num, Lib.hid HN.out.symm, hB5⟩
      · obtain rfl : k = t.size := by omega
        have hys : y = a * b := by rw [HY.out, HSum.out]
        subst hys
        clear HY HR
        have hB' := below_own hB4 hB hB4.size
        go_wp2_with fail
        refine (CVs.out _).mono ?_
        rintro e w5 ⟨rfl, b5⟩
        have hB5 := below_own hB' b5 hB'.size
        go_wp2_with fail
        refine (CVt.out _).mono ?_
        rintro e w6 ⟨rfl, b6⟩
        have hB6 := below_own hB5 b6 hB5.size
        clear hB' hB b5 b6 hB5
        go_wp2_with fail
        go_ret
        exact ⟨by first | rfl | simp, hB6⟩
end Go.Proofs.YtfmfjbphflkhiaaGreatDoor
