/- The law on ProductOf: products go both ways. -/
import Derived.Test.YtfmfjbphflkhiaaGreatDoorPro
import Derived.Test.YtfmfjbphflkhiaaGreatDoorBth
import Derived.Test.YtfmfjbphflkhiaaGreatDoorChkI
namespace Go.Proofs.YtfmfjbphflkhiaaGreatDoor
set_option linter.unusedVariables false
set_option linter.unusedSimpArgs false
open Go.RowKit

theorem vals_wrap {a b : Int} (ha : 0 ≤ a ∧ a < 1000000000) (hb : 0 ≤ b ∧ b < 1000000000) : 0 ≤ a * b ∧ a * b ≤ 1000000000000000000 ∧ IntKind.i64.wrap (a * b) = a * b := by
  have h := prod_range (A := 1000000000) (B := 1000000000) ⟨ha.1, by omega⟩ ⟨hb.1, by omega⟩
  refine ⟨h.1, h.2, ?_⟩
  rw [IntKind.wrap_i64]
  have := h.2
  omega

set_option maxRecDepth 20000 in
set_option maxHeartbeats 4000000 in
/-- The law on ProductOf. -/
theorem law_ProductOf (A : Option Addr) (len cap : Nat) (w : World) (hc : CodeIn w A len cap) :
    Calls Tryz.prog 4 #[.slice A len cap] w fun e w' => e = .returned (.bool true) ∧ Below w.heap.size w w' := by
  have hlc := hc.1
  have hcm := hc.2.1
  unfold maxLen at hcm
  by_cases hbig : 1048576 < len
  · go_enter Tryz.func4, Tryz.ntmps4
    go_wp2_with fail
    go_ret
    exact ⟨rfl, Below.refl _ _⟩
  have hbig' : len ≤ 1048576 := by omega
  clear hbig
  go_enter Tryz.func4, Tryz.ntmps4
  go_wp2_with fail
  refine (draw_Product A len cap _ hc).mono ?_
  rintro e w1 ⟨s, t, rfl, hs, ht, b1⟩
  clear hc
  have hsm : s.size ≤ maxLen := by unfold maxLen; omega
  have htm : t.size ≤ maxLen := by unfold maxLen; omega
  have CI := Lib.hid fun W => iProductOf s t hsm htm W
  have CS := Lib.hid fun W => sProductOf s t hsm htm W
  cases hok : prB s.data.toList t.data.toList with
  | false =>
    have hn := pr_no hok
    rw [hok, hn] at CI CS
    clear hok hn hsm htm
    go_wp2_with fail
    refine (CI.out _).mono ?_
    rintro e w2 ⟨rfl, b2⟩
    have hB2 := below_own b1 b2 b1.size
    clear b1
    go_wp2_with fail
    refine (CS.out _).mono ?_
    rintro e w3 ⟨rfl, b3⟩
    have hB3 := below_own hB2 b3 hB2.size
    go_wp2_with (go_at_call 9; refine (alive_any _).mono ?_; rintro e w' ⟨rfl, rfl⟩)
    go_ret
    exact ⟨rfl, hB3⟩
  | true =>
    obtain ⟨hns, hnt⟩ := pr_num hok
    obtain ⟨hnx, hvx⟩ := pr_val hok
    have hch := ch_prod hok
    have hxs : (prS s.data.toList t.data.toList).size ≤ maxLen := by have := prS_size s.data.toList t.data.toList; unfold maxLen; omega
    have CB := Lib.hid fun W => iProductOf t s htm hsm W
    have CX := Lib.hid fun W => value_any (prS s.data.toList t.data.toList) hxs W
    have CVs := Lib.hid fun W => value_any s hsm W
    have CVt := Lib.hid fun W => value_any t htm W
    have CC := Lib.hid fun W => iChecksOut s t (prS s.data.toList t.data.toList) hsm htm hxs W
    obtain ⟨q0, q1, qw⟩ := vals_wrap (valO_range hns) (valO_range hnt)
    have HBk : Hid (prB t.data.toList s.data.toList = true → prS t.data.toList s.data.toList = prS s.data.toList t.data.toList) := Lib.hid fun h => pr_back hok h
    rw [hok] at CI CS
    rw [hvx] at CX
    rw [hch] at CC
    clear hns hnt hnx hvx hch hxs hsm htm hok
    generalize prS s.data.toList t.data.toList = x at *
    generalize valO s.data.toList = a at *
    generalize valO t.data.toList = b at *
    go_wp2_with fail
    refine (CI.out _).mono ?_
    rintro e w2 ⟨rfl, b2⟩
    have hB2 := below_own b1 b2 b1.size
    clear b1
    go_wp2_with fail
    refine (CS.out _).mono ?_
    rintro e w3 ⟨rfl, b3⟩
    have hB3 := below_own hB2 b3 hB2.size
    go_wp2_with fail
    refine (CB.out _).mono ?_
    rintro e w4 ⟨rfl, b4⟩
    have hB4 := below_own hB3 b4 hB3.size
    cases hbk : prB t.data.toList s.data.toList with
    | true =>
      rw [HBk.out hbk]
      clear hbk hB3 hB2 b2 b3 b4
      go_wp2_with fail
      refine (CX.out _).mono ?_
      rintro e w5 ⟨rfl, b5⟩
      have hB5 := below_own hB4 b5 hB4.size
      go_wp2_with fail
      refine (CVs.out _).mono ?_
      rintro e w6 ⟨rfl, b6⟩
      have hB6 := below_own hB5 b6 hB5.size
      go_wp2_with fail
      refine (CVt.out _).mono ?_
      rintro e w7 ⟨rfl, b7⟩
      have hB7 := below_own hB6 b7 hB6.size
      clear hB4 hB5 hB6 b5 b6 b7
      go_wp2_with fail
      refine (CC.out _).mono ?_
      rintro e w8 ⟨rfl, b8⟩
      have hB8 := below_own hB7 b8 hB7.size
      go_wp2_with fail
      go_ret
      exact ⟨by first | rfl | simp, hB8⟩
    | false =>
      clear hbk hB3 hB2 b2 b3 b4
      go_wp2_with fail
      refine (CX.out _).mono ?_
      rintro e w5 ⟨rfl, b5⟩
      have hB5 := below_own hB4 b5 hB4.size
      go_wp2_with fail
      refine (CVs.out _).mono ?_
      rintro e w6 ⟨rfl, b6⟩
      have hB6 := below_own hB5 b6 hB5.size
      go_wp2_with fail
      refine (CVt.out _).mono ?_
      rintro e w7 ⟨rfl, b7⟩
      have hB7 := below_own hB6 b7 hB6.size
      clear hB4 hB5 hB6 b5 b6 b7
      go_wp2_with fail
      refine (CC.out _).mono ?_
      rintro e w8 ⟨rfl, b8⟩
      have hB8 := below_own hB7 b8 hB7.size
      go_wp2_with fail
      go_ret
      exact ⟨by first | rfl | simp, hB8⟩
end Go.Proofs.YtfmfjbphflkhiaaGreatDoor
