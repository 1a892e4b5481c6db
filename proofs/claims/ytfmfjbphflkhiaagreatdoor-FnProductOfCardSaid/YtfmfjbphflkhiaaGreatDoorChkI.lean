/- The walk of the program's ChecksOut. -/
import Derived.Test.YtfmfjbphflkhiaaGreatDoorPrV
import Derived.Test.YtfmfjbphflkhiaaGreatDoorNe
namespace Go.Proofs.YtfmfjbphflkhiaaGreatDoor
set_option linter.unusedVariables false
set_option linter.unusedSimpArgs false
open Go.RowKit

theorem ch_no1 {s t p : List UInt8} (h : numB s = false) : chB s t p = false := by unfold chB; rw [h]; rfl
theorem ch_no2 {s t p : List UInt8} (h : numB t = false) : chB s t p = false := by unfold chB; rw [h, Bool.false_and, Bool.and_false]
theorem ch_no3 {s t p : List UInt8} (h : numB p = false) : chB s t p = false := by unfold chB; rw [h, Bool.false_and, Bool.and_false, Bool.and_false]
/-- Both remainders, as the walk reckons them. -/
theorem nine_wrap {a b : Int} (ha : 0 ≤ a ∧ a ≤ 8) (hb : 0 ≤ b ∧ b ≤ 8) : 0 ≤ a * b ∧ a * b ≤ 64 ∧ IntKind.i64.wrap (a * b) = a * b ∧ (a * b).tmod 9 = a * b % 9 := by
  have h := prod_range ha hb
  refine ⟨h.1, h.2, ?_, Int.tmod_eq_emod_of_nonneg h.1⟩
  rw [IntKind.wrap_i64]
  have := h.2
  omega
theorem elev_wrap {a b : Int} (ha : 0 ≤ a ∧ a ≤ 10) (hb : 0 ≤ b ∧ b ≤ 10) : 0 ≤ a * b ∧ a * b ≤ 100 ∧ IntKind.i64.wrap (a * b) = a * b ∧ (a * b).tmod 11 = a * b % 11 := by
  have h := prod_range ha hb
  refine ⟨h.1, h.2, ?_, Int.tmod_eq_emod_of_nonneg h.1⟩
  rw [IntKind.wrap_i64]
  have := h.2
  omega

set_option maxRecDepth 20000 in
set_option maxHeartbeats 2000000 in
theorem iChecksOut (s t p : ByteArray) (hs : s.size ≤ maxLen) (ht : t.size ≤ maxLen) (hp : p.size ≤ maxLen) (w : World) :
    Calls Tryz.prog 14 #[.string s, .string t, .string p] w fun e w' => e = .returned (.bool (chB s.data.toList t.data.toList p.data.toList)) ∧ Below w.heap.size w w' := by
  have HNs := Lib.hid fun W => iNum s hs W
  have HNt := Lib.hid fun W => iNum t ht W
  have HNp := Lib.hid fun W => iNum p hp W
  have H9s : Hid (∀ W, Calls Tryz.prog 31 #[.string s] W fun e w' => e = .returned (.int .i64 (ninI s.data.toList)) ∧ Below W.heap.size W w') := Lib.hid fun W => (iNineOf s hs W).mono fun e w' h => ⟨h.1, h.2 ▸ Below.refl _ _⟩
  have H9t : Hid (∀ W, Calls Tryz.prog 31 #[.string t] W fun e w' => e = .returned (.int .i64 (ninI t.data.toList)) ∧ Below W.heap.size W w') := Lib.hid fun W => (iNineOf t ht W).mono fun e w' h => ⟨h.1, h.2 ▸ Below.refl _ _⟩
  have H9p : Hid (∀ W, Calls Tryz.prog 31 #[.string p] W fun e w' => e = .returned (.int .i64 (ninI p.data.toList)) ∧ Below W.heap.size W w') := Lib.hid fun W => (iNineOf p hp W).mono fun e w' h => ⟨h.1, h.2 ▸ Below.refl _ _⟩
  have Hes := Lib.hid fun W => iElevenOf s hs W
  have Het := Lib.hid fun W => iElevenOf t ht W
  have Hep := Lib.hid fun W => iElevenOf p hp W
  clear hs ht hp
  cases hns : numB s.data.toList with
  | false =>
    have HX := Lib.hid (ch_no1 (t := t.data.toList) (p := p.data.toList) hns)
    rw [hns] at HNs
    clear hns
    go_enter Tryz.func14, Tryz.ntmps14
    go_wp2_with fail
    refine (HNs.out _).mono ?_
    rintro e w' ⟨rfl, rfl⟩
    go_wp2_with fail
    go_ret
    exact ⟨by rw [HX.out]; rfl, Below.refl _ _⟩
  | true =>
  cases hnt : numB t.data.toList with
  | false =>
    have HX := Lib.hid (ch_no2 (s := s.data.toList) (p := p.data.toList) hnt)
    rw [hns] at HNs
    rw [hnt] at HNt
    clear hns hnt
    go_enter Tryz.func14, Tryz.ntmps14
    go_wp2_with fail
    refine (HNs.out _).mono ?_
    rintro e w' ⟨rfl, rfl⟩
    go_wp2_with fail
    refine (HNt.out _).mono ?_
    rintro e w' ⟨rfl, rfl⟩
    go_wp2_with fail
    go_ret
    exact ⟨by rw [HX.out]; rfl, Below.refl _ _⟩
  | true =>
  cases hnp : numB p.data.toList with
  | false =>
    have HX := Lib.hid (ch_no3 (s := s.data.toList) (t := t.data.toList) hnp)
    rw [hns] at HNs
    rw [hnt] at HNt
    rw [hnp] at HNp
    clear hns hnt hnp
    go_enter Tryz.func14, Tryz.ntmps14
    go_wp2_with fail
    refine (HNs.out _).mono ?_
    rintro e w' ⟨rfl, rfl⟩
    go_wp2_with fail
    refine (HNt.out _).mono ?_
    rintro e w' ⟨rfl, rfl⟩
    go_wp2_with fail
    refine (HNp.out _).mono ?_
    rintro e w' ⟨rfl, rfl⟩
    go_wp2_with fail
    go_ret
    exact ⟨by rw [HX.out]; rfl, Below.refl _ _⟩
  | true =>
  have HX := Lib.hid (ch_is hns hnt hnp)
  obtain ⟨p90, p91, p9w, p9m⟩ := nine_wrap (nin_range hns) (nin_range hnt)
  obtain ⟨pe0, pe1, pew, pem⟩ := elev_wrap (ele_range hns) (ele_range hnt)
  obtain ⟨r90, r91⟩ := nin_range hnp
  obtain ⟨re0, re1⟩ := ele_range hnp
  rw [hns] at HNs
  rw [hnt] at HNt
  rw [hnp] at HNp
  clear hns hnt hnp
  generalize ninI s.data.toList = a at *
  generalize ninI t.data.toList = b at *
  generalize ninI p.data.toList = c at *
  generalize eleI s.data.toList = x at *
  generalize eleI t.data.toList = y at *
  generalize eleI p.data.toList = z at *
  go_enter Tryz.func14, Tryz.ntmps14
  go_wp2_with fail
  refine (HNs.out _).mono ?_
  rintro e w' ⟨rfl, rfl⟩
  go_wp2_with fail
  refine (HNt.out _).mono ?_
  rintro e w' ⟨rfl, rfl⟩
  go_wp2_with fail
  refine (HNp.out _).mono ?_
  rintro e w' ⟨rfl, rfl⟩
  go_wp2_with fail
  refine (H9s.out _).mono ?_
  rintro e w1 ⟨rfl, b1⟩
  go_wp2_with fail
  refine (H9t.out _).mono ?_
  rintro e w2 ⟨rfl, b2⟩
  have hB2 := below_own b1 b2 b1.size
  clear b1 b2
  go_wp2_with fail
  refine (H9p.out _).mono ?_
  rintro e w3 ⟨rfl, b3⟩
  have hB3 := below_own hB2 b3 hB2.size
  clear hB2 b3
  cases h9 : (a * b % 9 == c) with
  | false =>
    rw [h9] at HX
    go_wp2_with fail
    go_ret
    exact ⟨by rw [HX.out]; rfl, hB3⟩
  | true =>
    rw [h9, Bool.true_and] at HX
    go_wp2_with fail
    refine (Hes.out _).mono ?_
    rintro e w' ⟨rfl, rfl⟩
    go_wp2_with fail
    refine (Het.out _).mono ?_
    rintro e w' ⟨rfl, rfl⟩
    go_wp2_with fail
    refine (Hep.out _).mono ?_
    rintro e w' ⟨rfl, rfl⟩
    cases he : (x * y % 11 == z) with
    | false =>
      rw [he] at HX
      go_wp2_with fail
      go_ret
      exact ⟨by rw [HX.out]; rfl, hB3⟩
    | true =>
      rw [he] at HX
      go_wp2_with fail
      go_ret
      exact ⟨by rw [HX.out]; rfl, hB3⟩
end Go.Proofs.YtfmfjbphflkhiaaGreatDoor
