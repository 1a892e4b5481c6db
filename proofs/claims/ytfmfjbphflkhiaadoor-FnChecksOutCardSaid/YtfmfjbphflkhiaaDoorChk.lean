/- The walk of the reference's ChecksOut. -/
import Derived.Test.YtfmfjbphflkhiaaDoorChkI
import Derived.Test.YtfmfjbphflkhiaaDoorNeS
namespace Go.Proofs.YtfmfjbphflkhiaaDoor
set_option linter.unusedVariables false
set_option linter.unusedSimpArgs false
open Go.RowKit

set_option maxRecDepth 20000 in
set_option maxHeartbeats 2000000 in
theorem sChecksOut (s t p : ByteArray) (hs : s.size ≤ maxLen) (ht : t.size ≤ maxLen) (hp : p.size ≤ maxLen) (w : World) :
    Calls Tryd.prog 27 #[.string s, .string t, .string p] w fun e w' => e = .returned (.bool (chB s.data.toList t.data.toList p.data.toList)) ∧ Below w.heap.size w w' := by
  have HNs := Lib.hid fun W => sNum s hs W
  have HNt := Lib.hid fun W => sNum t ht W
  have HNp := Lib.hid fun W => sNum p hp W
  have H9s : Hid (∀ W, Calls Tryd.prog 54 #[.string s] W fun e w' => e = .returned (.int .i64 (ninI s.data.toList)) ∧ Below W.heap.size W w') := Lib.hid fun W => (sNineOf s hs W).mono fun e w' h => h
  have H9t : Hid (∀ W, Calls Tryd.prog 54 #[.string t] W fun e w' => e = .returned (.int .i64 (ninI t.data.toList)) ∧ Below W.heap.size W w') := Lib.hid fun W => (sNineOf t ht W).mono fun e w' h => h
  have H9p : Hid (∀ W, Calls Tryd.prog 54 #[.string p] W fun e w' => e = .returned (.int .i64 (ninI p.data.toList)) ∧ Below W.heap.size W w') := Lib.hid fun W => (sNineOf p hp W).mono fun e w' h => h
  have Hes := Lib.hid fun W => sElevenOf s hs W
  have Het := Lib.hid fun W => sElevenOf t ht W
  have Hep := Lib.hid fun W => sElevenOf p hp W
  clear hs ht hp
  cases hns : numB s.data.toList with
  | false =>
    have HX := Lib.hid (ch_no1 (t := t.data.toList) (p := p.data.toList) hns)
    rw [hns] at HNs
    clear hns
    go_enter Tryd.func27, Tryd.ntmps27
    go_wp2_with fail
    refine (HNs.out _).mono ?_
    rintro e w' ⟨rfl, rfl⟩
    go_wp2_with fail
    go_ret
    exact ⟨by rw [HX.out]; rfl, Below.refl _ _⟩
  | true =>
  cases hnt : numB t.data.toList with
  | false =>
    have HX := Lib.hid (ch_no2 (s := s.data.toList) (p := p.data.toList) hnt)
    rw [hns] at HNs
    rw [hnt] at HNt
    clear hns hnt
    go_enter Tryd.func27, Tryd.ntmps27
    go_wp2_with fail
    refine (HNs.out _).mono ?_
    rintro e w' ⟨rfl, rfl⟩
    go_wp2_with fail
    refine (HNt.out _).mono ?_
    rintro e w' ⟨rfl, rfl⟩
    go_wp2_with fail
    go_ret
    exact ⟨by rw [HX.out]; rfl, Below.refl _ _⟩
  | true =>
  cases hnp : numB p.data.toList with
  | false =>
    have HX := Lib.hid (ch_no3 (s := s.data.toList) (t := t.data.toList) hnp)
    rw [hns] at HNs
    rw [hnt] at HNt
    rw [hnp] at HNp
    clear hns hnt hnp
    go_enter Tryd.func27, Tryd.ntmps27
    go_wp2_with fail
    refine (HNs.out _).mono ?_
    rintro e w' ⟨rfl, rfl⟩
    go_wp2_with fail
    refine (HNt.out _).mono ?_
    rintro e w' ⟨rfl, rfl⟩
    go_wp2_with fail
    refine (HNp.out _).mono ?_
    rintro e w' ⟨rfl, rfl⟩
    go_wp2_with fail
    go_ret
    exact ⟨by rw [HX.out]; rfl, Below.refl _ _⟩
  | true =>
  have HX := Lib.hid (ch_is hns hnt hnp)
  obtain ⟨p90, p91, p9w, p9m⟩ := nine_wrap (nin_range hns) (nin_range hnt)
  obtain ⟨pe0, pe1, pew, pem⟩ := elev_wrap (ele_range hns) (ele_range hnt)
  obtain ⟨r90, r91⟩ := nin_range hnp
  obtain ⟨re0, re1⟩ := ele_range hnp
  rw [hns] at HNs
  rw [hnt] at HNt
  rw [hnp] at HNp
  clear hns hnt hnp
  generalize ninI s.data.toList = a at *
  generalize ninI t.data.toList = b at *
  generalize ninI p.data.toList = c at *
  generalize eleI s.data.toList = x at *
  generalize eleI t.data.toList = y at *
  generalize eleI p.data.toList = z at *
  go_enter Tryd.func27, Tryd.ntmps27
  go_wp2_with fail
  refine (HNs.out _).mono ?_
  rintro e w' ⟨rfl, rfl⟩
  go_wp2_with fail
  refine (HNt.out _).mono ?_
  rintro e w' ⟨rfl, rfl⟩
  go_wp2_with fail
  refine (HNp.out _).mono ?_
  rintro e w' ⟨rfl, rfl⟩
  go_wp2_with fail
  refine (H9s.out _).mono ?_
  rintro e w1 ⟨rfl, b1⟩
  go_wp2_with fail
  refine (H9t.out _).mono ?_
  rintro e w2 ⟨rfl, b2⟩
  have hB2 := below_own b1 b2 b1.size
  clear b1 b2
  go_wp2_with fail
  refine (H9p.out _).mono ?_
  rintro e w3 ⟨rfl, b3⟩
  have hB3 := below_own hB2 b3 hB2.size
  clear hB2 b3
  cases h9 : (a * b % 9 == c) with
  | false =>
    rw [h9] at HX
    go_wp2_with fail
    go_ret
    exact ⟨by rw [HX.out]; rfl, hB3⟩
  | true =>
    rw [h9, Bool.true_and] at HX
    go_wp2_with fail
    refine (Hes.out _).mono ?_
    rintro e w' ⟨rfl, rfl⟩
    go_wp2_with fail
    refine (Het.out _).mono ?_
    rintro e w' ⟨rfl, rfl⟩
    go_wp2_with fail
    refine (Hep.out _).mono ?_
    rintro e w' ⟨rfl, rfl⟩
    cases he : (x * y % 11 == z) with
    | false =>
      rw [he] at HX
      go_wp2_with fail
      go_ret
      exact ⟨by rw [HX.out]; rfl, hB3⟩
    | true =>
      rw [he] at HX
      go_wp2_with fail
      go_ret
      exact ⟨by rw [HX.out]; rfl, hB3⟩
end Go.Proofs.YtfmfjbphflkhiaaDoor
