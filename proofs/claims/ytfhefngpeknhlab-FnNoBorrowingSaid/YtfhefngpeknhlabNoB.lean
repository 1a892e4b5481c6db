/- The walks of NoBorrowing, of the program and of the reference, and of its exact law. -/
import Derived.Test.YtfhefngpeknhlabOrd
namespace Go.Proofs.Ytfhefngpeknhlab
set_option linter.unusedVariables false
set_option linter.unusedSimpArgs false
open Go.RowKit

def nbB (s t : List UInt8) : Bool := takB s t && (List.range s.length).all fun k => decide (dg t k ≤ dg s k)
theorem nbB_no {s t : List UInt8} (h : takB s t = false) : nbB s t = false := by simp [nbB, h]
theorem nbB_here {s t : List UInt8} {k : Nat} (hk : k < s.length) (h : dg s k < dg t k) : nbB s t = false := by
  unfold nbB
  rw [Bool.and_eq_false_iff]
  right
  rw [List.all_eq_false]
  exact ⟨k, by simpa using hk, by simp; omega⟩
theorem nbB_all {s t : List UInt8} (h : takB s t = true) (ha : ∀ k, k < s.length → dg t k ≤ dg s k) : nbB s t = true := by
  unfold nbB
  rw [h, Bool.true_and, List.all_eq_true]
  intro k hk
  simpa using ha k (by simpa using hk)

set_option maxHeartbeats 1000000 in
theorem iNoB (s t : ByteArray) (hs : s.size ≤ maxLen) (ht : t.size ≤ maxLen) (w : World) : Calls Try.prog 10 #[.string s, .string t] w fun e w' => e = .returned (.bool (nbB s.data.toList t.data.toList)) ∧ w = w' := by
  have HT := Lib.hid (takes_any s t hs ht)
  cases hk : takB s.data.toList t.data.toList with
  | false =>
    have HF := Lib.hid (nbB_no hk)
    have HK := Lib.hid hk
    clear hk hs ht
    go_enter Try.func10, Try.ntmps10
    go_wp2_with fail
    refine (HT.out _).mono ?_
    rw [HK.out]
    rintro e w' ⟨rfl, rfl⟩
    go_wp2_with fail
    go_ret
    exact ⟨by rw [HF.out]; rfl, rfl⟩
  | true =>
    have hn := takB_num hk
    have DS := Lib.hid fun k W => iDigit s hs hn.1 k W
    have DT := Lib.hid fun k W => iDigit t ht hn.2 k W
    have hl := numB_len hn.1
    rw [str_len] at hl
    obtain ⟨l1, l2⟩ := hl
    have HA := Lib.hid (nbB_all hk)
    have HB := Lib.hid (fun k hk h => nbB_here (s := s.data.toList) (t := t.data.toList) (k := k) hk h)
    have HK := Lib.hid hk
    have HL := Lib.hid (str_len s)
    clear hk hs ht hn
    go_enter Try.func10, Try.ntmps10
    go_wp2_with fail
    refine (HT.out _).mono ?_
    rw [HK.out]
    rintro e w' ⟨rfl, rfl⟩
    go_wp2_with fail
    go_loop [5, 12] (fun _ s12 => ∃ k : Nat, k ≤ s.size ∧ s12 = .int .i64 k ∧ ∀ j, j < k → dg t.data.toList j ≤ dg s.data.toList j) (fun _ s12 => s.size - (intOf s12).toNat)
    case atStart => exact ⟨0, by omega, rfl, fun j hj => by omega⟩
    case round =>
      obtain ⟨k, hk, rfl, hd⟩ := hrel
      have Hd := Lib.hid hd
      clear hd
      by_cases hlt : k < s.size
      · by_cases hc : dg s.data.toList k < dg t.data.toList k
        · have HF := Lib.hid (HB.out k (by rw [HL.out]; exact hlt) hc)
          go_wp2_with fail
          refine (DT.out k _).mono ?_
          rintro e w' ⟨rfl, rfl⟩
          go_wp2_with fail
          refine (DS.out k _).mono ?_
          rintro e w' ⟨rfl, rfl⟩
          go_wp2_with fail
          go_ret
          exact ⟨by rw [HF.out]; rfl, rfl⟩
        · have hc' : dg t.data.toList k ≤ dg s.data.toList k := by omega
          clear hc
          go_wp2_with fail
          refine (DT.out k _).mono ?_
          rintro e w' ⟨rfl, rfl⟩
          go_wp2_with fail
          refine (DS.out k _).mono ?_
          rintro e w' ⟨rfl, rfl⟩
          go_wp2_with fail
          go_round
          case rel => exact ⟨k + 1, by omega, by go_num, fun j hj => by
            by_cases e : j = k
            · subst e; exact hc'
            · exact Hd.out j (by omega)⟩
          case measure => simp [intOf]; omega
      · obtain rfl : k = s.size := by omega
        have HF := Lib.hid (HA.out (by rw [HL.out]; exact Hd.out))
        go_wp2_with fail
        go_ret
        exact ⟨by rw [HF.out]; rfl, rfl⟩

theorem takB_ord {s t : List UInt8} (h : takB s t = true) : 0 ≤ ordI s t := by simpa [takB] using h
theorem takB_ord' {s t : List UInt8} (h : takB s t = false) : ordI s t < 0 := by simpa [takB] using h
set_option maxHeartbeats 1000000 in
theorem sNoB (s t : ByteArray) (hs : s.size ≤ maxLen) (ht : t.size ≤ maxLen) (w : World) : Calls Try.prog 11 #[.string s, .string t] w fun e w' => e = .returned (.bool (nbB s.data.toList t.data.toList)) ∧ Below w.heap.size w w' := by
  have HT := Lib.hid (sOrder s t hs ht)
  cases hk : takB s.data.toList t.data.toList with
  | false =>
    have HF := Lib.hid (nbB_no hk)
    have HK := takB_ord' hk
    clear hk hs ht
    generalize ordI s.data.toList t.data.toList = x at *
    go_enter Try.func11, Try.ntmps11
    go_wp2_with fail
    refine (HT.out _).mono ?_
    rintro e w1 ⟨rfl, b1⟩
    go_wp2_with fail
    go_ret
    exact ⟨by rw [HF.out]; rfl, b1⟩
  | true =>
    have hn := takB_num hk
    have DS := Lib.hid fun k W => sDigit s hs hn.1 k W
    have DT := Lib.hid fun k W => sDigit t ht hn.2 k W
    have hl := numB_len hn.1
    rw [str_len] at hl
    obtain ⟨l1, l2⟩ := hl
    have HA := Lib.hid (nbB_all hk)
    have HB := Lib.hid (fun k hk h => nbB_here (s := s.data.toList) (t := t.data.toList) (k := k) hk h)
    have HK := takB_ord hk
    have HL := Lib.hid (str_len s)
    clear hk hs ht hn
    generalize ordI s.data.toList t.data.toList = x at *
    go_enter Try.func11, Try.ntmps11
    go_wp2_with fail
    refine (HT.out _).mono ?_
    rintro e w1 ⟨rfl, b1⟩
    have HBel := Lib.hid b1
    clear b1
    go_wp2_with fail
    go_loop [5] (fun s5 => ∃ k : Nat, k ≤ s.size ∧ s5 = .int .i64 k ∧ ∀ j, j < k → dg t.data.toList j ≤ dg s.data.toList j) (fun s5 => s.size - (intOf s5).toNat)
    case atStart => exact ⟨0, by omega, rfl, fun j hj => by omega⟩
    case round =>
      obtain ⟨k, hk, rfl, hd⟩ := hrel
      have Hd := Lib.hid hd
      clear hd
      by_cases hlt : k < s.size
      · by_cases hc : dg s.data.toList k < dg t.data.toList k
        · have HF := Lib.hid (HB.out k (by rw [HL.out]; exact hlt) hc)
          go_wp2_with fail
          refine (DS.out k _).mono ?_
          rintro e w' ⟨rfl, rfl⟩
          go_wp2_with fail
          refine (DT.out k _).mono ?_
          rintro e w' ⟨rfl, rfl⟩
          go_wp2_with fail
          go_ret
          exact ⟨by rw [HF.out]; rfl, HBel.out⟩
        · have hc' : dg t.data.toList k ≤ dg s.data.toList k := by omega
          clear hc
          go_wp2_with fail
          refine (DS.out k _).mono ?_
          rintro e w' ⟨rfl, rfl⟩
          go_wp2_with fail
          refine (DT.out k _).mono ?_
          rintro e w' ⟨rfl, rfl⟩
          go_wp2_with fail
          go_round
          case rel => exact ⟨k + 1, by omega, by go_num, fun j hj => by
            by_cases e : j = k
            · subst e; exact hc'
            · exact Hd.out j (by omega)⟩
          case measure => simp [intOf]; omega
      · obtain rfl : k = s.size := by omega
        have HF := Lib.hid (HA.out (by rw [HL.out]; exact Hd.out))
        go_wp2_with fail
        go_ret
        exact ⟨by rw [HF.out]; rfl, HBel.out⟩

end Go.Proofs.Ytfhefngpeknhlab
