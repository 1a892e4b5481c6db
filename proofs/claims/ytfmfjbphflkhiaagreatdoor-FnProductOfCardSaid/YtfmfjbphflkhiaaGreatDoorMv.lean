/- The walks of MovedBy, of the program and of the reference. -/
import Derived.Test.YtfmfjbphflkhiaaGreatDoorAddP
import Derived.Test.YtfmfjbphflkhiaaGreatDoorNumW
import Derived.Test.YtfmfjbphflkhiaaGreatDoorShelf
import Derived.Test.YtfmfjbphflkhiaaGreatDoorStrS
namespace Go.Proofs.YtfmfjbphflkhiaaGreatDoor
set_option linter.unusedVariables false
set_option linter.unusedSimpArgs false
open Go.RowKit

theorem strn_ne {x y : ByteArray} (h : ¬ y = x) : (y.toList == x.toList) = false := by
  rw [beq_eq_false_iff_ne, Lib.toList_data, Lib.toList_data]
  intro e
  exact h (by rw [← bStr_of y, e, bStr_of])
theorem mv_none {l : List UInt8} {k : Nat} (h : mvB l k = false) : mvS l k = ⟨#[]⟩ := by
  unfold mvS
  rw [h]; rfl
theorem mv_zero {s : ByteArray} (h : s.data.toList = [48]) (k : Nat) : mvB s.data.toList k = true ∧ mvS s.data.toList k = s := by
  have hb : mvB s.data.toList k = true := by rw [h]; simp [mvB]; decide
  refine ⟨hb, ?_⟩
  unfold mvS mvL
  rw [if_pos hb, if_pos h, bStr_of]
theorem mv_big {s : ByteArray} (h : s.data.toList ≠ [48]) {k : Nat} (hk : 9 < k + s.size) : mvB s.data.toList k = false := by
  have h1 : decide (s.data.toList = [48]) = false := decide_eq_false h
  have h2 : decide (k + s.data.toList.length ≤ 9) = false := decide_eq_false (by rw [str_len]; omega)
  unfold mvB
  rw [h1, h2, Bool.or_false, Bool.and_false]
theorem mv_fits {s : ByteArray} (hn : numB s.data.toList = true) (h : s.data.toList ≠ [48]) {k : Nat} (hk : k + s.size ≤ 9) : mvB s.data.toList k = true ∧ mvS s.data.toList k = bStr (s.data.toList ++ List.replicate k 48) := by
  have h2 : decide (k + s.data.toList.length ≤ 9) = true := decide_eq_true (by rw [str_len]; omega)
  have hb : mvB s.data.toList k = true := by unfold mvB; rw [hn, h2, Bool.or_true]; rfl
  refine ⟨hb, ?_⟩
  unfold mvS mvL
  rw [if_pos hb, if_neg h]
theorem list48 {s : ByteArray} : s.data.toList = [48] ↔ s = ⟨#[48]⟩ := by
  constructor
  · intro h
    rw [← bStr_of s, h]; rfl
  · rintro rfl; rfl
theorem rep48 (s : ByteArray) (k : Nat) : s ++ (⟨(Lib.repeatL [48] k).toArray⟩ : ByteArray) = bStr (s.data.toList ++ List.replicate k 48) := by
  have := Lib.repeatL_replicate 48 1 k
  rw [show List.replicate 1 (48 : UInt8) = [48] from rfl, Nat.mul_one] at this
  rw [this, bStr_append, bStr_of]; rfl

set_option maxRecDepth 20000 in
set_option maxHeartbeats 1000000 in
theorem iMoved (s : ByteArray) (k : Nat) (hs : s.size ≤ maxLen) (hk : k ≤ 100) (w : World) :
    Calls Tryz.prog 21 #[.string s, .int .i64 k] w fun e w' => e = .returned (.tuple #[.string (mvS s.data.toList k), .bool (mvB s.data.toList k)]) ∧ Below w.heap.size w w' := by
  have HN := Lib.hid fun W => iNum s hs W
  have hk0 : (0 : Int) ≤ (k : Int) := by omega
  unfold maxLen at hs
  cases hn : numB s.data.toList with
  | false =>
    have hb : mvB s.data.toList k = false := by unfold mvB; rw [hn]; rfl
    have HB := Lib.hid hb
    have HS := Lib.hid (mv_none hb)
    rw [hn] at HN
    clear hn hb
    go_enter Tryz.func21, Tryz.ntmps21
    go_wp2_with fail
    refine (HN.out _).mono ?_
    rintro e w' ⟨rfl, rfl⟩
    go_wp2_with fail
    go_ret2
    exact ⟨by rw [HB.out, HS.out]; rfl, Below.refl _ _⟩
  | true =>
    rw [hn] at HN
    by_cases h0 : s.data.toList = [48]
    · obtain ⟨hb, hS⟩ := mv_zero h0 k
      have HB := Lib.hid hb
      have HS := Lib.hid hS
      obtain rfl := list48.1 h0
      have t0 : ((⟨#[48]⟩ : ByteArray).toList == (⟨#[48]⟩ : ByteArray).toList) = true := beq_self_eq_true _
      clear hb hS h0 hn
      go_enter Tryz.func21, Tryz.ntmps21
      go_wp2_with fail
      refine (HN.out _).mono ?_
      rintro e w' ⟨rfl, rfl⟩
      go_wp2_with fail
      go_ret2
      exact ⟨by rw [HB.out, HS.out]; rfl, Below.refl _ _⟩
    · have h48 : s ≠ ⟨#[48]⟩ := fun e => h0 (list48.2 e)
      have t0 : (s.toList == [48]) = false := by rw [Lib.toList_data]; exact beq_eq_false_iff_ne.2 h0
      have hl := numB_len hn
      rw [str_len] at hl
      obtain ⟨l1, l9⟩ := hl
      by_cases hfit : k + s.size ≤ 9
      · obtain ⟨hb, hS⟩ := mv_fits hn h0 hfit
        have HB := Lib.hid hb
        have HS := Lib.hid hS
        have HRp := Lib.hid (rep48 s k)
        have hki : (k : Int) ≤ 9 - (s.size : Int) := by omega
        have HR := Lib.hid fun W => Tryz.strings_Repeat ⟨#[48]⟩ k W (by omega) (by show 1 * k ≤ _; omega)
        have hz : (⟨(Lib.repeatL (⟨#[48]⟩ : ByteArray).data.toList k).toArray⟩ : ByteArray).size = k := by
          show (Lib.repeatL [48] k).toArray.size = k
          rw [List.size_toArray, Lib.repeatL_length]; simp
        rw [show (⟨#[48]⟩ : ByteArray).data.toList = [48] from rfl] at HR hz
        clear hb hS h0 hn h48
        generalize (⟨(Lib.repeatL [48] k).toArray⟩ : ByteArray) = r at *
        go_enter Tryz.func21, Tryz.ntmps21
        go_wp2_with fail
        refine (HN.out _).mono ?_
        rintro e w' ⟨rfl, rfl⟩
        go_wp2_with fail
        refine (HR.out _).mono ?_
        rintro e w2 ⟨rfl, b2⟩
        go_wp2_with fail
        go_ret2
        exact ⟨by rw [HB.out, HS.out, ← HRp.out]; rfl, b2⟩
      · have hb := mv_big h0 (k := k) (by omega)
        have HB := Lib.hid hb
        have HS := Lib.hid (mv_none hb)
        have hki : 9 - (s.size : Int) < (k : Int) := by omega
        clear hb h0 hn h48 hfit
        go_enter Tryz.func21, Tryz.ntmps21
        go_wp2_with fail
        refine (HN.out _).mono ?_
        rintro e w' ⟨rfl, rfl⟩
        go_wp2_with fail
        go_ret2
        exact ⟨by rw [HB.out, HS.out]; rfl, Below.refl _ _⟩

set_option maxRecDepth 20000 in
set_option maxHeartbeats 1000000 in
theorem sMoved (s : ByteArray) (k : Nat) (hs : s.size ≤ maxLen) (hk : k ≤ 100) (w : World) :
    Calls Tryz.prog 27 #[.string s, .int .i64 k] w fun e w' => e = .returned (.tuple #[.string (mvS s.data.toList k), .bool (mvB s.data.toList k)]) ∧ Below w.heap.size w w' := by
  have HN := Lib.hid fun W => sNum s hs W
  have hk0 : (0 : Int) ≤ (k : Int) := by omega
  unfold maxLen at hs
  cases hn : numB s.data.toList with
  | false =>
    have hb : mvB s.data.toList k = false := by unfold mvB; rw [hn]; rfl
    have HB := Lib.hid hb
    have HS := Lib.hid (mv_none hb)
    rw [hn] at HN
    clear hn hb
    go_enter Tryz.func27, Tryz.ntmps27
    go_wp2_with fail
    refine (HN.out _).mono ?_
    rintro e w' ⟨rfl, rfl⟩
    go_wp2_with fail
    go_ret2
    exact ⟨by rw [HB.out, HS.out]; rfl, Below.refl _ _⟩
  | true =>
    rw [hn] at HN
    by_cases h0 : s.data.toList = [48]
    · obtain ⟨hb, hS⟩ := mv_zero h0 k
      have HB := Lib.hid hb
      have HS := Lib.hid hS
      obtain rfl := list48.1 h0
      have t0 : ((⟨#[48]⟩ : ByteArray).toList != (⟨#[48]⟩ : ByteArray).toList) = false := by rw [bne, beq_self_eq_true]; rfl
      clear hb hS h0 hn
      go_enter Tryz.func27, Tryz.ntmps27
      by_cases hk9 : 9 < k
      · have hki : (9 : Int) < (k : Int) := by omega
        have hkz : (0 : Int) < (k : Int) := by omega
        go_wp2_with fail
        refine (HN.out _).mono ?_
        rintro e w' ⟨rfl, rfl⟩
        go_wp2_with fail
        refine wp_loop_rounds 1 ?_
        rw [rounds_succ]
        go_wp2_with fail
        refine (HN.out _).mono ?_
        rintro e w' ⟨rfl, rfl⟩
        go_wp2_with fail
        go_ret2
        exact ⟨by rw [HB.out, HS.out]; rfl, Below.refl _ _⟩
      · have hki : (k : Int) ≤ 9 := by omega
        by_cases hkz : k = 0
        · subst hkz
          go_wp2_with fail
          refine (HN.out _).mono ?_
          rintro e w' ⟨rfl, rfl⟩
          go_wp2_with fail
          refine wp_loop_rounds 1 ?_
          rw [rounds_succ]
          go_wp2_with fail
          refine (HN.out _).mono ?_
          rintro e w' ⟨rfl, rfl⟩
          go_wp2_with fail
          go_ret2
          exact ⟨by rw [HB.out, HS.out]; rfl, Below.refl _ _⟩
        · have hkz' : (0 : Int) < (k : Int) := by omega
          have hkz2 : 0 < k := by omega
          clear hkz
          go_wp2_with fail
          refine (HN.out _).mono ?_
          rintro e w' ⟨rfl, rfl⟩
          go_wp2_with fail
          refine wp_loop_rounds 1 ?_
          rw [rounds_succ]
          go_wp2_with fail
          refine (HN.out _).mono ?_
          rintro e w' ⟨rfl, rfl⟩
          go_wp2_with fail
          go_ret2
          exact ⟨by rw [HB.out, HS.out]; rfl, Below.refl _ _⟩
    · have h48 : s ≠ ⟨#[48]⟩ := fun e => h0 (list48.2 e)
      have t1 : (s.toList == [48]) = false := by rw [Lib.toList_data]; exact beq_eq_false_iff_ne.2 h0
      have t0 : (s.toList != [48]) = true := by simp only [bne, t1, Bool.not_false]
      have hl := numB_len hn
      rw [str_len] at hl
      obtain ⟨l1, l9⟩ := hl
      by_cases hk9 : 9 < k
      · have hb := mv_big h0 (k := k) (by omega)
        have HB := Lib.hid hb
        have HS := Lib.hid (mv_none hb)
        have hki : (9 : Int) < (k : Int) := by omega
        clear hb h0 hn h48
        go_enter Tryz.func27, Tryz.ntmps27
        go_wp2_with fail
        refine (HN.out _).mono ?_
        rintro e w' ⟨rfl, rfl⟩
        go_wp2_with fail
        go_ret2
        exact ⟨by rw [HB.out, HS.out]; rfl, Below.refl _ _⟩
      · have hki : (k : Int) ≤ 9 := by omega
        have hmv : mvB s.data.toList k = decide (k + s.size ≤ 9) := by
          by_cases hfit : k + s.size ≤ 9
          · rw [(mv_fits hn h0 hfit).1, decide_eq_true hfit]
          · rw [mv_big h0 (by omega), decide_eq_false hfit]
        have hmS : k + s.size ≤ 9 → mvS s.data.toList k = bStr (s.data.toList ++ List.replicate k 48) := fun h => (mv_fits hn h0 h).2
        have hme : ¬ k + s.size ≤ 9 → mvS s.data.toList k = ⟨#[]⟩ := fun h => mv_none (mv_big h0 (by omega))
        have HMv := Lib.hid hmv
        have HmS := Lib.hid hmS
        have Hme := Lib.hid hme
        have hnm := mvL_num (l := s.data.toList) (k := k) hn
        unfold mvL at hnm
        rw [if_neg h0] at hnm
        have hln : (s.data.toList ++ List.replicate k 48).length = s.size + k := by rw [List.length_append, str_len, List.length_replicate]
        have hsz : (bStr (s.data.toList ++ List.replicate k 48)).size = s.size + k := by rw [bStr_size, hln]
        have HF := Lib.hid fun W => sNum (bStr (s.data.toList ++ List.replicate k 48)) (by rw [hsz]; unfold maxLen; omega) W
        rw [bStr_list, hnm, hln] at HF
        have HSt : Hid (∀ j, bStr (s.data.toList ++ List.replicate j 48) ++ (⟨#[48]⟩ : ByteArray) = bStr (s.data.toList ++ List.replicate (j + 1) 48)) := Lib.hid fun j => by
          rw [List.replicate_succ', ← List.append_assoc, bStr_append]; rfl
        have HZ : Hid (∀ j, (bStr (s.data.toList ++ List.replicate j 48)).size = s.size + j) := Lib.hid fun j => by rw [bStr_size, List.length_append, str_len, List.length_replicate]
        have H0 : Hid (bStr (s.data.toList ++ List.replicate 0 48) = s) := Lib.hid (by rw [List.replicate_zero, List.append_nil, bStr_of])
        clear hmv hmS hme hnm h0 hn h48 hln hsz
        go_enter Tryz.func27, Tryz.ntmps27
        go_wp2_with fail
        refine (HN.out _).mono ?_
        rintro e w' ⟨rfl, rfl⟩
        go_wp2_with fail
        go_loopg [6, 7] k (fun g s6 s7 wr => ∃ j : Nat, g + j = k ∧ s7 = .int .i64 j ∧ s6 = .string (bStr (s.data.toList ++ List.replicate j 48)) ∧ w = wr)
        case atStart => exact ⟨0, rfl, rfl, by rw [H0.out], rfl⟩
        case round =>
          obtain ⟨j, hj, rfl, rfl, rfl⟩ := hrel
          by_cases hlt : j < k
          · have hji : (j : Int) < (k : Int) := by omega
            have hjd : decide ((j : Int) < (k : Int)) = true := decide_eq_true hji
            have HS2 := Lib.hid (HSt.out j)
            have hz := HZ.out j
            generalize bStr (s.data.toList ++ List.replicate j 48) = c at *
            go_wp2_with fail
            go_roundg (gk - 1)
            case measure => omega
            case rel => exact ⟨j + 1, by omega, by go_num, by rw [← HS2.out], rfl⟩
          · obtain rfl : j = k := by omega
            have hjd : decide ((j : Int) < (j : Int)) = false := decide_eq_false (by omega)
            generalize bStr (s.data.toList ++ List.replicate j 48) = c at *
            by_cases hfit : j + s.size ≤ 9
            · have HB : Hid (mvB s.data.toList j = true) := Lib.hid (by rw [HMv.out, decide_eq_true hfit])
              have HS := Lib.hid (HmS.out hfit)
              rw [decide_eq_true (show s.size + j ≤ 9 by omega)] at HF
              clear hfit
              go_wp2_with fail
              refine (HF.out _).mono ?_
              rintro e w' ⟨rfl, rfl⟩
              go_wp2_with fail
              go_ret2
              exact ⟨by rw [HB.out, HS.out]; rfl, Below.refl _ _⟩
            · have HB : Hid (mvB s.data.toList j = false) := Lib.hid (by rw [HMv.out, decide_eq_false hfit])
              have HS := Lib.hid (Hme.out hfit)
              rw [decide_eq_false (show ¬ s.size + j ≤ 9 by omega)] at HF
              clear hfit
              go_wp2_with fail
              refine (HF.out _).mono ?_
              rintro e w' ⟨rfl, rfl⟩
              go_wp2_with fail
              go_ret2
              exact ⟨by rw [HB.out, HS.out]; rfl, Below.refl _ _⟩
end Go.Proofs.YtfmfjbphflkhiaaGreatDoor
