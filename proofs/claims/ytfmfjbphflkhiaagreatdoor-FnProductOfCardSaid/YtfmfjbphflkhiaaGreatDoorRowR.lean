/- The walks of RowWritten, of the program and of the reference. -/
import Derived.Test.YtfmfjbphflkhiaaGreatDoorRowW
namespace Go.Proofs.YtfmfjbphflkhiaaGreatDoor
set_option linter.unusedVariables false
set_option linter.unusedSimpArgs false
open Go.RowKit

theorem wrR_dig {F : Nat → Nat → Int} {n : Nat} (h : wrR F n = -1) : ∀ i, i < n → (0 ≤ F i 3 ∧ F i 3 ≤ 9) ∧ (0 ≤ F i 4 ∧ F i 4 ≤ 9) := fun i hi => by
  obtain ⟨_, _, _, _, h3, h4, _⟩ := rowAt_iff.1 ((wrR_ok h).2.2 i hi)
  exact ⟨h3, h4⟩
set_option maxRecDepth 20000 in
theorem iRowWritten (w : World) (B : Nat) (v : Value) (n : Nat) (F : Nat → Nat → Int) (hR : Recs w B v n 5 (IV F)) (hBw : B ≤ w.heap.size) (hF : ∀ i, i < n → ∀ j, j < 5 → -1000 ≤ F i j ∧ F i j ≤ 1000) :
    Calls Tryz.prog 18 #[v] w fun e w' => e = .returned (.tuple #[.string (rwS F n), .bool (rwB F n)]) ∧ Below w.heap.size w w' := by
  have HW := Lib.hid (iWrongRow w B v n F hR hBw hF)
  by_cases h : wrR F n = -1
  · have HS : Hid (rwS F n = coS F n) := Lib.hid (if_pos h)
    have HB : Hid (rwB F n = coB F n) := Lib.hid (if_pos h)
    obtain ⟨n1, n9, _⟩ := wrR_ok h
    have hd := wrR_dig h
    have HC := Lib.hid fun W (hW : Below w.heap.size w W) => withCarry_ok W B v n F (hR.below hW hBw) (by have := hW.size; omega) n1 n9 hd
    rw [h] at HW
    clear hR hF h hd
    go_enter Tryz.func18, Tryz.ntmps18
    go_wp2_with fail
    refine HW.out.mono ?_
    rintro e w1 ⟨rfl, b1⟩
    go_wp2_with fail
    refine (HC.out _ b1).mono ?_
    rintro e w2 ⟨rfl, b2⟩
    have hB2 := below_own b1 b2 b1.size
    go_wp2_with fail
    go_ret2
    exact ⟨by rw [HS.out, HB.out]; rfl, hB2⟩
  · have HS : Hid (rwS F n = ByteArray.empty) := Lib.hid (if_neg h)
    have HB : Hid (rwB F n = false) := Lib.hid (if_neg h)
    have e0 : (wrR F n != -1) = true := by simp [h]
    clear hR hF
    generalize wrR F n = x at *
    clear h
    go_enter Tryz.func18, Tryz.ntmps18
    go_wp2_with fail
    refine HW.out.mono ?_
    rintro e w1 ⟨rfl, b1⟩
    go_wp2_with fail
    go_ret2
    exact ⟨by rw [HS.out, HB.out]; rfl, b1⟩

theorem co_step (F : Nat → Nat → Int) (n m : Nat) : bStr (tx (rwD F n m)) ++ dStr (F (n - 1 - m) 3).toNat = bStr (tx (rwD F n (m + 1))) := by
  rw [rwD_succ, tx_append, bStr_append]; rfl
theorem co_size (F : Nat → Nat → Int) (n m : Nat) : (bStr (tx (rwD F n m))).size = m + 1 := by rw [bStr_size, tx_length, rwD_length]
theorem co_trim {F : Nat → Nat → Int} {n : Nat} (h1 : 1 ≤ n) (hd : ∀ i, i < n → (0 ≤ F i 3 ∧ F i 3 ≤ 9) ∧ (0 ≤ F i 4 ∧ F i 4 ≤ 9)) :
    numB (trimL (tx (rwD F n n))) = coB F n ∧ (coB F n = true → bStr (trimL (tx (rwD F n n))) = coS F n) := by
  have hm := tx_mem (rwD_mem (n := n) (m := n) h1 hd)
  have hne : tx (rwD F n n) ≠ [] := fun e => by have := congrArg List.length e; rw [tx_length, rwD_length] at this; simp at this
  rw [trimL_eq _ hne hm, trimZ_num hm]
  have hds : rwD F n n ≠ [] := fun e => by have := congrArg List.length e; rw [rwD_length] at this; simp at this
  refine ⟨?_, fun h => ?_⟩
  · unfold coB plB
    simp [hds]
  · have h' : rwD F n n ≠ [] ∧ (trimZ (tx (rwD F n n))).length ≤ 9 := by simpa [coB, plB] using h
    unfold coS plS
    rw [if_pos h']
theorem trimL_len : ∀ (l : List UInt8), (trimL l).length ≤ l.length
  | [] => Nat.le_refl _
  | [_] => Nat.le_refl _
  | b :: c :: r => by
    unfold trimL
    split
    · have := trimL_len (c :: r)
      simp only [List.length_cons] at this ⊢
      omega
    · exact Nat.le_refl _

set_option maxRecDepth 20000 in
set_option maxHeartbeats 4000000 in
theorem sRowWritten (w : World) (B : Nat) (v : Value) (n : Nat) (F : Nat → Nat → Int) (hR : Recs w B v n 5 (IV F)) (hBw : B ≤ w.heap.size) (hF : ∀ i, i < n → ∀ j, j < 5 → -1000 ≤ F i j ∧ F i j ≤ 1000) :
    Calls Tryz.prog 24 #[v] w fun e w' => e = .returned (.tuple #[.string (rwS F n), .bool (rwB F n)]) ∧ Below w.heap.size w w' := by
  have HW := Lib.hid (sWrongRow w B v n F hR hBw hF)
  by_cases h : wrR F n = -1
  · have HS : Hid (rwS F n = coS F n) := Lib.hid (if_pos h)
    have HB : Hid (rwB F n = coB F n) := Lib.hid (if_pos h)
    have HNo := Lib.hid fun (h : coB F n = false) => co_no h
    obtain ⟨n1, n9, _⟩ := wrR_ok h
    have hd := wrR_dig h
    have HT := Lib.hid (co_trim n1 hd)
    have HSt := Lib.hid (co_step F n)
    have HSz := Lib.hid (co_size F n)
    have HD := Lib.hid hd
    have htz : (trimL (tx (rwD F n n))).length ≤ 10 := by
      have h1 := trimL_len (tx (rwD F n n))
      rw [tx_length, rwD_length] at h1
      omega
    have HTr := Lib.hid fun W => l2Trim_any (bStr (tx (rwD F n n))) (by rw [co_size]; unfold maxLen; omega) W
    rw [bStr_list] at HTr
    have HNm := Lib.hid fun W => sNum (bStr (trimL (tx (rwD F n n)))) (by rw [bStr_size]; unfold maxLen; omega) W
    rw [bStr_list, HT.out.1] at HNm
    rw [h] at HW
    have HR := Lib.hid hR
    obtain ⟨A, cap, rfl, hnc, hcm, hcell⟩ := hR
    unfold maxLen at hcm
    obtain ⟨b, o, rfl, hb, hc⟩ := hcell (by omega)
    have hbw : b < w.heap.size := by omega
    have c0 := hc (n - 1) (by omega) 4 (by omega)
    simp only [IV] at c0
    have Hc := Lib.hid hc
    have dl := (hd (n - 1) (by omega)).2
    obtain ⟨dl0, dl9⟩ := dl
    have H0 : Hid (dStr (F (n - 1) 4).toNat = bStr (tx (rwD F n 0))) := Lib.hid rfl
    have hn1 : (n : Int) - 1 = ((n - 1 : Nat) : Int) := by omega
    have hnn : n - 1 < n := by omega
    clear hcell hc hd hF h htz
    generalize F (n - 1) 4 = out at *
    go_enter Tryz.func24, Tryz.ntmps24
    go_wp2_with fail
    refine HW.out.mono ?_
    rintro e w1 ⟨rfl, b1⟩
    have c1 := (b1.cell (p := ⟨b, o + (n - 1) * 5 + 4, none⟩) hbw).trans c0
    clear c0
    go_wp2_with fail
    refine (numDig _ _ dl0 dl9).mono ?_
    rintro e w2 ⟨rfl, b2⟩
    have hB2 := below_own b1 b2 b1.size
    rw [H0.out]
    clear b1 b2 c1
    go_wp2_with fail
    go_loopg [4, 5] n (fun g s4 s5 wr => ∃ m : Nat, g + m = n ∧ s5 = .int .i64 ((g : Int) - 1) ∧ s4 = .string (bStr (tx (rwD F n m))) ∧ Below w.heap.size w wr)
    case atStart => exact ⟨0, rfl, by first | rfl | go_num, rfl, hB2⟩
    case round =>
      obtain ⟨m, hgm, rfl, rfl, hB⟩ := hrel
      by_cases hlt : m < n
      · obtain ⟨k, rfl⟩ : ∃ k, gk = k + 1 := ⟨gk - 1, by omega⟩
        have hkm : n - 1 - m = k := by omega
        have e3 := (hB.cell (p := ⟨b, o + k * 5 + 3, none⟩) hbw).trans (Hc.out k (by omega) 3 (by omega))
        rw [show IV F k 3 = .int .i64 (F k 3) from rfl] at e3
        have hd := (HD.out k (by omega)).1
        have hS := HSt.out m
        rw [hkm] at hS
        have HS2 := Lib.hid hS
        have hz := HSz.out m
        have k2 : (((k + 1 : Nat) : Int) - 1) = ((k : Nat) : Int) := by omega
        rw [k2]
        clear hS
        generalize bStr (tx (rwD F n m)) = c at *
        generalize F k 3 = d at *
        have hki : (0 : Int) ≤ (k : Int) := by omega
        have hkn : k < n := by omega
        go_wp2_with fail
        refine (numDig _ _ hd.1 hd.2).mono ?_
        rintro e w3 ⟨rfl, b3⟩
        have hds1 : (dStr d.toNat).size = 1 := rfl
        generalize dStr d.toNat = q at *
        have hB3 := below_own hB b3 hB.size
        clear b3 hB e3
        go_wp2_with fail
        go_roundg k
        case measure => omega
        case rel => exact ⟨m + 1, by omega, by first | rfl | go_num, by rw [HS2.out], hB3⟩
      · obtain rfl : gk = 0 := by omega
        obtain rfl : m = n := by omega
        have hz := HSz.out m
        generalize bStr (tx (rwD F m m)) = c at *
        generalize htt : bStr (trimL (tx (rwD F m m))) = t at *
        have HTt := Lib.hid htt
        clear htt
        go_wp2_with fail
        refine (HTr.out _).mono ?_
        rintro e w' ⟨rfl, rfl⟩
        cases hcb : coB F m with
        | true =>
          rw [hcb] at HNm HB
          have HE := Lib.hid (HT.out.2 hcb)
          clear hcb
          go_wp2_with fail
          refine (HNm.out _).mono ?_
          rintro e w' ⟨rfl, rfl⟩
          go_wp2_with fail
          go_ret2
          exact ⟨by rw [HS.out, HB.out, ← HE.out]; rfl, hB⟩
        | false =>
          have HE := Lib.hid (HNo.out hcb)
          rw [hcb] at HNm HB
          clear hcb
          go_wp2_with fail
          refine (HNm.out _).mono ?_
          rintro e w' ⟨rfl, rfl⟩
          go_wp2_with fail
          go_ret2
          exact ⟨by rw [HS.out, HB.out, HE.out]; rfl, hB⟩
  · have HS : Hid (rwS F n = ByteArray.empty) := Lib.hid (if_neg h)
    have HB : Hid (rwB F n = false) := Lib.hid (if_neg h)
    have e0 : (wrR F n != -1) = true := by simp [h]
    clear hR hF
    generalize wrR F n = x at *
    clear h
    go_enter Tryz.func24, Tryz.ntmps24
    go_wp2_with fail
    refine HW.out.mono ?_
    rintro e w1 ⟨rfl, b1⟩
    go_wp2_with fail
    go_ret2
    exact ⟨by rw [HS.out, HB.out]; rfl, b1⟩
end Go.Proofs.YtfmfjbphflkhiaaGreatDoor
