/- The walks of ResultOf and DividendOf, QuotientOf and Divides, of the program and of the reference. -/
import Derived.Test.YtfmfjbphflkhiaaDoorRes
import Derived.Test.YtfmfjbphflkhiaaDoorDivided
namespace Go.Proofs.YtfmfjbphflkhiaaDoor
set_option linter.unusedVariables false
set_option linter.unusedSimpArgs false
open Go.RowKit

theorem rs_no {F : Nat → Nat → Int} {n : Nat} {d : Int} (h : rsOk F n d = false) : resS F n d = ByteArray.empty ∧ resR F n d = -1 ∧ dvdS F n d = ByteArray.empty := by
  simp [resS, resR, dvdS, h]
theorem rs_yes {F : Nat → Nat → Int} {n : Nat} {d : Int} (h : rsOk F n d = true) : resS F n d = plS (colL F 2 n) ∧ resR F n d = F (n - 1) 3 ∧ dvdS F n d = plS (colL F 1 n) := by
  simp [resS, resR, dvdS, h]

set_option maxRecDepth 20000 in
set_option maxHeartbeats 2000000 in
theorem iResult (w : World) (B : Nat) (v : Value) (n : Nat) (F : Nat → Nat → Int) (d : Int) (hR : Recs w B v n 4 (IV F)) (hBw : B ≤ w.heap.size) :
    Calls Tryd.prog 67 #[v, .int .i64 d] w fun e w' => e = .returned (.tuple #[.string (resS F n d), .int .i64 (resR F n d), .bool (rsOk F n d)]) ∧ Below w.heap.size w w' := by
  have HW := Lib.hid (iWrongStep w B v n F d hR hBw)
  have hR' := hR
  obtain ⟨A, cap, rfl, hnc, hcm, hcell⟩ := hR'
  unfold maxLen at hcm
  clear hcell
  by_cases h0 : n = 0
  · subst h0
    have H1 := Lib.hid (rs_no (rsOk_empty F d))
    have H2 := Lib.hid (rsOk_empty F d)
    go_enter Tryd.func67, Tryd.ntmps67
    go_wp2_with fail
    go_ret3
    exact ⟨by rw [H1.out.1, H1.out.2.1, H2.out]; rfl, Below.refl _ _⟩
  have e0 : ((n : Int) == 0) = false := by simp; omega
  cases hok : rsOk F n d with
  | false =>
    have H1 := Lib.hid (rs_no hok)
    have hx : wsI F n d ≠ -1 := fun e => by simp [rsOk, h0, e] at hok
    have ex : (wsI F n d != -1) = true := by simpa using hx
    clear hok h0 hx
    generalize wsI F n d = x at *
    go_enter Tryd.func67, Tryd.ntmps67
    go_wp2_with fail
    refine HW.out.mono ?_
    rintro e w1 ⟨rfl, b1⟩
    go_wp2_with fail
    go_ret3
    exact ⟨by rw [H1.out.1, H1.out.2.1]; rfl, b1⟩
  | true =>
    have H1 := Lib.hid (rs_yes hok)
    have hs := rsOk_steps hok
    have hd2 : ∀ i, i < n → 0 ≤ F i 2 ∧ F i 2 ≤ 9 := fun i hi => (rsOk_dig hok i hi).2
    have hx : wsI F n d = -1 := by simpa [rsOk, h0] using hok
    rw [hx] at HW
    have hn9 := hs.2.1
    have HD := Lib.hid hd2
    have i1 : (0 : Int) ≤ (n : Int) - 1 := by omega
    clear hok hs hx hd2
    go_enter Tryd.func67, Tryd.ntmps67
    go_wp2_with fail
    refine HW.out.mono ?_
    rintro e w1 ⟨rfl, b1⟩
    have hR1 := hR.below b1 hBw
    go_wp2_with fail
    refine (stepsText_res _ _ _ _ F hR1 (by have := b1.size; omega) hn9 HD.out).mono ?_
    rintro e w2 ⟨rfl, b2⟩
    have hR2 := hR1.below b2 (by have := b1.size; omega)
    have hB2 := below_own b1 b2 b1.size
    obtain ⟨A', cap', hv, _, _, hcell⟩ := hR2
    cases hv
    obtain ⟨b, o, rfl, hb, hc⟩ := hcell (by omega)
    have e3 := hc (n - 1) (by omega) 3 (by omega)
    simp only [IV] at e3
    clear hcell hc hR hR1 HW
    generalize plS (colL F 2 n) = s at *
    generalize plB (colL F 2 n) = t at *
    generalize F (n - 1) 3 = y at *
    obtain ⟨m, rfl⟩ : ∃ m, n = m + 1 := ⟨n - 1, by omega⟩
    have k1 : IntKind.i64.wrap (((m + 1 : Nat) : Int) - 1) = ((m : Nat) : Int) := by rw [show ((m + 1 : Nat) : Int) - 1 = (m : Int) by omega]; exact IntWalk.i64_in _ (by omega)
    have k2 : (((m + 1 : Nat) : Int) - 1) = ((m : Nat) : Int) := by omega
    simp only [Nat.add_sub_cancel] at e3
    go_wp2_with fail
    go_quiet (fail)
    go_wp2_with fail
    go_ret3
    exact ⟨by rw [H1.out.1, H1.out.2.1]; rfl, below_drewN hB2 _⟩

theorem bstr_step (F : Nat → Nat → Int) (j k : Nat) : bStr (tx (colL F j k)) ++ dStr (F k j).toNat = bStr (tx (colL F j (k + 1))) := by
  rw [colL_succ, tx_append, bStr_append]; rfl
theorem bstr_col_size (F : Nat → Nat → Int) (j k : Nat) : (bStr (tx (colL F j k))).size = k := by rw [bStr_size, tx_length, colL_length]

set_option maxRecDepth 20000 in
set_option maxHeartbeats 4000000 in
theorem sResult (w : World) (B : Nat) (v : Value) (n : Nat) (F : Nat → Nat → Int) (d : Int) (hR : Recs w B v n 4 (IV F)) (hBw : B ≤ w.heap.size) :
    Calls Tryd.prog 69 #[v, .int .i64 d] w fun e w' => e = .returned (.tuple #[.string (resS F n d), .int .i64 (resR F n d), .bool (rsOk F n d)]) ∧ Below w.heap.size w w' := by
  have HW := Lib.hid (sWrongStep w B v n F d hR hBw)
  have hR' := hR
  obtain ⟨A, cap, rfl, hnc, hcm, hcell⟩ := hR'
  unfold maxLen at hcm
  clear hcell
  by_cases h0 : n = 0
  · subst h0
    have H1 := Lib.hid (rs_no (rsOk_empty F d))
    have H2 := Lib.hid (rsOk_empty F d)
    go_enter Tryd.func69, Tryd.ntmps69
    go_wp2_with fail
    go_ret3
    exact ⟨by rw [H1.out.1, H1.out.2.1, H2.out]; rfl, Below.refl _ _⟩
  have e0 : ((n : Int) == 0) = false := by simp; omega
  cases hok : rsOk F n d with
  | false =>
    have H1 := Lib.hid (rs_no hok)
    have hx : wsI F n d ≠ -1 := fun e => by simp [rsOk, h0, e] at hok
    have ex : (wsI F n d != -1) = true := by simpa using hx
    clear hok h0 hx
    generalize wsI F n d = x at *
    go_enter Tryd.func69, Tryd.ntmps69
    go_wp2_with fail
    refine HW.out.mono ?_
    rintro e w1 ⟨rfl, b1⟩
    go_wp2_with fail
    go_ret3
    exact ⟨by rw [H1.out.1, H1.out.2.1]; rfl, b1⟩
  | true =>
    have H1 := Lib.hid (rs_yes hok)
    have hs := rsOk_steps hok
    have hd2 : ∀ i, i < n → 0 ≤ F i 2 ∧ F i 2 ≤ 9 := fun i hi => (rsOk_dig hok i hi).2
    have hx : wsI F n d = -1 := by simpa [rsOk, h0] using hok
    rw [hx] at HW
    have hn9 := hs.2.1
    have HD := Lib.hid hd2
    have HT := Lib.hid (trimL_col (F := F) (j := 2) hs.1 hn9 hd2)
    have i1 : (0 : Int) ≤ (n : Int) - 1 := by omega
    clear hok hs hx hd2
    go_enter Tryd.func69, Tryd.ntmps69
    go_wp2_with fail
    refine HW.out.mono ?_
    rintro e w1 ⟨rfl, b1⟩
    have hR1 := hR.below b1 hBw
    have hB1s := b1.size
    obtain ⟨A', cap', hv, _, _, hcell⟩ := hR1
    cases hv
    have Hc := Lib.hid hcell
    clear hcell hR HW
    go_wp2_with fail
    go_loopg [7, 8] n (fun g s7 s8 wr => ∃ k : Nat, g + k = n ∧ s7 = .string (bStr (tx (colL F 2 k))) ∧ s8 = .int .i64 k ∧ Below w.heap.size w wr ∧ Below w1.heap.size w1 wr)
    case atStart => exact ⟨0, rfl, rfl, rfl, b1, Below.refl _ _⟩
    case round =>
      obtain ⟨k, hk, rfl, rfl, hB, hB1⟩ := hrel
      by_cases hlt : k < n
      · obtain ⟨b, o, rfl, hb, hc⟩ := Hc.out (by omega)
        have hbw : b < w1.heap.size := by omega
        have e2 := (hB1.cell (p := ⟨b, o + k * 4 + 2, none⟩) hbw).trans (hc k hlt 2 (by omega))
        have hdk := HD.out k hlt
        have HS := Lib.hid (bstr_step F 2 k)
        have hsz := bstr_col_size F 2 k
        simp only [IV] at e2
        clear hc
        generalize bStr (tx (colL F 2 k)) = c at *
        go_wp2_with fail
        refine (numDig _ _ hdk.1 hdk.2).mono ?_
        rintro e w2 ⟨rfl, b2⟩
        have hds1 : (dStr (F k 2).toNat).size = 1 := rfl
        generalize dStr (F k 2).toNat = q at *
        have hB2 := below_own hB b2 hB.size
        have hB12 := below_own hB1 b2 hB1.size
        clear b2 hB hB1 e2
        go_wp2_with fail
        go_roundg (gk - 1)
        case measure => omega
        case rel => exact ⟨k + 1, by omega, by rw [HS.out], by go_num, hB2, hB12⟩
      · obtain rfl : k = n := by omega
        obtain ⟨b, o, rfl, hb, hc⟩ := Hc.out (by omega)
        have hbw : b < w1.heap.size := by omega
        have e3 := (hB1.cell (p := ⟨b, o + (k - 1) * 4 + 3, none⟩) hbw).trans (hc (k - 1) (by omega) 3 (by omega))
        simp only [IV] at e3
        have hsz := bstr_col_size F 2 k
        have HTr := Lib.hid fun W => l2Trim_any (bStr (tx (colL F 2 k))) (by unfold maxLen; omega) W
        rw [bStr_list, HT.out] at HTr
        clear hc HT HD hB1
        generalize bStr (tx (colL F 2 k)) = c at *
        generalize plS (colL F 2 k) = s at *
        generalize F (k - 1) 3 = y at *
        obtain ⟨m, rfl⟩ : ∃ m, k = m + 1 := ⟨k - 1, by omega⟩
        have k1 : IntKind.i64.wrap (((m + 1 : Nat) : Int) - 1) = ((m : Nat) : Int) := by rw [show ((m + 1 : Nat) : Int) - 1 = (m : Int) by omega]; exact IntWalk.i64_in _ (by omega)
        have k2 : (((m + 1 : Nat) : Int) - 1) = ((m : Nat) : Int) := by omega
        simp only [Nat.add_sub_cancel] at e3
        go_wp2_with fail
        go_quiet ((go_at_call 36; exact Calls.quiet_of_same ((HTr.out _).mono fun e w9 h => ⟨h.1, h.2.symm⟩)))
        go_wp2_with fail
        go_ret3
        exact ⟨by rw [H1.out.1, H1.out.2.1]; rfl, below_drewN hB _⟩

/-- What QuotientOf says. -/
def quS (s : ByteArray) (d : Int) : ByteArray := resS (dvF s.data.toList d) (dvN s d) d
def quR (s : ByteArray) (d : Int) : Int := resR (dvF s.data.toList d) (dvN s d) d
def quB (s : ByteArray) (d : Int) : Bool := rsOk (dvF s.data.toList d) (dvN s d) d
set_option maxHeartbeats 1000000 in
theorem iQuotient (s : ByteArray) (hs : s.size ≤ maxLen) (d : Int) (w : World) :
    Calls Tryd.prog 42 #[.string s, .int .i64 d] w fun e w' => e = .returned (.tuple #[.string (quS s d), .int .i64 (quR s d), .bool (quB s d)]) ∧ Below w.heap.size w w' := by
  have HD := Lib.hid fun W => iDivided s hs d W
  clear hs
  unfold quS quR quB
  generalize dvF s.data.toList d = F at *
  generalize dvN s d = n at *
  go_enter Tryd.func42, Tryd.ntmps42
  go_wp2_with fail
  refine (HD.out _).mono ?_
  rintro e w1 ⟨v, rfl, o1, b1⟩
  have hR := Recs.of_own o1
  clear o1
  go_wp2_with fail
  refine (iResult _ _ _ n F d hR (Nat.le_refl _)).mono ?_
  rintro e w2 ⟨rfl, b2⟩
  have hB2 := below_own b1 b2 b1.size
  clear hR b1 b2
  go_wp2_with fail
  go_ret3
  exact ⟨rfl, hB2⟩
set_option maxHeartbeats 1000000 in
theorem sQuotient (s : ByteArray) (hs : s.size ≤ maxLen) (d : Int) (w : World) :
    Calls Tryd.prog 43 #[.string s, .int .i64 d] w fun e w' => e = .returned (.tuple #[.string (quS s d), .int .i64 (quR s d), .bool (quB s d)]) ∧ Below w.heap.size w w' := by
  have HD := Lib.hid fun W => sDivided s hs d W
  clear hs
  unfold quS quR quB
  generalize dvF s.data.toList d = F at *
  generalize dvN s d = n at *
  go_enter Tryd.func43, Tryd.ntmps43
  go_wp2_with fail
  refine (HD.out _).mono ?_
  rintro e w1 ⟨v, rfl, o1, b1⟩
  have hR := Recs.of_own o1
  clear o1
  go_wp2_with fail
  refine (sResult _ _ _ n F d hR (Nat.le_refl _)).mono ?_
  rintro e w2 ⟨rfl, b2⟩
  have hB2 := below_own b1 b2 b1.size
  clear hR b1 b2
  go_wp2_with fail
  go_ret3
  exact ⟨rfl, hB2⟩
def dvsB (s : ByteArray) (d : Int) : Bool := quB s d && quR s d == 0
set_option maxHeartbeats 1000000 in
theorem iDivides (s : ByteArray) (hs : s.size ≤ maxLen) (d : Int) (w : World) :
    Calls Tryd.prog 15 #[.string s, .int .i64 d] w fun e w' => e = .returned (.bool (dvsB s d)) ∧ Below w.heap.size w w' := by
  have HD := Lib.hid fun W => iQuotient s hs d W
  clear hs
  unfold dvsB
  generalize quS s d = x at *
  generalize quR s d = y at *
  cases hb : quB s d with
  | false =>
    rw [hb] at HD
    clear hb
    go_enter Tryd.func15, Tryd.ntmps15
    go_wp2_with fail
    refine (HD.out _).mono ?_
    rintro e w1 ⟨rfl, b1⟩
    go_wp2_with fail
    go_ret
    exact ⟨rfl, b1⟩
  | true =>
    rw [hb] at HD
    clear hb
    by_cases hy : y = 0
    · subst hy
      go_enter Tryd.func15, Tryd.ntmps15
      go_wp2_with fail
      refine (HD.out _).mono ?_
      rintro e w1 ⟨rfl, b1⟩
      go_wp2_with fail
      go_ret
      exact ⟨rfl, b1⟩
    · have ey : (y == 0) = false := beq_eq_false_iff_ne.2 hy
      have HE := Lib.hid ey
      clear hy
      go_enter Tryd.func15, Tryd.ntmps15
      go_wp2_with fail
      refine (HD.out _).mono ?_
      rintro e w1 ⟨rfl, b1⟩
      go_wp2_with fail
      go_ret
      exact ⟨by rw [HE.out]; rfl, b1⟩
set_option maxHeartbeats 1000000 in
theorem sDivides (s : ByteArray) (hs : s.size ≤ maxLen) (d : Int) (w : World) :
    Calls Tryd.prog 16 #[.string s, .int .i64 d] w fun e w' => e = .returned (.bool (dvsB s d)) ∧ Below w.heap.size w w' := by
  have HD := Lib.hid fun W => sQuotient s hs d W
  clear hs
  unfold dvsB
  generalize quS s d = x at *
  generalize quR s d = y at *
  cases hb : quB s d with
  | false =>
    rw [hb] at HD
    clear hb
    go_enter Tryd.func16, Tryd.ntmps16
    go_wp2_with fail
    refine (HD.out _).mono ?_
    rintro e w1 ⟨rfl, b1⟩
    go_wp2_with fail
    go_ret
    exact ⟨rfl, b1⟩
  | true =>
    rw [hb] at HD
    clear hb
    by_cases hy : y = 0
    · subst hy
      go_enter Tryd.func16, Tryd.ntmps16
      go_wp2_with fail
      refine (HD.out _).mono ?_
      rintro e w1 ⟨rfl, b1⟩
      go_wp2_with fail
      go_ret
      exact ⟨rfl, b1⟩
    · have ey : (y == 0) = false := beq_eq_false_iff_ne.2 hy
      have HE := Lib.hid ey
      clear hy
      go_enter Tryd.func16, Tryd.ntmps16
      go_wp2_with fail
      refine (HD.out _).mono ?_
      rintro e w1 ⟨rfl, b1⟩
      go_wp2_with fail
      go_ret
      exact ⟨by rw [HE.out]; rfl, b1⟩
end Go.Proofs.YtfmfjbphflkhiaaDoor
