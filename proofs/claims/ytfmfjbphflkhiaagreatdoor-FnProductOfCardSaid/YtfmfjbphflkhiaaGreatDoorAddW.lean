/- The walks of WrongColumn at right columns, WrittenOf and SumOf, of the program and of the reference. -/
import Derived.Test.YtfmfjbphflkhiaaGreatDoorAdd
namespace Go.Proofs.YtfmfjbphflkhiaaGreatDoor
set_option linter.unusedVariables false
set_option linter.unusedSimpArgs false
open Go.RowKit

set_option maxRecDepth 20000 in
set_option maxHeartbeats 2000000 in
theorem single_t (a b c d e0 : Int) (w : World) (ha : 0 ≤ a ∧ a ≤ 9) (hb : 0 ≤ b ∧ b ≤ 9) (hc : 0 ≤ c ∧ c ≤ 1) (hd : 0 ≤ d ∧ d ≤ 9) (he : 0 ≤ e0 ∧ e0 ≤ 1) :
    Calls Tryz.prog 95 #[.agg #[.int .i64 a, .int .i64 b, .int .i64 c, .int .i64 d, .int .i64 e0]] w fun e w' => e = .returned (.bool true) ∧ Below w.heap.size w w' := by
  obtain ⟨a0, a1⟩ := ha
  obtain ⟨b0, b1⟩ := hb
  obtain ⟨c0, c1⟩ := hc
  obtain ⟨d0, d1⟩ := hd
  obtain ⟨f0, f1⟩ := he
  go_enter Tryz.func95, Tryz.ntmps95
  go_wp2_with (first | (go_at_call 38; ((with_reducible refine (isDt _ _ ?_ ?_).mono ?_)); (omega); (omega); rintro e w' ⟨rfl, rfl⟩) | (go_at_call 35; ((with_reducible refine (in_t _ _ _ _ ?_ ?_).mono ?_)); (omega); (omega); rintro e w' ⟨rfl, rfl⟩))
  go_ret
  exact ⟨rfl, (Below.refl _ _).alloc (Nat.le_refl _) _⟩

set_option maxRecDepth 20000 in
set_option maxHeartbeats 2000000 in
theorem wc_cl (a b c d e0 : Int) (w : World) (ha : 0 ≤ a ∧ a ≤ 9) (hb : 0 ≤ b ∧ b ≤ 9) (hc : 0 ≤ c ∧ c ≤ 1) (hd : 0 ≤ d ∧ d ≤ 9) (he : 0 ≤ e0 ∧ e0 ≤ 1) (h : a + b + c = d + 10 * e0) :
    Calls Tryz.prog 94 #[.agg #[.int .i64 a, .int .i64 b, .int .i64 c, .int .i64 d, .int .i64 e0]] w fun e w' => e = .returned (.bool true) ∧ Below w.heap.size w w' := by
  have HSg := Lib.hid fun W => single_t a b c d e0 W ha hb hc hd he
  obtain ⟨a0, a1⟩ := ha
  obtain ⟨b0, b1⟩ := hb
  obtain ⟨c0, c1⟩ := hc
  obtain ⟨d0, d1⟩ := hd
  obtain ⟨f0, f1⟩ := he
  have ht : (a + b + c == d + 10 * e0) = true := by rw [beq_iff_eq]; exact h
  have hbel := (Below.refl w.heap.size w).alloc (Nat.le_refl _) (.cells #[.int .i64 a, .int .i64 b, .int .i64 c, .int .i64 d, .int .i64 e0] 58)
  clear h
  go_enter Tryz.func94, Tryz.ntmps94
  go_wp2_with fail
  refine (HSg.out _).mono ?_
  rintro e w2 ⟨rfl, b2⟩
  have hB2 := below_own hbel b2 hbel.size
  have hnew : ∀ j u, (#[Value.int .i64 a, .int .i64 b, .int .i64 c, .int .i64 d, .int .i64 e0])[j]? = some u → w2.cell? ⟨w.heap.size, j, none⟩ = some u := fun j u hj => by
    rw [b2.cell (p := ⟨w.heap.size, j, none⟩) (by simp), World.cell?_alloc_mark, hj]
  have g0 := hnew 0 _ rfl
  have g1 := hnew 1 _ rfl
  have g2 := hnew 2 _ rfl
  have g3 := hnew 3 _ rfl
  have g4 := hnew 4 _ rfl
  clear hnew b2 hbel
  go_wp2_with fail
  go_ret
  exact ⟨rfl, hB2⟩

set_option maxRecDepth 20000 in
set_option maxHeartbeats 4000000 in
theorem wrongc_ok (w : World) (B : Nat) (v : Value) (n : Nat) (F : Nat → Nat → Int) (hR : Recs w B v n 5 (IV F)) (hBw : B ≤ w.heap.size) (hT : addRight F n) :
    Calls Tryz.prog 51 #[v, .func (.func 94) #[] #[]] w fun e w' => e = .returned (.int .i64 (-1)) ∧ Below w.heap.size w w' := by
  obtain ⟨A, cap, rfl, hnc, hcm, hcell⟩ := hR
  unfold maxLen at hcm
  have Hc := Lib.hid hcell
  have hn9 := hT.2.1
  have HT := Lib.hid hT
  clear hcell hT
  go_enter Tryz.func51, Tryz.ntmps51
  go_wp2_with fail
  go_loopg [5, 6, 7, 10] n (fun g s5 s6 s7 s10 wr => ∃ k : Nat, ∃ c : Int, g + k = n ∧ s10 = .int .i64 k ∧ s5 = .int .i64 c ∧ Hid (c = cin F k) ∧ Below w.heap.size w wr)
  case atStart => exact ⟨0, 0, rfl, rfl, rfl, Lib.hid rfl, Below.refl _ _⟩
  case round =>
    obtain ⟨k, c, hk, rfl, rfl, HC, hB⟩ := hrel
    by_cases hlt : k < n
    · obtain ⟨b, o, rfl, hb, hc⟩ := Hc.out (by omega)
      have hbw : b < w.heap.size := by omega
      have e0 := (hB.cell (p := ⟨b, o + k * 5, none⟩) hbw).trans (hc k hlt 0 (by omega))
      have e1 := (hB.cell (p := ⟨b, o + k * 5 + 1, none⟩) hbw).trans (hc k hlt 1 (by omega))
      have e2 := (hB.cell (p := ⟨b, o + k * 5 + 2, none⟩) hbw).trans (hc k hlt 2 (by omega))
      have e3 := (hB.cell (p := ⟨b, o + k * 5 + 3, none⟩) hbw).trans (hc k hlt 3 (by omega))
      have e4 := (hB.cell (p := ⟨b, o + k * 5 + 4, none⟩) hbw).trans (hc k hlt 4 (by omega))
      simp only [IV] at e0 e1 e2 e3 e4
      have hin := (HT.out.2.2 k hlt).1
      rw [← HC.out] at hin
      rw [hin] at e2
      have hok := (HT.out.2.2 k hlt).2
      rw [hin] at hok
      have HN := Lib.hid (show cin F (k + 1) = F k 4 from rfl)
      obtain ⟨h0, h1, h2, h3, h4, h5⟩ := hok
      clear hc hin
      generalize F k 0 = x0 at *
      generalize F k 1 = x1 at *
      generalize F k 3 = x3 at *
      generalize F k 4 = x4 at *
      have hBs := hB.size
      have hB1 := hB.alloc hBs (.cells #[.int .i64 x0, .int .i64 x1, .int .i64 c, .int .i64 x3, .int .i64 x4] 58)
      have HCl := Lib.hid fun W => wc_cl x0 x1 c x3 x4 W h0 h1 h2 h3 h4 h5
      obtain ⟨h40, h41⟩ := h4
      obtain ⟨h20, h21⟩ := h2
      clear h0 h1 h3 h5
      go_wp2_with fail
      refine (HCl.out _).mono ?_
      rintro e w2 ⟨rfl, b2⟩
      have hB2 := below_own hB1 b2 hB1.size
      have hnew : ∀ j u, (#[Value.int .i64 x0, .int .i64 x1, .int .i64 c, .int .i64 x3, .int .i64 x4])[j]? = some u → w2.cell? ⟨wr.heap.size, j, none⟩ = some u := fun j u hj => by
        rw [b2.cell (p := ⟨wr.heap.size, j, none⟩) (by simp), World.cell?_alloc_mark, hj]
      have f4 := hnew 4 _ rfl
      clear hB hB1 hnew b2 e0 e1 e2 e3 e4
      go_wp2_with fail
      go_roundg (gk - 1)
      case measure => omega
      case rel => exact ⟨k + 1, x4, by omega, by go_num, rfl, Lib.hid HN.out.symm, hB2⟩
    · obtain rfl : k = n := by omega
      go_wp2_with fail
      go_ret
      exact ⟨rfl, hB⟩

set_option maxRecDepth 20000 in
theorem iWrongCol_ok (w : World) (B : Nat) (v : Value) (n : Nat) (F : Nat → Nat → Int) (hR : Recs w B v n 5 (IV F)) (hBw : B ≤ w.heap.size) (hT : addRight F n) :
    Calls Tryz.prog 82 #[v] w fun e w' => e = .returned (.int .i64 (-1)) ∧ Below w.heap.size w w' := by
  have HW := Lib.hid (wrongc_ok w B v n F hR hBw hT)
  have hn9 := hT.2.1
  obtain ⟨A, cap, rfl, hnc, hcm, hcell⟩ := hR
  unfold maxLen at hcm
  clear hcell hT
  go_enter Tryz.func82, Tryz.ntmps82
  go_wp2_with fail
  refine HW.out.mono ?_
  rintro e w1 ⟨rfl, b1⟩
  go_wp2_with fail
  go_ret
  exact ⟨rfl, b1⟩

set_option maxRecDepth 20000 in
set_option maxHeartbeats 2000000 in
theorem l2Digits_t (a b c d e0 : Int) (w : World) (ha : 0 ≤ a ∧ a ≤ 9) (hb : 0 ≤ b ∧ b ≤ 9) (hc : 0 ≤ c ∧ c ≤ 1) (hd : 0 ≤ d ∧ d ≤ 9) (he : 0 ≤ e0 ∧ e0 ≤ 1) :
    Calls Tryz.prog 96 #[.agg #[.int .i64 a, .int .i64 b, .int .i64 c, .int .i64 d, .int .i64 e0]] w fun e w' => e = .returned (.bool true) ∧ Below w.heap.size w w' := by
  obtain ⟨a0, a1⟩ := ha
  obtain ⟨b0, b1⟩ := hb
  obtain ⟨c0, c1⟩ := hc
  obtain ⟨d0, d1⟩ := hd
  obtain ⟨f0, f1⟩ := he
  go_enter Tryz.func96, Tryz.ntmps96
  go_wp2_with (first | (go_at_call 41; ((with_reducible refine (sin_t _ _ _ _ ?_ ?_).mono ?_)); (omega); (omega); rintro e w' ⟨rfl, rfl⟩))
  go_ret
  exact ⟨rfl, (Below.refl _ _).alloc (Nat.le_refl _) _⟩

set_option maxRecDepth 20000 in
set_option maxHeartbeats 4000000 in
theorem sWrongCol_ok (w : World) (B : Nat) (v : Value) (n : Nat) (F : Nat → Nat → Int) (hR : Recs w B v n 5 (IV F)) (hBw : B ≤ w.heap.size) (hT : addRight F n) :
    Calls Tryz.prog 83 #[v] w fun e w' => e = .returned (.int .i64 (-1)) ∧ Below w.heap.size w w' := by
  obtain ⟨A, cap, rfl, hnc, hcm, hcell⟩ := hR
  unfold maxLen at hcm
  have Hc := Lib.hid hcell
  have hn9 := hT.2.1
  have HT := Lib.hid hT
  clear hcell hT
  go_enter Tryz.func83, Tryz.ntmps83
  go_wp2_with fail
  go_loopg [3, 4, 5] n (fun g s3 s4 s5 wr => ∃ k : Nat, ∃ c : Int, g + k = n ∧ s4 = .int .i64 k ∧ s3 = .int .i64 c ∧ Hid (c = cin F k) ∧ Below w.heap.size w wr)
  case atStart => exact ⟨0, 0, rfl, rfl, rfl, Lib.hid rfl, Below.refl _ _⟩
  case round =>
    obtain ⟨k, c, hk, rfl, rfl, HC, hB⟩ := hrel
    by_cases hlt : k < n
    · obtain ⟨b, o, rfl, hb, hc⟩ := Hc.out (by omega)
      have hbw : b < w.heap.size := by omega
      have e0 := (hB.cell (p := ⟨b, o + k * 5, none⟩) hbw).trans (hc k hlt 0 (by omega))
      have e1 := (hB.cell (p := ⟨b, o + k * 5 + 1, none⟩) hbw).trans (hc k hlt 1 (by omega))
      have e2 := (hB.cell (p := ⟨b, o + k * 5 + 2, none⟩) hbw).trans (hc k hlt 2 (by omega))
      have e3 := (hB.cell (p := ⟨b, o + k * 5 + 3, none⟩) hbw).trans (hc k hlt 3 (by omega))
      have e4 := (hB.cell (p := ⟨b, o + k * 5 + 4, none⟩) hbw).trans (hc k hlt 4 (by omega))
      simp only [IV] at e0 e1 e2 e3 e4
      have hin := (HT.out.2.2 k hlt).1
      rw [← HC.out] at hin
      rw [hin] at e2
      have hok := (HT.out.2.2 k hlt).2
      rw [hin] at hok
      have HN := Lib.hid (show cin F (k + 1) = F k 4 from rfl)
      obtain ⟨h0, h1, h2, h3, h4, h5⟩ := hok
      clear hc hin
      generalize F k 0 = x0 at *
      generalize F k 1 = x1 at *
      generalize F k 3 = x3 at *
      generalize F k 4 = x4 at *
      have hBs := hB.size
      have hB1 := hB.alloc hBs (.cells #[.int .i64 x0, .int .i64 x1, .int .i64 c, .int .i64 x3, .int .i64 x4] 58)
      go_wp2_with fail
      refine (l2Digits_t _ _ _ _ _ _ h0 h1 h2 h3 h4).mono ?_
      rintro e w2 ⟨rfl, b2⟩
      have hB2 := below_own hB1 b2 hB1.size
      have hnew : ∀ j u, (#[Value.int .i64 x0, .int .i64 x1, .int .i64 c, .int .i64 x3, .int .i64 x4])[j]? = some u → w2.cell? ⟨wr.heap.size, j, none⟩ = some u := fun j u hj => by
        rw [b2.cell (p := ⟨wr.heap.size, j, none⟩) (by simp), World.cell?_alloc_mark, hj]
      have f0 := hnew 0 _ rfl
      have f1 := hnew 1 _ rfl
      have f2 := hnew 2 _ rfl
      have f3 := hnew 3 _ rfl
      have f4 := hnew 4 _ rfl
      have ht : (x0 + x1 + c != x3 + 10 * x4) = false := by simp; omega
      obtain ⟨h00, h01⟩ := h0
      obtain ⟨h10, h11⟩ := h1
      obtain ⟨h20, h21⟩ := h2
      obtain ⟨h30, h31⟩ := h3
      obtain ⟨h40, h41⟩ := h4
      clear hB hB1 hnew b2 e0 e1 e2 e3 e4 h5
      go_wp2_with fail
      go_roundg (gk - 1)
      case measure => omega
      case rel => exact ⟨k + 1, x4, by omega, by go_num, rfl, Lib.hid HN.out.symm, hB2⟩
    · obtain rfl : k = n := by omega
      go_wp2_with fail
      go_ret
      exact ⟨rfl, hB⟩

set_option maxRecDepth 20000 in
theorem iWrittenOf (w : World) (B : Nat) (v : Value) (n : Nat) (F : Nat → Nat → Int) (hR : Recs w B v n 5 (IV F)) (hBw : B ≤ w.heap.size) (hT : addRight F n) :
    Calls Tryz.prog 67 #[v] w fun e w' => e = .returned (.tuple #[.string (coS F n), .bool (coB F n)]) ∧ Below w.heap.size w w' := by
  have HW := Lib.hid (iWrongCol_ok w B v n F hR hBw hT)
  have hd := addRight_dig hT
  have HC := Lib.hid fun W (hW : Below w.heap.size w W) => withCarry_ok W B v n F (hR.below hW hBw) (by have := hW.size; omega) hT.1 hT.2.1 hd
  have hn1 := hT.1
  obtain ⟨A, cap, rfl, hnc, hcm, hcell⟩ := hR
  unfold maxLen at hcm
  have e0 : ((n : Int) == 0) = false := beq_eq_false_iff_ne.2 (by omega)
  clear hcell hT hd
  go_enter Tryz.func67, Tryz.ntmps67
  go_wp2_with fail
  refine HW.out.mono ?_
  rintro e w1 ⟨rfl, b1⟩
  go_wp2_with fail
  refine (HC.out _ b1).mono ?_
  rintro e w2 ⟨rfl, b2⟩
  have hB2 := below_own b1 b2 b1.size
  go_wp2_with fail
  go_ret2
  exact ⟨rfl, hB2⟩

set_option maxRecDepth 20000 in
set_option maxHeartbeats 4000000 in
theorem sWrittenOf (w : World) (B : Nat) (v : Value) (n : Nat) (F : Nat → Nat → Int) (hR : Recs w B v n 5 (IV F)) (hBw : B ≤ w.heap.size) (hT : addRight F n) :
    Calls Tryz.prog 69 #[v] w fun e w' => e = .returned (.tuple #[.string (coS F n), .bool (coB F n)]) ∧ Below w.heap.size w w' := by
  have HW := Lib.hid (sWrongCol_ok w B v n F hR hBw hT)
  have n1 := hT.1
  have n9 := hT.2.1
  have hd := addRight_dig hT
  have hz0 : ((n : Int) == 0) = false := beq_eq_false_iff_ne.2 (by omega)
  have HNo := Lib.hid fun (h : coB F n = false) => co_no h
  have HT := Lib.hid (co_trim n1 hd)
  have HSt := Lib.hid (co_step F n)
  have HSz := Lib.hid (co_size F n)
  have HD := Lib.hid hd
  have htz : (trimL (tx (rwD F n n))).length ≤ 10 := by
    have h1 := trimL_len (tx (rwD F n n))
    rw [tx_length, rwD_length] at h1
    omega
  have HTr := Lib.hid fun W => l2Trim_any (bStr (tx (rwD F n n))) (by rw [co_size]; unfold maxLen; omega) W
  rw [bStr_list] at HTr
  have HNm := Lib.hid fun W => sNum (bStr (trimL (tx (rwD F n n)))) (by rw [bStr_size]; unfold maxLen; omega) W
  rw [bStr_list, HT.out.1] at HNm
  have HR := Lib.hid hR
  obtain ⟨A, cap, rfl, hnc, hcm, hcell⟩ := hR
  unfold maxLen at hcm
  obtain ⟨b, o, rfl, hb, hc⟩ := hcell (by omega)
  have hbw : b < w.heap.size := by omega
  have c0 := hc (n - 1) (by omega) 4 (by omega)
  simp only [IV] at c0
  have Hc := Lib.hid hc
  have dl := (hd (n - 1) (by omega)).2
  obtain ⟨dl0, dl9⟩ := dl
  have H0 : Hid (dStr (F (n - 1) 4).toNat = bStr (tx (rwD F n 0))) := Lib.hid rfl
  have hn1 : (n : Int) - 1 = ((n - 1 : Nat) : Int) := by omega
  have hnn : n - 1 < n := by omega
  clear hcell hc hd hT htz
  generalize F (n - 1) 4 = out at *
  go_enter Tryz.func69, Tryz.ntmps69
  go_wp2_with fail
  refine HW.out.mono ?_
  rintro e w1 ⟨rfl, b1⟩
  have c1 := (b1.cell (p := ⟨b, o + (n - 1) * 5 + 4, none⟩) hbw).trans c0
  clear c0
  go_wp2_with fail
  refine (numDig _ _ dl0 dl9).mono ?_
  rintro e w2 ⟨rfl, b2⟩
  have hB2 := below_own b1 b2 b1.size
  rw [H0.out]
  clear b1 b2 c1
  go_wp2_with fail
  go_loopg [4, 5] n (fun g s4 s5 wr => ∃ m : Nat, g + m = n ∧ s5 = .int .i64 ((g : Int) - 1) ∧ s4 = .string (bStr (tx (rwD F n m))) ∧ Below w.heap.size w wr)
  case atStart => exact ⟨0, rfl, by first | rfl | go_num, rfl, hB2⟩
  case round =>
    obtain ⟨m, hgm, rfl, rfl, hB⟩ := hrel
    by_cases hlt : m < n
    · obtain ⟨k, rfl⟩ : ∃ k, gk = k + 1 := ⟨gk - 1, by omega⟩
      have hkm : n - 1 - m = k := by omega
      have e3 := (hB.cell (p := ⟨b, o + k * 5 + 3, none⟩) hbw).trans (Hc.out k (by omega) 3 (by omega))
      rw [show IV F k 3 = .int .i64 (F k 3) from rfl] at e3
      have hd := (HD.out k (by omega)).1
      have hS := HSt.out m
      rw [hkm] at hS
      have HS2 := Lib.hid hS
      have hz := HSz.out m
      have k2 : (((k + 1 : Nat) : Int) - 1) = ((k : Nat) : Int) := by omega
      rw [k2]
      clear hS
      generalize bStr (tx (rwD F n m)) = c at *
      generalize F k 3 = d at *
      have hki : (0 : Int) ≤ (k : Int) := by omega
      have hkn : k < n := by omega
      go_wp2_with fail
      refine (numDig _ _ hd.1 hd.2).mono ?_
      rintro e w3 ⟨rfl, b3⟩
      have hds1 : (dStr d.toNat).size = 1 := rfl
      generalize dStr d.toNat = q at *
      have hB3 := below_own hB b3 hB.size
      clear b3 hB e3
      go_wp2_with fail
      go_roundg k
      case measure => omega
      case rel => exact ⟨m + 1, by omega, by first | rfl | go_num, by rw [HS2.out], hB3⟩
    · obtain rfl : gk = 0 := by omega
      obtain rfl : m = n := by omega
      have hz := HSz.out m
      generalize bStr (tx (rwD F m m)) = c at *
      generalize htt : bStr (trimL (tx (rwD F m m))) = t at *
      have HTt := Lib.hid htt
      clear htt
      go_wp2_with fail
      refine (HTr.out _).mono ?_
      rintro e w' ⟨rfl, rfl⟩
      cases hcb : coB F m with
      | true =>
        rw [hcb] at HNm
        have HE := Lib.hid (HT.out.2 hcb)
        have HCb := Lib.hid hcb
        clear hcb
        go_wp2_with fail
        refine (HNm.out _).mono ?_
        rintro e w' ⟨rfl, rfl⟩
        go_wp2_with fail
        go_ret2
        exact ⟨by rw [HCb.out, ← HE.out]; rfl, hB⟩
      | false =>
        have HE := Lib.hid (HNo.out hcb)
        rw [hcb] at HNm
        have HCb := Lib.hid hcb
        clear hcb
        go_wp2_with fail
        refine (HNm.out _).mono ?_
        rintro e w' ⟨rfl, rfl⟩
        go_wp2_with fail
        go_ret2
        exact ⟨by rw [HCb.out, HE.out]; rfl, hB⟩

set_option maxRecDepth 20000 in
theorem iSumOf (a b : ByteArray) (ha : numB a.data.toList = true) (hb : numB b.data.toList = true) (w : World) :
    Calls Tryz.prog 47 #[.string a, .string b] w fun e w' => e = .returned (.tuple #[.string (adS a.data.toList b.data.toList), .bool (adB a.data.toList b.data.toList)]) ∧ Below w.heap.size w w' := by
  have HA := Lib.hid (iAddedOf a b ha hb _ (maxN_is a b) w)
  have hT := add_is_right ha hb
  have HW := Lib.hid fun W v hR => iWrittenOf W W.heap.size v _ _ hR (Nat.le_refl _) hT
  unfold adS adB
  clear ha hb hT
  generalize adN a.data.toList b.data.toList = n at *
  generalize addF a.data.toList b.data.toList = F at *
  generalize coS F n = x at *
  generalize coB F n = ok at *
  go_enter Tryz.func47, Tryz.ntmps47
  go_wp2_with fail
  refine HA.out.mono ?_
  rintro e w1 ⟨v, rfl, o1, b1⟩
  have R1 := Recs.of_own o1
  go_wp2_with fail
  refine (HW.out _ v R1).mono ?_
  rintro e w2 ⟨rfl, b2⟩
  have hB2 := below_own b1 b2 b1.size
  go_wp2_with fail
  go_ret2
  exact ⟨rfl, hB2⟩

set_option maxRecDepth 20000 in
theorem sSumOf (a b : ByteArray) (ha : numB a.data.toList = true) (hb : numB b.data.toList = true) (w : World) :
    Calls Tryz.prog 48 #[.string a, .string b] w fun e w' => e = .returned (.tuple #[.string (adS a.data.toList b.data.toList), .bool (adB a.data.toList b.data.toList)]) ∧ Below w.heap.size w w' := by
  have HA := Lib.hid (sAddedOf a b ha hb _ (maxN_is a b) w)
  have hT := add_is_right ha hb
  have HW := Lib.hid fun W v hR => sWrittenOf W W.heap.size v _ _ hR (Nat.le_refl _) hT
  unfold adS adB
  clear ha hb hT
  generalize adN a.data.toList b.data.toList = n at *
  generalize addF a.data.toList b.data.toList = F at *
  generalize coS F n = x at *
  generalize coB F n = ok at *
  go_enter Tryz.func48, Tryz.ntmps48
  go_wp2_with fail
  refine HA.out.mono ?_
  rintro e w1 ⟨v, rfl, o1, b1⟩
  have R1 := Recs.of_own o1
  go_wp2_with fail
  refine (HW.out _ v R1).mono ?_
  rintro e w2 ⟨rfl, b2⟩
  have hB2 := below_own b1 b2 b1.size
  go_wp2_with fail
  go_ret2
  exact ⟨rfl, hB2⟩

end Go.Proofs.YtfmfjbphflkhiaaGreatDoor
