/- The walks of the program's DigitSum, NineOf and ElevenOf. -/
import Derived.Test.YtfmfjbphflkhiaaGreatDoorNeP
import Derived.Test.YtfmfjbphflkhiaaGreatDoorNumW
namespace Go.Proofs.YtfmfjbphflkhiaaGreatDoor
set_option linter.unusedVariables false
set_option linter.unusedSimpArgs false
open Go.RowKit

set_option maxRecDepth 20000 in
set_option maxHeartbeats 1000000 in
theorem iDigitSum (s : ByteArray) (hs : s.size ≤ maxLen) (w : World) : Calls Tryz.prog 49 #[.string s] w fun e w' => e = .returned (.int .i64 (sumI s.data.toList)) ∧ w = w' := by
  have HN := Lib.hid fun W => iNum s hs W
  cases hn : numB s.data.toList with
  | false =>
    have HX : Hid (sumI s.data.toList = -1) := Lib.hid (by unfold sumI; rw [hn]; rfl)
    rw [hn] at HN
    clear hn hs
    go_enter Tryz.func49, Tryz.ntmps49
    go_wp2_with fail
    refine (HN.out _).mono ?_
    rintro e w' ⟨rfl, rfl⟩
    go_wp2_with fail
    go_ret
    exact ⟨by rw [HX.out]; rfl, rfl⟩
  | true =>
    have HX : Hid (sumI s.data.toList = smV (dg s.data.toList) s.size) := Lib.hid (by unfold sumI; rw [if_pos hn, str_len])
    have HD := Lib.hid fun k W => iDigit s hs hn k W
    have HR := Lib.hid fun k => dg_range (numB_all hn) k
    have HSr := Lib.hid fun k => smV_range (g := dg s.data.toList) (fun k => dg_range (numB_all hn) k) k
    have hl := (numB_len hn).2
    rw [str_len] at hl
    rw [hn] at HN
    clear hn hs
    go_enter Tryz.func49, Tryz.ntmps49
    go_wp2_with fail
    refine (HN.out _).mono ?_
    rintro e w' ⟨rfl, rfl⟩
    go_wp2_with fail
    go_loopg [3, 4, 10] s.size (fun g s3 s4 s10 wr => ∃ k : Nat, ∃ y : Int, g + k = s.size ∧ s10 = .int .i64 k ∧ s3 = .int .i64 y ∧ Hid (y = smV (dg s.data.toList) k) ∧ w = wr)
    case atStart => exact ⟨0, 0, rfl, rfl, rfl, Lib.hid rfl, rfl⟩
    case round =>
      obtain ⟨k, y, hk, rfl, rfl, HY, rfl⟩ := hrel
      by_cases hlt : k < s.size
      · have hy := HSr.out k
        rw [← HY.out] at hy
        have hd := HR.out k
        have HSt : Hid (smV (dg s.data.toList) (k + 1) = y + dg s.data.toList k) := Lib.hid (by rw [HY.out]; rfl)
        have hki : (k : Int) < (s.size : Int) := by omega
        have HDk := Lib.hid (HD.out k w)
        generalize dg s.data.toList k = d at *
        go_wp2_with fail
        refine HDk.out.mono ?_
        rintro e w' ⟨rfl, rfl⟩
        go_wp2_with fail
        go_roundg (gk - 1)
        case measure => omega
        case rel => exact ⟨k + 1, y + d, by omega, by go_num, by go_num, Lib.hid HSt.out.symm, rfl⟩
      · obtain rfl : k = s.size := by omega
        go_wp2_with fail
        go_ret
        exact ⟨by rw [HX.out, ← HY.out]; rfl, rfl⟩

set_option maxRecDepth 20000 in
theorem iNineOf (s : ByteArray) (hs : s.size ≤ maxLen) (w : World) : Calls Tryz.prog 31 #[.string s] w fun e w' => e = .returned (.int .i64 (ninI s.data.toList)) ∧ w = w' := by
  have HN := Lib.hid fun W => iNum s hs W
  have HD := Lib.hid fun W => iDigitSum s hs W
  cases hn : numB s.data.toList with
  | false =>
    have HX : Hid (ninI s.data.toList = -1) := Lib.hid (by unfold ninI; rw [hn]; rfl)
    rw [hn] at HN
    clear hn hs
    go_enter Tryz.func31, Tryz.ntmps31
    go_wp2_with fail
    refine (HN.out _).mono ?_
    rintro e w' ⟨rfl, rfl⟩
    go_wp2_with fail
    go_ret
    exact ⟨by rw [HX.out]; rfl, rfl⟩
  | true =>
    have hsr := smV_range (g := dg s.data.toList) (fun k => dg_range (numB_all hn) k) s.size
    have hl := (numB_len hn).2
    rw [str_len] at hl
    have HX : Hid (ninI s.data.toList = smV (dg s.data.toList) s.size % 9) := Lib.hid (by unfold ninI; rw [if_pos hn, ← val9, str_len])
    have hX : sumI s.data.toList = smV (dg s.data.toList) s.size := by unfold sumI; rw [if_pos hn, str_len]
    rw [hX] at HD
    rw [hn] at HN
    clear hn hs hX
    generalize smV (dg s.data.toList) s.size = y at *
    obtain ⟨y0, y1⟩ := hsr
    go_enter Tryz.func31, Tryz.ntmps31
    go_wp2_with fail
    refine (HN.out _).mono ?_
    rintro e w' ⟨rfl, rfl⟩
    go_wp2_with fail
    refine (HD.out _).mono ?_
    rintro e w' ⟨rfl, rfl⟩
    go_wp2_with fail
    go_ret
    exact ⟨by rw [HX.out]; rfl, rfl⟩

set_option maxRecDepth 20000 in
set_option maxHeartbeats 2000000 in
theorem iElevenOf (s : ByteArray) (hs : s.size ≤ maxLen) (w : World) : Calls Tryz.prog 32 #[.string s] w fun e w' => e = .returned (.int .i64 (eleI s.data.toList)) ∧ w = w' := by
  have HN := Lib.hid fun W => iNum s hs W
  cases hn : numB s.data.toList with
  | false =>
    have HX : Hid (eleI s.data.toList = -1) := Lib.hid (by unfold eleI; rw [hn]; rfl)
    rw [hn] at HN
    clear hn hs
    go_enter Tryz.func32, Tryz.ntmps32
    go_wp2_with fail
    refine (HN.out _).mono ?_
    rintro e w' ⟨rfl, rfl⟩
    go_wp2_with fail
    go_ret
    exact ⟨by rw [HX.out]; rfl, rfl⟩
  | true =>
    have HX : Hid (eleI s.data.toList = alV (dg s.data.toList) s.size % 11) := Lib.hid (by unfold eleI; rw [if_pos hn, ← val11, str_len])
    have HD := Lib.hid fun k W => iDigit s hs hn k W
    have HR := Lib.hid fun k => dg_range (numB_all hn) k
    have HSr := Lib.hid fun k => alV_range (g := dg s.data.toList) (fun k => dg_range (numB_all hn) k) k
    have hl := (numB_len hn).2
    rw [str_len] at hl
    rw [hn] at HN
    clear hn hs
    go_enter Tryz.func32, Tryz.ntmps32
    go_wp2_with fail
    refine (HN.out _).mono ?_
    rintro e w' ⟨rfl, rfl⟩
    go_wp2_with fail
    go_loopg [3, 4, 10] s.size (fun g s3 s4 s10 wr => ∃ k : Nat, ∃ y : Int, g + k = s.size ∧ s10 = .int .i64 k ∧ s3 = .int .i64 y ∧ Hid (y = alV (dg s.data.toList) k) ∧ w = wr)
    case atStart => exact ⟨0, 0, rfl, rfl, rfl, Lib.hid rfl, rfl⟩
    case round =>
      obtain ⟨k, y, hk, rfl, rfl, HY, rfl⟩ := hrel
      have hy := HSr.out k
      rw [← HY.out] at hy
      by_cases hlt : k < s.size
      · have hd := HR.out k
        have HSt : Hid (alV (dg s.data.toList) (k + 1) = if k % 2 = 0 then y + dg s.data.toList k else y - dg s.data.toList k) := Lib.hid (by rw [HY.out]; rfl)
        have hki : (k : Int) < (s.size : Int) := by omega
        have HDk := Lib.hid (HD.out k w)
        generalize dg s.data.toList k = d at *
        by_cases h2 : k % 2 = 0
        · have t2 : ((k : Int) % 2 == 0) = true := by rw [beq_iff_eq]; omega
          have HS2 : Hid (alV (dg s.data.toList) (k + 1) = y + d) := Lib.hid (by rw [HSt.out, if_pos h2])
          clear h2 HSt
          go_wp2_with fail
          refine HDk.out.mono ?_
          rintro e w' ⟨rfl, rfl⟩
          go_wp2_with fail
          go_roundg (gk - 1)
          case measure => omega
          case rel => exact ⟨k + 1, y + d, by omega, by go_num, by go_num, Lib.hid HS2.out.symm, rfl⟩
        · have t2 : ((k : Int) % 2 == 0) = false := by rw [beq_eq_false_iff_ne]; omega
          have HS2 : Hid (alV (dg s.data.toList) (k + 1) = y - d) := Lib.hid (by rw [HSt.out, if_neg h2])
          clear h2 HSt
          go_wp2_with fail
          refine HDk.out.mono ?_
          rintro e w' ⟨rfl, rfl⟩
          go_wp2_with fail
          go_roundg (gk - 1)
          case measure => omega
          case rel => exact ⟨k + 1, y - d, by omega, by go_num, by go_num, Lib.hid HS2.out.symm, rfl⟩
      · obtain rfl : k = s.size := by omega
        have ht := (show ∀ a : Int, -1000 ≤ a → a ≤ 1000 → ((a.tmod 11 + 11).tmod 11 = a % 11 ∧ -11 ≤ a.tmod 11 ∧ a.tmod 11 ≤ 11 ∧ 0 ≤ a.tmod 11 + 11) from fun a _ _ => by
          have h1 := Int.tmod_eq_emod_of_nonneg (a := a.tmod 11 + 11) (b := 11) (by have := Int.lt_tmod_of_pos a (show (0 : Int) < 11 by decide); omega)
          rw [h1]
          have h2 := Int.tmod_def a 11
          have h3 := Int.lt_tmod_of_pos a (show (0 : Int) < 11 by decide)
          have h4 := Int.tmod_lt_of_pos a (show (0 : Int) < 11 by decide)
          refine ⟨?_, by omega, by omega, by omega⟩
          rw [h2]; omega)
        obtain ⟨t1, t2, t3, t4⟩ := ht y (by omega) (by omega)
        go_wp2_with fail
        go_ret
        exact ⟨by rw [HX.out, ← HY.out, ← t1]; rfl, rfl⟩
end Go.Proofs.YtfmfjbphflkhiaaGreatDoor
