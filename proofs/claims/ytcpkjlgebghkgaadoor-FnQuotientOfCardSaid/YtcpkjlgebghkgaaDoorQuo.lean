/- Plain law: what a quotient is worth; the draws of divisions. -/
import Derived.Test.YtcpkjlgebghkgaaDoorDvp
import Derived.Test.YtcpkjlgebghkgaaDoorDivn
import Derived.Test.YtcpkjlgebghkgaaDoorVal
namespace Go.Proofs.YtcpkjlgebghkgaaDoor
set_option linter.unusedVariables false
set_option linter.unusedSimpArgs false
open Go.RowKit

theorem valF_trim0 : ∀ (l : List UInt8), valF (trim0 l) 0 = valF l 0
  | [] => rfl
  | b :: r => by
    by_cases h : b = 48
    · subst h
      have : trim0 (48 :: r) = trim0 r := rfl
      rw [this, valF_trim0 r]
      rfl
    · have e : (b == 48) = false := by simpa using h
      have : trim0 (b :: r) = b :: r := by simp [trim0, List.dropWhile, e]
      rw [this]
theorem val_trimZ (l : List UInt8) : val (trimZ l) = val l := by
  rw [val_F, val_F, ← valF_trim0 l]
  unfold trimZ
  split
  · rename_i h; rw [h]; rfl
  · rfl
/-- What the first digits of a column are worth. -/
def colV (F : Nat → Nat → Int) (j : Nat) : Nat → Int
  | 0 => 0
  | k + 1 => 10 * colV F j k + F k j
theorem val_col (F : Nat → Nat → Int) (j n : Nat) (h : ∀ i, i < n → 0 ≤ F i j ∧ F i j ≤ 9) : val (tx (colL F j n)) = colV F j n := by
  rw [val_F]
  induction n with
  | zero => rfl
  | succ n ih =>
    rw [colL_succ, tx_append]
    show valF (tx (colL F j n) ++ [UInt8.ofNat (48 + (F n j).toNat)]) 0 = _
    rw [valF_snoc, ih fun i hi => h i (by omega)]
    have hd := h n (by omega)
    have e : (UInt8.ofNat (48 + (F n j).toNat)).toNat = 48 + (F n j).toNat := by rw [UInt8.toNat_ofNat']; omega
    rw [e]
    show _ = 10 * colV F j n + F n j
    omega
theorem val_plS (F : Nat → Nat → Int) (j n : Nat) (h : ∀ i, i < n → 0 ≤ F i j ∧ F i j ≤ 9) (h0 : n ≠ 0) (h9 : n ≤ 9) :
    numB (plS (colL F j n)).data.toList = true ∧ valO (plS (colL F j n)).data.toList = colV F j n := by
  have hp := plS_col (F := F) (j := j) h0 h9
  have hn := plS_num (colL_mem h) hp.2
  refine ⟨hn, ?_⟩
  unfold valO
  rw [if_pos hn, hp.1, bStr_list, val_trimZ, val_col F j n h]
theorem colV_range (F : Nat → Nat → Int) (j n : Nat) (h : ∀ i, i < n → 0 ≤ F i j ∧ F i j ≤ 9) : 0 ≤ colV F j n ∧ colV F j n < 10 ^ n := by
  induction n with
  | zero => exact ⟨Int.le_refl 0, show (0 : Int) < 1 by decide⟩
  | succ n ih =>
    have h1 := ih fun i hi => h i (by omega)
    have h2 := h n (by omega)
    rw [Int.pow_succ]
    show 0 ≤ 10 * colV F j n + F n j ∧ 10 * colV F j n + F n j < _
    omega
theorem colV_small (F : Nat → Nat → Int) (j n : Nat) (h : ∀ i, i < n → 0 ≤ F i j ∧ F i j ≤ 9) (h9 : n ≤ 9) : 0 ≤ colV F j n ∧ colV F j n < 1000000000 := by
  have h1 := colV_range F j n h
  have h2 := pow_small n h9
  omega
theorem quo_law (F : Nat → Nat → Int) (d : Int) (n : Nat) (h : ∀ i, i < n → stepOk F d i = true) : colV F 2 n * d + lf F n = colV F 1 n := by
  induction n with
  | zero => simp [colV, lf]
  | succ n ih =>
    have h1 := ih fun i hi => h i (by omega)
    have h2 := stepOk_iff.1 (h n (by omega))
    show (10 * colV F 2 n + F n 2) * d + F n 3 = 10 * colV F 1 n + F n 1
    have e : (10 * colV F 2 n + F n 2) * d = 10 * (colV F 2 n * d) + F n 2 * d := by rw [Int.add_mul, Int.mul_assoc]
    rw [e]
    omega
/-- All that the laws want of a right transcript. -/
theorem rs_all {F : Nat → Nat → Int} {n : Nat} {d : Int} (h : rsOk F n d = true) :
    numB (resS F n d).data.toList = true ∧ numB (dvdS F n d).data.toList = true ∧ valO (dvdS F n d).data.toList = colV F 1 n ∧ 0 ≤ valO (resS F n d).data.toList ∧ valO (resS F n d).data.toList < 1000000000 ∧
    valO (resS F n d).data.toList * d + resR F n d = valO (dvdS F n d).data.toList ∧ 0 ≤ resR F n d ∧ resR F n d < d := by
  obtain ⟨h0, h9, h1, h2, hok⟩ := rsOk_steps h
  have hd := rsOk_dig h
  obtain ⟨e1, e2, e3⟩ := rs_yes h
  have v2 := val_plS F 2 n (fun i hi => (hd i hi).2) h0 h9
  have v1 := val_plS F 1 n (fun i hi => (hd i hi).1) h0 h9
  have r2 := colV_small F 2 n (fun i hi => (hd i hi).2) h9
  have q := quo_law F d n hok
  have l : lf F n = F (n - 1) 3 := by
    obtain ⟨m, rfl⟩ : ∃ m, n = m + 1 := ⟨n - 1, by omega⟩
    rfl
  have hl := stepOk_iff.1 (hok (n - 1) (by omega))
  rw [e1, e2, e3, v2.2, v1.2]
  exact ⟨v2.1, v1.1, rfl, r2.1, r2.2, by rw [← l]; exact q, by omega, by omega⟩
theorem rs_none {F : Nat → Nat → Int} {n : Nat} {d : Int} (h : rsOk F n d = false) : resS F n d = ⟨#[]⟩ ∧ resR F n d = -1 ∧ dvdS F n d = ⟨#[]⟩ := rs_no h

/-- A transcript and a divisor, drawn. -/
def DrawLI (w : World) (e : Ending) (w' : World) : Prop := ∃ v d n F, e = .returned (.tuple #[v, .int .i64 d]) ∧ n ≤ 10 ∧ 0 ≤ d ∧ d ≤ 99 ∧ Own w' w.heap.size 60 4 v n (recCells 4 (IV F) n) ∧ Below w.heap.size w w'
set_option maxRecDepth 20000 in
theorem draw_Dividend (A : Option Addr) (len cap : Nat) (w : World) (hc : CodeIn w A len cap) : Calls Tryd.prog 50 #[.slice A len cap] w (DrawLI w) := by
  go_enter Tryd.func50, Tryd.ntmps50
  go_wp2_with fail
  refine (open_any A len cap _ hc).mono ?_
  rintro e w0 ⟨rfl, hR0, hB0⟩
  go_wp2_with fail
  refine (division_any _ _ _ _ hR0 (by omega) (by omega) (by omega)).mono ?_
  rintro e w1 ⟨v, d, n, F, rfl, hn, hd0, hd1, ho, p', hp', hR', hg⟩
  have hB1 := hB0.grown hg hB0.size (fun k hk => by cases hk; exact Nat.le_refl _)
  have ho' := ho.mono hB0.size
  go_wp2_with fail
  go_ret2
  exact ⟨v, d, n, F, rfl, hn, hd0, hd1, ho', hB1⟩
set_option maxRecDepth 20000 in
theorem draw_Result (A : Option Addr) (len cap : Nat) (w : World) (hc : CodeIn w A len cap) : Calls Tryd.prog 52 #[.slice A len cap] w (DrawLI w) := by
  go_enter Tryd.func52, Tryd.ntmps52
  go_wp2_with fail
  refine (open_any A len cap _ hc).mono ?_
  rintro e w0 ⟨rfl, hR0, hB0⟩
  go_wp2_with fail
  refine (division_any _ _ _ _ hR0 (by omega) (by omega) (by omega)).mono ?_
  rintro e w1 ⟨v, d, n, F, rfl, hn, hd0, hd1, ho, p', hp', hR', hg⟩
  have hB1 := hB0.grown hg hB0.size (fun k hk => by cases hk; exact Nat.le_refl _)
  have ho' := ho.mono hB0.size
  go_wp2_with fail
  go_ret2
  exact ⟨v, d, n, F, rfl, hn, hd0, hd1, ho', hB1⟩

set_option maxRecDepth 20000 in
set_option maxHeartbeats 4000000 in
/-- The law on DividendOf. -/
theorem law_DividendOf (A : Option Addr) (len cap : Nat) (w : World) (hc : CodeIn w A len cap) :
    Calls Tryd.prog 12 #[.slice A len cap] w fun e w' => e = .returned (.bool true) ∧ Below w.heap.size w w' := by
  have hlc := hc.1
  have hcm := hc.2.1
  unfold maxLen at hcm
  by_cases hbig : 1048576 < len
  · go_enter Tryd.func12, Tryd.ntmps12
    go_wp2_with fail
    go_ret
    exact ⟨rfl, Below.refl _ _⟩
  have hbig' : len ≤ 1048576 := by omega
  clear hbig
  go_enter Tryd.func12, Tryd.ntmps12
  go_wp2_with fail
  refine (draw_Dividend A len cap _ hc).mono ?_
  rintro e w1 ⟨v, d, n, F, rfl, hn, hd0, hd1, ho, b1⟩
  clear hc
  have hR := Recs.of_own ho
  clear ho
  have CD := Lib.hid fun W hR hB => iDividend W w1.heap.size v n F d hR hB
  have CS := Lib.hid fun W hR hB => sDividend W w1.heap.size v n F d hR hB
  cases hok : rsOk F n d with
  | false =>
    have H := (rs_none hok).2.2
    rw [H, hok] at CD CS
    clear H hok
    go_wp2_with fail
    refine (CD.out _ hR (Nat.le_refl _)).mono ?_
    rintro e w2 ⟨rfl, b2⟩
    have hR2 := hR.below b2 (Nat.le_refl _)
    have hB2 := below_own b1 b2 b1.size
    have hs2 := b2.size
    clear b1 b2 hR
    go_wp2_with fail
    refine (CS.out _ hR2 hs2).mono ?_
    rintro e w3 ⟨rfl, b3⟩
    have hB3 := below_own hB2 b3 hB2.size
    go_wp2_with (go_at_call 19; refine (alive_any _).mono ?_; rintro e w' ⟨rfl, rfl⟩)
    go_ret
    exact ⟨rfl, hB3⟩
  | true =>
    have HA := Lib.hid (rs_all hok)
    have hst := rsOk_steps hok
    have HD := Lib.hid fun i (hi : i < n) => (rsOk_dig hok i hi).1
    have HC := Lib.hid fun k (hk : k ≤ n) => colV_small F 1 k (fun i hi => HD.out i (by omega)) (by omega)
    have hsz : (dvdS F n d).size ≤ 9 := by rw [(rs_yes hok).2.2]; exact plS_size _
    have hsm : (dvdS F n d).size ≤ maxLen := by unfold maxLen; omega
    have CN := Lib.hid fun W => iNum (dvdS F n d) hsm W
    have CV := Lib.hid fun W => value_any (dvdS F n d) hsm W
    rw [HA.out.2.1] at CN
    rw [HA.out.2.2.1] at CV
    rw [hok] at CD CS
    have hn9 := hst.2.1
    clear hst hok HA hsz hsm
    generalize dvdS F n d = x at *
    go_wp2_with fail
    refine (CD.out _ hR (Nat.le_refl _)).mono ?_
    rintro e w2 ⟨rfl, b2⟩
    have hR2 := hR.below b2 (Nat.le_refl _)
    have hB2 := below_own b1 b2 b1.size
    have hs2 := b2.size
    clear b1 b2 hR
    go_wp2_with fail
    refine (CS.out _ hR2 hs2).mono ?_
    rintro e w3 ⟨rfl, b3⟩
    have hR3 := hR2.below b3 hs2
    have hB3 := below_own hB2 b3 hB2.size
    clear hR2 hB2 b3
    obtain ⟨A', cap', rfl, hnc, hcm', hcell⟩ := hR3
    have Hc := Lib.hid hcell
    unfold maxLen at hcm'
    clear hcell CD CS
    go_wp2_with fail
    go_loopg [9, 10] n (fun g s9 s10 wr => ∃ k : Nat, ∃ y : Int, g + k = n ∧ s10 = .int .i64 k ∧ s9 = .int .i64 y ∧ Hid (y = colV F 1 k) ∧ wr = w3)
    case atStart => exact ⟨0, 0, rfl, rfl, rfl, Lib.hid rfl, rfl⟩
    case round =>
      obtain ⟨k, y, hk, rfl, rfl, HY, rfl⟩ := hrel
      by_cases hlt : k < n
      · obtain ⟨b, o, rfl, hb, hc⟩ := Hc.out (by omega)
        have e1 := hc k hlt 1 (by omega)
        simp only [IV] at e1
        have hy := HC.out k (by omega)
        rw [← HY.out] at hy
        have hx := HD.out k hlt
        have HN := Lib.hid (show colV F 1 (k + 1) = 10 * y + F k 1 by rw [HY.out]; rfl)
        clear hc
        generalize F k 1 = z at *
        go_wp2_with fail
        go_roundg (gk - 1)
        case measure => omega
        case rel => exact ⟨k + 1, 10 * y + z, by omega, by go_num, rfl, Lib.hid HN.out.symm, rfl⟩
      · obtain rfl : k = n := by omega
        rw [← HY.out] at CV
        go_wp2_with fail
        refine (CN.out _).mono ?_
        rintro e w4 ⟨rfl, rfl⟩
        go_wp2_with fail
        refine (CV.out _).mono ?_
        rintro e w5 ⟨rfl, b5⟩
        have hB5 := below_own hB3 b5 hB3.size
        go_wp2_with fail
        go_ret
        exact ⟨rfl, hB5⟩
end Go.Proofs.YtcpkjlgebghkgaaDoor
