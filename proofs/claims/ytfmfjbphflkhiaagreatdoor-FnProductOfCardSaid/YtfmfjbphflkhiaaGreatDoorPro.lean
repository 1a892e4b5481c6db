/- The walks of TotalOf and ProductOf, of the program and of the reference; the exact law. -/
import Derived.Test.YtfmfjbphflkhiaaGreatDoorRws
import Derived.Test.YtfmfjbphflkhiaaGreatDoorPrV
namespace Go.Proofs.YtfmfjbphflkhiaaGreatDoor
set_option linter.unusedVariables false
set_option linter.unusedSimpArgs false
open Go.RowKit

set_option maxRecDepth 20000 in
set_option maxHeartbeats 2000000 in
theorem iTotalOf (w : World) (B : Nat) (v : Value) (n : Nat) (X : Nat → ByteArray) (hR : Sl w B n v n (TV X)) (hBw : B ≤ w.heap.size) (hn : n ≤ 9) (hX : ∀ i, i < n → numB (X i).data.toList = true) :
    Calls Tryz.prog 29 #[v] w fun e w' => e = .returned (.tuple #[.string (ttR X n), .bool (ttB X n)]) ∧ Below w.heap.size w w' := by
  obtain ⟨A, cap, rfl, hnc, hcm, hcell⟩ := hR
  unfold maxLen at hcm
  have Hc := Lib.hid hcell
  have HT := Lib.hid (tt_num hX)
  have HX := Lib.hid hX
  have HZ := Lib.hid fun (k : Nat) (h : ttB X k = false) (m : Nat) (hk : k ≤ m) => tt_stop h m hk
  have hn9 : ¬ (9 : Int) < (n : Int) := by omega
  clear hcell hX
  go_enter Tryz.func29, Tryz.ntmps29
  go_wp2_with fail
  go_loopg [4, 6, 7, 8, 14] n (fun g s4 s6 s7 s8 s14 wr => ∃ k : Nat, g + k = n ∧ s14 = .int .i64 k ∧ s4 = .string (ttS X k) ∧ Hid (ttB X k = true) ∧ Below w.heap.size w wr)
  case atStart => exact ⟨0, rfl, rfl, rfl, Lib.hid rfl, Below.refl _ _⟩
  case round =>
    obtain ⟨k, hk, rfl, rfl, Hok, hB⟩ := hrel
    by_cases hlt : k < n
    · obtain ⟨b, o, rfl, hb, hc⟩ := Hc.out (by omega)
      have hbw : b < w.heap.size := by omega
      have e0 := (hB.cell (p := ⟨b, o + k, none⟩) hbw).trans (hc k hlt)
      rw [show TV X k = .string (X k) from rfl] at e0
      have HS := Lib.hid fun W => iSumOf (ttS X k) (X k) (HT.out k (by omega) Hok.out) (HX.out k hlt) W
      have HE : Hid (ttS X (k + 1) = adS (ttS X k).data.toList (X k).data.toList) := Lib.hid rfl
      have HEb : Hid (ttB X (k + 1) = adB (ttS X k).data.toList (X k).data.toList) := Lib.hid (by
        show (ttB X k && _) = _
        rw [Hok.out]; rfl)
      have hki : (k : Int) < (n : Int) := by omega
      have HB := Lib.hid hB
      clear hc hB
      generalize adS (ttS X k).data.toList (X k).data.toList = y at *
      generalize adB (ttS X k).data.toList (X k).data.toList = p at *
      generalize ttS X k = z at *
      generalize X k = x at *
      go_wp2_with fail
      refine (HS.out _).mono ?_
      rintro e w2 ⟨rfl, b2⟩
      have hB2 := below_own HB.out b2 HB.out.size
      cases p with
      | true =>
        go_wp2_with fail
        go_roundg (gk - 1)
        case measure => omega
        case rel => exact ⟨k + 1, by omega, by go_num, by rw [HE.out], Lib.hid HEb.out, hB2⟩
      | false =>
        have HF := Lib.hid (HZ.out (k + 1) HEb.out n (by omega))
        have HR : Hid (ttR X n = ⟨#[]⟩) := Lib.hid (if_neg (by rw [HF.out]; decide))
        go_wp2_with fail
        go_ret2
        exact ⟨by rw [HR.out, HF.out]; rfl, hB2⟩
    · obtain rfl : k = n := by omega
      have HR : Hid (ttR X k = ttS X k) := Lib.hid (if_pos Hok.out)
      go_wp2_with fail
      go_ret2
      exact ⟨by rw [HR.out, Hok.out]; rfl, hB⟩

set_option maxRecDepth 20000 in
theorem iProductOf (s t : ByteArray) (hs : s.size ≤ maxLen) (ht : t.size ≤ maxLen) (w : World) :
    Calls Tryz.prog 12 #[.string s, .string t] w fun e w' => e = .returned (.tuple #[.string (prS s.data.toList t.data.toList), .bool (prB s.data.toList t.data.toList)]) ∧ Below w.heap.size w w' := by
  have HR := Lib.hid (iRowsOf s t hs ht w)
  cases hb : rwsB s.data.toList t.data.toList with
  | false =>
    have HB : Hid (prB s.data.toList t.data.toList = false) := Lib.hid (by unfold prB; rw [hb]; rfl)
    have HS : Hid (prS s.data.toList t.data.toList = ⟨#[]⟩) := Lib.hid (if_neg (by rw [HB.out]; decide))
    rw [hb] at HR
    clear hb
    go_enter Tryz.func12, Tryz.ntmps12
    go_wp2_with fail
    refine HR.out.mono ?_
    rintro e w1 ⟨v, rfl, o1, b1⟩
    go_wp2_with fail
    go_ret2
    exact ⟨by rw [HS.out, HB.out]; rfl, b1⟩
  | true =>
    obtain ⟨h1, h2, h3⟩ := rws_at hb
    have hn : rsN s.data.toList t.data.toList = t.data.toList.length := if_pos hb
    have hl := (numB_len h2).2
    have HT := Lib.hid fun W v hR => iTotalOf W W.heap.size v t.data.toList.length (rtS s.data.toList t.data.toList) hR (Nat.le_refl _) hl (fun i hi => rt_num (h3 i hi))
    have HB : Hid (prB s.data.toList t.data.toList = ttB (rtS s.data.toList t.data.toList) t.data.toList.length) := Lib.hid (by unfold prB; rw [hb]; rfl)
    have HS : Hid (prS s.data.toList t.data.toList = ttR (rtS s.data.toList t.data.toList) t.data.toList.length) := Lib.hid (by unfold prS ttR; rw [HB.out])
    rw [hb, hn] at HR
    clear hb h1 h2 h3 hn hl
    generalize rtS s.data.toList t.data.toList = X at *
    generalize t.data.toList.length = n at *
    generalize ttB X n = p at *
    generalize ttR X n = r at *
    go_enter Tryz.func12, Tryz.ntmps12
    go_wp2_with fail
    refine HR.out.mono ?_
    rintro e w1 ⟨v, rfl, o1, b1⟩
    have S1 := Sl.of_ownV o1
    clear o1
    go_wp2_with fail
    refine (HT.out _ v S1).mono ?_
    rintro e w2 ⟨rfl, b2⟩
    have hB2 := below_own b1 b2 b1.size
    go_wp2_with fail
    go_ret2
    exact ⟨by rw [HS.out, HB.out]; rfl, hB2⟩

set_option maxRecDepth 20000 in
set_option maxHeartbeats 2000000 in
theorem sTotalOf (w : World) (B : Nat) (v : Value) (n : Nat) (X : Nat → ByteArray) (hR : Sl w B n v n (TV X)) (hBw : B ≤ w.heap.size) (hn : n ≤ 9) (hX : ∀ i, i < n → numB (X i).data.toList = true) :
    Calls Tryz.prog 30 #[v] w fun e w' => e = .returned (.tuple #[.string (ttR X n), .bool (ttB X n)]) ∧ Below w.heap.size w w' := by
  obtain ⟨A, cap, rfl, hnc, hcm, hcell⟩ := hR
  unfold maxLen at hcm
  have Hc := Lib.hid hcell
  have HT := Lib.hid (tt_num hX)
  have HX := Lib.hid hX
  have HZ := Lib.hid fun (k : Nat) (h : ttB X k = false) (m : Nat) (hk : k ≤ m) => tt_stop h m hk
  have hn9 : ¬ (9 : Int) < (n : Int) := by omega
  clear hcell hX
  go_enter Tryz.func30, Tryz.ntmps30
  go_wp2_with fail
  go_loopg [4, 5, 6, 7] n (fun g s4 s5 s6 s7 wr => ∃ k : Nat, g + k = n ∧ s5 = .int .i64 k ∧ s4 = .string (ttS X k) ∧ Hid (ttB X k = true) ∧ Below w.heap.size w wr)
  case atStart => exact ⟨0, rfl, rfl, rfl, Lib.hid rfl, Below.refl _ _⟩
  case round =>
    obtain ⟨k, hk, rfl, rfl, Hok, hB⟩ := hrel
    by_cases hlt : k < n
    · obtain ⟨b, o, rfl, hb, hc⟩ := Hc.out (by omega)
      have hbw : b < w.heap.size := by omega
      have e0 := (hB.cell (p := ⟨b, o + k, none⟩) hbw).trans (hc k hlt)
      rw [show TV X k = .string (X k) from rfl] at e0
      have HS := Lib.hid fun W => sSumOf (ttS X k) (X k) (HT.out k (by omega) Hok.out) (HX.out k hlt) W
      have HE : Hid (ttS X (k + 1) = adS (ttS X k).data.toList (X k).data.toList) := Lib.hid rfl
      have HEb : Hid (ttB X (k + 1) = adB (ttS X k).data.toList (X k).data.toList) := Lib.hid (by
        show (ttB X k && _) = _
        rw [Hok.out]; rfl)
      have hki : (k : Int) < (n : Int) := by omega
      have HB := Lib.hid hB
      clear hc hB
      generalize adS (ttS X k).data.toList (X k).data.toList = y at *
      generalize adB (ttS X k).data.toList (X k).data.toList = p at *
      generalize ttS X k = z at *
      generalize X k = x at *
      go_wp2_with fail
      refine (HS.out _).mono ?_
      rintro e w2 ⟨rfl, b2⟩
      have hB2 := below_own HB.out b2 HB.out.size
      cases p with
      | true =>
        go_wp2_with fail
        go_roundg (gk - 1)
        case measure => omega
        case rel => exact ⟨k + 1, by omega, by go_num, by rw [HE.out], Lib.hid HEb.out, hB2⟩
      | false =>
        have HF := Lib.hid (HZ.out (k + 1) HEb.out n (by omega))
        have HR : Hid (ttR X n = ⟨#[]⟩) := Lib.hid (if_neg (by rw [HF.out]; decide))
        go_wp2_with fail
        go_ret2
        exact ⟨by rw [HR.out, HF.out]; rfl, hB2⟩
    · obtain rfl : k = n := by omega
      have HR : Hid (ttR X k = ttS X k) := Lib.hid (if_pos Hok.out)
      go_wp2_with fail
      go_ret2
      exact ⟨by rw [HR.out, Hok.out]; rfl, hB⟩

set_option maxRecDepth 20000 in
theorem sProductOf (s t : ByteArray) (hs : s.size ≤ maxLen) (ht : t.size ≤ maxLen) (w : World) :
    Calls Tryz.prog 13 #[.string s, .string t] w fun e w' => e = .returned (.tuple #[.string (prS s.data.toList t.data.toList), .bool (prB s.data.toList t.data.toList)]) ∧ Below w.heap.size w w' := by
  have HR := Lib.hid (sRowsOf s t hs ht w)
  cases hb : rwsB s.data.toList t.data.toList with
  | false =>
    have HB : Hid (prB s.data.toList t.data.toList = false) := Lib.hid (by unfold prB; rw [hb]; rfl)
    have HS : Hid (prS s.data.toList t.data.toList = ⟨#[]⟩) := Lib.hid (if_neg (by rw [HB.out]; decide))
    rw [hb] at HR
    clear hb
    go_enter Tryz.func13, Tryz.ntmps13
    go_wp2_with fail
    refine HR.out.mono ?_
    rintro e w1 ⟨v, rfl, o1, b1⟩
    go_wp2_with fail
    go_ret2
    exact ⟨by rw [HS.out, HB.out]; rfl, b1⟩
  | true =>
    obtain ⟨h1, h2, h3⟩ := rws_at hb
    have hn : rsN s.data.toList t.data.toList = t.data.toList.length := if_pos hb
    have hl := (numB_len h2).2
    have HT := Lib.hid fun W v hR => sTotalOf W W.heap.size v t.data.toList.length (rtS s.data.toList t.data.toList) hR (Nat.le_refl _) hl (fun i hi => rt_num (h3 i hi))
    have HB : Hid (prB s.data.toList t.data.toList = ttB (rtS s.data.toList t.data.toList) t.data.toList.length) := Lib.hid (by unfold prB; rw [hb]; rfl)
    have HS : Hid (prS s.data.toList t.data.toList = ttR (rtS s.data.toList t.data.toList) t.data.toList.length) := Lib.hid (by unfold prS ttR; rw [HB.out])
    rw [hb, hn] at HR
    clear hb h1 h2 h3 hn hl
    generalize rtS s.data.toList t.data.toList = X at *
    generalize t.data.toList.length = n at *
    generalize ttB X n = p at *
    generalize ttR X n = r at *
    go_enter Tryz.func13, Tryz.ntmps13
    go_wp2_with fail
    refine HR.out.mono ?_
    rintro e w1 ⟨v, rfl, o1, b1⟩
    have S1 := Sl.of_ownV o1
    clear o1
    go_wp2_with fail
    refine (HT.out _ v S1).mono ?_
    rintro e w2 ⟨rfl, b2⟩
    have hB2 := below_own b1 b2 b1.size
    go_wp2_with fail
    go_ret2
    exact ⟨by rw [HS.out, HB.out]; rfl, hB2⟩

end Go.Proofs.YtfmfjbphflkhiaaGreatDoor
