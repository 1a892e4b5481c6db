/- The walks of RowsOf, TotalOf and ProductOf, of the program and of the reference; the exact laws. -/
import Derived.Test.YtfmfjbphflkhiaaGreatDoorMv
import Derived.Test.YtfmfjbphflkhiaaGreatDoorAddW
import Derived.Test.YtfmfjbphflkhiaaGreatDoorStrS
namespace Go.Proofs.YtfmfjbphflkhiaaGreatDoor
set_option linter.unusedVariables false
set_option linter.unusedSimpArgs false
open Go.RowKit

theorem clipTexts (v : Value) (n : Nat) (base : Nat) (xs : List Value) (w : World) (h : Own w base 9 1 v n xs) :
    Calls Tryz.prog 22 #[v] w fun e w' => ∃ v', e = .returned v' ∧ Own w' base 9 1 v' n xs ∧ w = w' := by
  obtain ⟨h1, h2⟩ := h
  rcases h2 with ⟨rfl, rfl⟩ | ⟨g, cap, cur, rfl, hb, hg, hnc, hcm, hcs, ht⟩
  · go_enter Tryz.func22, Tryz.ntmps22
    go_wp2_with fail
    go_ret
    exact ⟨_, rfl, ⟨h1, .inl ⟨rfl, rfl⟩⟩, rfl⟩
  · have hcm' := hcm
    unfold maxLen at hcm'
    go_enter Tryz.func22, Tryz.ntmps22
    go_wp2_with fail
    go_ret
    exact ⟨_, rfl, ⟨h1, .inr ⟨g, n, cur, rfl, hb, hg, Nat.le_refl _, by omega, hcs, ht⟩⟩, rfl⟩

def rsN (s t : List UInt8) : Nat := if rwsB s t = true then t.length else 0
theorem rsN_len (s t : List UInt8) : rsN s t ≤ 9 := by
  unfold rsN
  split
  · rename_i h
    simp only [rwsB, Bool.and_eq_true] at h
    exact (numB_len h.2.1).2
  · omega
theorem rws_no1 {s t : List UInt8} (h : numB s = false) : rwsB s t = false := by unfold rwsB; rw [h]; rfl
theorem rws_no2 {s t : List UInt8} (h : numB t = false) : rwsB s t = false := by unfold rwsB; rw [h, Bool.false_and, Bool.and_false]
theorem rws_bad {s t : List UInt8} {k : Nat} (hk : k < t.length) (h : rtB s t k = false) : rwsB s t = false := by
  have : (List.range t.length).all (rtB s t) = false := by
    rw [List.all_eq_false]
    exact ⟨k, List.mem_range.2 hk, by rw [h]; decide⟩
  unfold rwsB
  rw [this, Bool.and_false, Bool.and_false]
theorem rws_good {s t : List UInt8} (h1 : numB s = true) (h2 : numB t = true) (h : ∀ j, j < t.length → rtB s t j = true) : rwsB s t = true := by
  have : (List.range t.length).all (rtB s t) = true := by
    rw [List.all_eq_true]
    exact fun j hj => h j (List.mem_range.1 hj)
  unfold rwsB
  rw [h1, h2, this]; rfl
/-- A row of a numeral by a digit is right. -/
theorem ro_rw {s : ByteArray} {q : Int} (hn : numB s.data.toList = true) (hq : 0 ≤ q ∧ q ≤ 9) :
    rwN s q = s.size ∧ rwS (mulF s.data.toList q) s.size = roS s.data.toList q ∧ rwB (mulF s.data.toList q) s.size = roB s.data.toList q ∧ (∀ i, i < s.size → ∀ j, j < 5 → -1000 ≤ mulF s.data.toList q i j ∧ mulF s.data.toList q i j ≤ 1000) := by
  have hl := numB_len hn
  rw [str_len] at hl
  have hd := fun k => dg_range (numB_all hn) k
  have hw : wrR (mulF s.data.toList q) s.size = -1 := wrR_right hl.1 hl.2 fun j _ => mul_right hd hq j
  refine ⟨if_pos ⟨hn, inD_iff.2 hq⟩, ?_, ?_, fun i hi j _ => ?_⟩
  · unfold rwS roS; rw [if_pos hw, str_len]
  · unfold rwB roB; rw [if_pos hw, str_len]
  · have h1 := hd i
    have h2 := mulC_range hd hq i
    have h3 := mulC_range hd hq (i + 1)
    unfold mulF
    repeat' split
    all_goals omega
theorem roS_size (s : List UInt8) (q : Int) : (roS s q).size ≤ 9 := coS_size _ _

set_option maxRecDepth 20000 in
set_option maxHeartbeats 4000000 in
theorem iRowsOf (s t : ByteArray) (hs : s.size ≤ maxLen) (ht : t.size ≤ maxLen) (w : World) :
    Calls Tryz.prog 6 #[.string s, .string t] w fun e w' => ∃ v, e = .returned (.tuple #[v, .bool (rwsB s.data.toList t.data.toList)]) ∧ Own w' w.heap.size 9 1 v (rsN s.data.toList t.data.toList) (rowV (TV (rtS s.data.toList t.data.toList)) (rsN s.data.toList t.data.toList)) ∧ Below w.heap.size w w' := by
  have HNs := Lib.hid fun W => iNum s hs W
  have HNt := Lib.hid fun W => iNum t ht W
  cases hns : numB s.data.toList with
  | false =>
    have hb := rws_no1 (t := t.data.toList) hns
    have HRb := Lib.hid hb
    have HRn : Hid (rsN s.data.toList t.data.toList = 0) := Lib.hid (if_neg (by rw [hb]; decide))
    rw [hns] at HNs
    clear hns hb
    go_enter Tryz.func6, Tryz.ntmps6
    go_wp2_with fail
    refine (HNs.out _).mono ?_
    rintro e w' ⟨rfl, rfl⟩
    go_wp2_with fail
    go_ret2
    exact ⟨_, by rw [HRb.out]; rfl, by rw [HRn.out, rowV_zero]; exact Own.nil _ _ _ _, Below.refl _ _⟩
  | true =>
    rw [hns] at HNs
    cases hnt : numB t.data.toList with
    | false =>
      have hb := rws_no2 (s := s.data.toList) hnt
      have HRb := Lib.hid hb
      have HRn : Hid (rsN s.data.toList t.data.toList = 0) := Lib.hid (if_neg (by rw [hb]; decide))
      rw [hnt] at HNt
      clear hnt hb
      go_enter Tryz.func6, Tryz.ntmps6
      go_wp2_with fail
      refine (HNs.out _).mono ?_
      rintro e w' ⟨rfl, rfl⟩
      go_wp2_with fail
      refine (HNt.out _).mono ?_
      rintro e w' ⟨rfl, rfl⟩
      go_wp2_with fail
      go_ret2
      exact ⟨_, by rw [HRb.out]; rfl, by rw [HRn.out, rowV_zero]; exact Own.nil _ _ _ _, Below.refl _ _⟩
    | true =>
    rw [hnt] at HNt
    have hlt9 := (numB_len hnt).2
    have hlt1 := (numB_len hnt).1
    rw [str_len] at hlt9 hlt1
    have HD := Lib.hid fun k W => iDigit t ht hnt k W
    have HRr := Lib.hid fun k => dg_range (numB_all hnt) k
    have HRo := Lib.hid fun (q : Int) W => iRowOf s q hs W
    have HQ := Lib.hid fun (q : Int) (hq : 0 ≤ q ∧ q ≤ 9) => ro_rw hns hq
    have HBad := Lib.hid fun k (hk : k < t.size) (h : rtB s.data.toList t.data.toList k = false) => rws_bad (s := s.data.toList) (t := t.data.toList) (by rw [str_len]; exact hk) h
    have HGood := Lib.hid fun h => rws_good (s := s.data.toList) (t := t.data.toList) hns hnt h
    rw [str_len] at HGood
    have HNo : Hid (rwsB s.data.toList t.data.toList = false → rsN s.data.toList t.data.toList = 0) := Lib.hid fun h => if_neg (by rw [h]; decide)
    have HYe : Hid (rwsB s.data.toList t.data.toList = true → rsN s.data.toList t.data.toList = t.size) := Lib.hid fun h => by unfold rsN; rw [if_pos h, str_len]
    obtain ⟨i0, hi, hz0, hz1, hz2⟩ := info_parts infoStr
    unfold maxLen at hs ht
    clear hns hnt
    go_enter Tryz.func6, Tryz.ntmps6
    go_wp2_with fail
    refine (HNs.out _).mono ?_
    rintro e w' ⟨rfl, rfl⟩
    go_wp2_with fail
    refine (HNt.out _).mono ?_
    rintro e w' ⟨rfl, rfl⟩
    go_wp2_with fail
    go_loopg [6, 7, 8, 9, 10, 11, 22] t.size (fun g s6 s7 s8 s9 s10 s11 s22 wr => ∃ k : Nat, g + k = t.size ∧ s22 = .int .i64 k ∧ Hid (∀ j, j < k → rtB s.data.toList t.data.toList j = true) ∧ wr.ownsRow w.heap.size 9 1 s6 k (rowV (TV (rtS s.data.toList t.data.toList)) k) ∧ Below w.heap.size w wr)
    case atStart => exact ⟨0, rfl, rfl, Lib.hid fun j hj => by omega, by rw [rowV_zero]; exact World.ownsRow_nil w _ _ _, Below.refl _ _⟩
    obtain ⟨k, hk, rfl, Hok, hown, hB⟩ := hrel
    by_cases hlt : k < t.size
    · have hq := HRr.out k
      obtain ⟨hN, hS, hBb, hF⟩ := HQ.out _ hq
      have HX : Hid (rtS s.data.toList t.data.toList k = mvS (roS s.data.toList (dg t.data.toList k)).data.toList k) := Lib.hid rfl
      have HXb : Hid (rtB s.data.toList t.data.toList k = (roB s.data.toList (dg t.data.toList k) && mvB (roS s.data.toList (dg t.data.toList k)).data.toList k)) := Lib.hid rfl
      have HDk := Lib.hid (HD.out k)
      have HRk := Lib.hid (HRo.out (dg t.data.toList k))
      have CW := Lib.hid fun W v hR => iRowWritten W W.heap.size v s.size (mulF s.data.toList (dg t.data.toList k)) hR (Nat.le_refl _) hF
      have hms := mvS_size (roS s.data.toList (dg t.data.toList k)).data.toList k
      have hrs := roS_size s.data.toList (dg t.data.toList k)
      have CM := Lib.hid fun W => iMoved (roS s.data.toList (dg t.data.toList k)) k (by unfold maxLen; omega) (by omega) W
      have HBk := Lib.hid (HBad.out k hlt)
      have HSt := Lib.hid (rowV_succ (TV (rtS s.data.toList t.data.toList)) k)
      rw [hN] at HRk
      rw [hS, hBb] at CW
      have HTV : Hid (TV (rtS s.data.toList t.data.toList) k = .string (rtS s.data.toList t.data.toList k)) := Lib.hid rfl
      have hki : (k : Int) < (t.size : Int) := by omega
      have HOwn := Lib.hid hown
      have HB := Lib.hid hB
      clear hN hS hBb hF hown hB
      generalize roS s.data.toList (dg t.data.toList k) = x at *
      generalize roB s.data.toList (dg t.data.toList k) = p at *
      generalize mulF s.data.toList (dg t.data.toList k) = F at *
      generalize dg t.data.toList k = d at *
      generalize mvS x.data.toList k = y at *
      generalize mvB x.data.toList k = q at *
      go_wp2_with fail
      refine (HDk.out _).mono ?_
      rintro e w' ⟨rfl, rfl⟩
      go_wp2_with fail
      refine (HRk.out _).mono ?_
      rintro e w3 ⟨v3, rfl, o3, b3⟩
      have R3 := Recs.of_own o3
      have hB3 := below_own HB.out b3 HB.out.size
      have hown3 := own_below HOwn.out b3
      go_wp2_with fail
      refine (CW.out _ v3 R3).mono ?_
      rintro e w4 ⟨rfl, b4⟩
      have hB4 := below_own hB3 b4 hB3.size
      have hown4 := own_below hown3 b4
      clear o3 R3 hB3 b3 b4 hown3
      go_wp2_with fail
      refine (CM.out _).mono ?_
      rintro e w5 ⟨rfl, b5⟩
      have hB5 := below_own hB4 b5 hB4.size
      have HOwn5 := Lib.hid (own_below hown4 b5)
      clear hB4 b5 hown4 HOwn HB
      cases p with
      | false =>
        have HRb := Lib.hid (HBk.out (by rw [HXb.out]; rfl))
        have HRn := Lib.hid (HNo.out HRb.out)
        go_wp2_with fail
        go_ret2
        exact ⟨_, by first | rfl | (rw [HRb.out]; rfl), by rw [HRn.out, rowV_zero]; exact Own.nil _ _ _ _, hB5⟩
      | true =>
      cases q with
      | false =>
        have HRb := Lib.hid (HBk.out (by rw [HXb.out]; rfl))
        have HRn := Lib.hid (HNo.out HRb.out)
        go_wp2_with fail
        go_ret2
        exact ⟨_, by first | rfl | (rw [HRb.out]; rfl), by rw [HRn.out, rowV_zero]; exact Own.nil _ _ _ _, hB5⟩
      | true =>
      have HOk : Hid (rtB s.data.toList t.data.toList k = true) := Lib.hid (by rw [HXb.out]; rfl)
      go_wp2_with (at_builtin; refine wpList_append_own _ rfl _ _ 25 rfl w.heap.size 9 i0 (.string ByteArray.empty) 1 16 Tryz.underlying25 hi hz0 hz1 hz2 rfl (by decide) _ _ _ rfl (HOwn5.out.alloc _) ⟨w5.heap.size, 0, none⟩ 1 1 [.string y] rfl rfl (cell_one_new _ _ _) (by simp [Value.oneCell']) (by unfold maxLen; omega) (by omega) (by have := hB5.size; simp; omega) ?_; intro v' w6 hown' hgrow _)
      have hB6 := (hB5.alloc hB5.size (.cells #[.string y] 9)).grown hgrow (by have := hB5.size; simp; omega) (fun j hj => (HOwn5.out.lt j hj).1)
      go_roundg (gk - 1)
      case measure => omega
      case rel => exact ⟨k + 1, by omega, by go_num, Lib.hid fun j hj => (by
        by_cases e : j = k
        · subst e; exact HOk.out
        · exact Hok.out j (by omega)), by rw [HSt.out, HTV.out, HX.out]; exact hown', hB6⟩
    · obtain rfl : k = t.size := by omega
      have HRb := Lib.hid (HGood.out Hok.out)
      have HRn := Lib.hid (HYe.out HRb.out)
      go_wp2_with fail
      refine (clipTexts _ _ _ _ _ (Own.of_row hown)).mono ?_
      rintro e w2 ⟨v', rfl, ho', rfl⟩
      go_wp2_with fail
      go_ret2
      exact ⟨_, by rw [HRb.out]; rfl, by rw [HRn.out]; exact ho', hB⟩

set_option maxRecDepth 20000 in
set_option maxHeartbeats 4000000 in
theorem sRowsOf (s t : ByteArray) (hs : s.size ≤ maxLen) (ht : t.size ≤ maxLen) (w : World) :
    Calls Tryz.prog 7 #[.string s, .string t] w fun e w' => ∃ v, e = .returned (.tuple #[v, .bool (rwsB s.data.toList t.data.toList)]) ∧ Own w' w.heap.size 9 1 v (rsN s.data.toList t.data.toList) (rowV (TV (rtS s.data.toList t.data.toList)) (rsN s.data.toList t.data.toList)) ∧ Below w.heap.size w w' := by
  have hbel := (Below.refl w.heap.size w).alloc (Nat.le_refl _) (.cells #[] 9)
  have hown0 := owns_new w w.heap.size 9 1 0 #[] (Nat.le_refl _) (by decide) rfl
  have HNs := Lib.hid fun W => sNum s hs W
  have HNt := Lib.hid fun W => sNum t ht W
  cases hns : numB s.data.toList with
  | false =>
    have hb := rws_no1 (t := t.data.toList) hns
    have HRb := Lib.hid hb
    have HRn : Hid (rsN s.data.toList t.data.toList = 0) := Lib.hid (if_neg (by rw [hb]; decide))
    rw [hns] at HNs
    clear hns hb
    go_enter Tryz.func7, Tryz.ntmps7
    go_wp2_with fail
    refine (HNs.out _).mono ?_
    rintro e w' ⟨rfl, rfl⟩
    go_wp2_with fail
    go_ret2
    exact ⟨_, by rw [HRb.out]; rfl, by rw [HRn.out, rowV_zero]; exact Own.of_row hown0, hbel⟩
  | true =>
    rw [hns] at HNs
    cases hnt : numB t.data.toList with
    | false =>
      have hb := rws_no2 (s := s.data.toList) hnt
      have HRb := Lib.hid hb
      have HRn : Hid (rsN s.data.toList t.data.toList = 0) := Lib.hid (if_neg (by rw [hb]; decide))
      rw [hnt] at HNt
      clear hnt hb
      go_enter Tryz.func7, Tryz.ntmps7
      go_wp2_with fail
      refine (HNs.out _).mono ?_
      rintro e w' ⟨rfl, rfl⟩
      go_wp2_with fail
      refine (HNt.out _).mono ?_
      rintro e w' ⟨rfl, rfl⟩
      go_wp2_with fail
      go_ret2
      exact ⟨_, by rw [HRb.out]; rfl, by rw [HRn.out, rowV_zero]; exact Own.of_row hown0, hbel⟩
    | true =>
    rw [hnt] at HNt
    have hlt9 := (numB_len hnt).2
    have hlt1 := (numB_len hnt).1
    rw [str_len] at hlt9 hlt1
    have HD := Lib.hid fun k W => sDigit t ht hnt k W
    have HRr := Lib.hid fun k => dg_range (numB_all hnt) k
    have HRo := Lib.hid fun (q : Int) W => sRowOf s q hs W
    have HQ := Lib.hid fun (q : Int) (hq : 0 ≤ q ∧ q ≤ 9) => ro_rw hns hq
    have HBad := Lib.hid fun k (hk : k < t.size) (h : rtB s.data.toList t.data.toList k = false) => rws_bad (s := s.data.toList) (t := t.data.toList) (by rw [str_len]; exact hk) h
    have HGood := Lib.hid fun h => rws_good (s := s.data.toList) (t := t.data.toList) hns hnt h
    rw [str_len] at HGood
    have HNo : Hid (rwsB s.data.toList t.data.toList = false → rsN s.data.toList t.data.toList = 0) := Lib.hid fun h => if_neg (by rw [h]; decide)
    have HYe : Hid (rwsB s.data.toList t.data.toList = true → rsN s.data.toList t.data.toList = t.size) := Lib.hid fun h => by unfold rsN; rw [if_pos h, str_len]
    obtain ⟨i0, hi, hz0, hz1, hz2⟩ := info_parts infoStr
    unfold maxLen at hs ht
    clear hns hnt
    go_enter Tryz.func7, Tryz.ntmps7
    go_wp2_with fail
    refine (HNs.out _).mono ?_
    rintro e w' ⟨rfl, rfl⟩
    go_wp2_with fail
    refine (HNt.out _).mono ?_
    rintro e w' ⟨rfl, rfl⟩
    go_wp2_with fail
    go_loopg [6, 7, 8, 9, 10, 11] t.size (fun g s6 s7 s8 s9 s10 s11 wr => ∃ k : Nat, g + k = t.size ∧ s7 = .int .i64 k ∧ Hid (∀ j, j < k → rtB s.data.toList t.data.toList j = true) ∧ wr.ownsRow w.heap.size 9 1 s6 k (rowV (TV (rtS s.data.toList t.data.toList)) k) ∧ Below w.heap.size w wr)
    case atStart => exact ⟨0, rfl, rfl, Lib.hid fun j hj => by omega, by rw [rowV_zero]; exact hown0, hbel⟩
    obtain ⟨k, hk, rfl, Hok, hown, hB⟩ := hrel
    by_cases hlt : k < t.size
    · have hq := HRr.out k
      obtain ⟨hN, hS, hBb, hF⟩ := HQ.out _ hq
      have HX : Hid (rtS s.data.toList t.data.toList k = mvS (roS s.data.toList (dg t.data.toList k)).data.toList k) := Lib.hid rfl
      have HXb : Hid (rtB s.data.toList t.data.toList k = (roB s.data.toList (dg t.data.toList k) && mvB (roS s.data.toList (dg t.data.toList k)).data.toList k)) := Lib.hid rfl
      have HDk := Lib.hid (HD.out k)
      have HRk := Lib.hid (HRo.out (dg t.data.toList k))
      have CW := Lib.hid fun W v hR => sRowWritten W W.heap.size v s.size (mulF s.data.toList (dg t.data.toList k)) hR (Nat.le_refl _) hF
      have hms := mvS_size (roS s.data.toList (dg t.data.toList k)).data.toList k
      have hrs := roS_size s.data.toList (dg t.data.toList k)
      have CM := Lib.hid fun W => sMoved (roS s.data.toList (dg t.data.toList k)) k (by unfold maxLen; omega) (by omega) W
      have HBk := Lib.hid (HBad.out k hlt)
      have HSt := Lib.hid (rowV_succ (TV (rtS s.data.toList t.data.toList)) k)
      rw [hN] at HRk
      rw [hS, hBb] at CW
      have HTV : Hid (TV (rtS s.data.toList t.data.toList) k = .string (rtS s.data.toList t.data.toList k)) := Lib.hid rfl
      have hki : (k : Int) < (t.size : Int) := by omega
      have HOwn := Lib.hid hown
      have HB := Lib.hid hB
      clear hN hS hBb hF hown hB
      generalize roS s.data.toList (dg t.data.toList k) = x at *
      generalize roB s.data.toList (dg t.data.toList k) = p at *
      generalize mulF s.data.toList (dg t.data.toList k) = F at *
      generalize dg t.data.toList k = d at *
      generalize mvS x.data.toList k = y at *
      generalize mvB x.data.toList k = q at *
      go_wp2_with fail
      refine (HDk.out _).mono ?_
      rintro e w' ⟨rfl, rfl⟩
      go_wp2_with fail
      refine (HRk.out _).mono ?_
      rintro e w3 ⟨v3, rfl, o3, b3⟩
      have R3 := Recs.of_own o3
      have hB3 := below_own HB.out b3 HB.out.size
      have hown3 := own_below HOwn.out b3
      go_wp2_with fail
      refine (CW.out _ v3 R3).mono ?_
      rintro e w4 ⟨rfl, b4⟩
      have hB4 := below_own hB3 b4 hB3.size
      have hown4 := own_below hown3 b4
      clear o3 R3 hB3 b3 b4 hown3
      go_wp2_with fail
      refine (CM.out _).mono ?_
      rintro e w5 ⟨rfl, b5⟩
      have hB5 := below_own hB4 b5 hB4.size
      have HOwn5 := Lib.hid (own_below hown4 b5)
      clear hB4 b5 hown4 HOwn HB
      cases p with
      | false =>
        have HRb := Lib.hid (HBk.out (by rw [HXb.out]; rfl))
        have HRn := Lib.hid (HNo.out HRb.out)
        go_wp2_with fail
        go_ret2
        exact ⟨_, by first | rfl | (rw [HRb.out]; rfl), by rw [HRn.out, rowV_zero]; exact Own.of_row (owns_new w5 w.heap.size 9 1 0 #[] hB5.size (by decide) rfl), hB5.alloc hB5.size _⟩
      | true =>
      cases q with
      | false =>
        have HRb := Lib.hid (HBk.out (by rw [HXb.out]; rfl))
        have HRn := Lib.hid (HNo.out HRb.out)
        go_wp2_with fail
        go_ret2
        exact ⟨_, by first | rfl | (rw [HRb.out]; rfl), by rw [HRn.out, rowV_zero]; exact Own.of_row (owns_new w5 w.heap.size 9 1 0 #[] hB5.size (by decide) rfl), hB5.alloc hB5.size _⟩
      | true =>
      have HOk : Hid (rtB s.data.toList t.data.toList k = true) := Lib.hid (by rw [HXb.out]; rfl)
      go_wp2_with (at_builtin; refine wpList_append_own _ rfl _ _ 25 rfl w.heap.size 9 i0 (.string ByteArray.empty) 1 16 Tryz.underlying25 hi hz0 hz1 hz2 rfl (by decide) _ _ _ rfl (HOwn5.out.alloc _) ⟨w5.heap.size, 0, none⟩ 1 1 [.string y] rfl rfl (cell_one_new _ _ _) (by simp [Value.oneCell']) (by unfold maxLen; omega) (by omega) (by have := hB5.size; simp; omega) ?_; intro v' w6 hown' hgrow _)
      have hB6 := (hB5.alloc hB5.size (.cells #[.string y] 9)).grown hgrow (by have := hB5.size; simp; omega) (fun j hj => (HOwn5.out.lt j hj).1)
      go_roundg (gk - 1)
      case measure => omega
      case rel => exact ⟨k + 1, by omega, by go_num, Lib.hid fun j hj => (by
        by_cases e : j = k
        · subst e; exact HOk.out
        · exact Hok.out j (by omega)), by rw [HSt.out, HTV.out, HX.out]; exact hown', hB6⟩
    · obtain rfl : k = t.size := by omega
      have HRb := Lib.hid (HGood.out Hok.out)
      have HRn := Lib.hid (HYe.out HRb.out)
      go_wp2_with fail
      go_ret2
      exact ⟨_, by rw [HRb.out]; rfl, by rw [HRn.out]; exact Own.of_row hown, hB⟩


end Go.Proofs.YtfmfjbphflkhiaaGreatDoor
