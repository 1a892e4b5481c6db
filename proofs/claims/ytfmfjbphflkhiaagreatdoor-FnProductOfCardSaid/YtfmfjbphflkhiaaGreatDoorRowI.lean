/- The walks of the program's RowOf and WrongRow. -/
import Derived.Test.YtfmfjbphflkhiaaGreatDoorRow
import Derived.Deep.DeepCutAuto
namespace Go.Proofs.YtfmfjbphflkhiaaGreatDoor
set_option linter.unusedVariables false
set_option linter.unusedSimpArgs false
open Go.RowKit

theorem clipRow (v : Value) (n : Nat) (base : Nat) (xs : List Value) (w : World) (h : Own w base 58 5 v n xs) :
    Calls Tryz.prog 39 #[v] w fun e w' => ∃ v', e = .returned v' ∧ Own w base 58 5 v' n xs ∧ w = w' := by
  obtain ⟨h1, h2⟩ := h
  rcases h2 with ⟨rfl, rfl⟩ | ⟨g, cap, cur, rfl, hb, hg, hnc, hcm, hcs, ht⟩
  · go_enter Tryz.func39, Tryz.ntmps39
    go_wp2_with fail
    go_ret
    exact ⟨_, rfl, ⟨h1, .inl ⟨rfl, rfl⟩⟩, rfl⟩
  · have hcm' := hcm
    unfold maxLen at hcm'
    go_enter Tryz.func39, Tryz.ntmps39
    go_wp2_with fail
    go_ret
    exact ⟨_, rfl, ⟨h1, .inr ⟨g, n, cur, rfl, hb, hg, Nat.le_refl _, by omega, hcs, ht⟩⟩, rfl⟩

theorem isDt (n : Int) (w : World) (h0 : 0 ≤ n) (h1 : n ≤ 9) : Calls Tryz.prog 38 #[.int .i64 n] w fun e w' => e = .returned (.bool true) ∧ w = w' := by
  go_enter Tryz.func38, Tryz.ntmps38
  go_wp2_with (first | (go_at_call 35; ((with_reducible refine (in_t _ _ _ _ ?_ ?_).mono ?_)); (omega); (omega); rintro e w' ⟨rfl, rfl⟩))
  go_ret
  exact ⟨rfl, rfl⟩
theorem isDf (n : Int) (w : World) (h : n < 0 ∨ 9 < n) : Calls Tryz.prog 38 #[.int .i64 n] w fun e w' => e = .returned (.bool false) ∧ w = w' := by
  go_enter Tryz.func38, Tryz.ntmps38
  go_wp2_with (first | (go_at_call 35; ((with_reducible refine (in_f _ _ _ _ ?_).mono ?_)); (omega); rintro e w' ⟨rfl, rfl⟩))
  go_ret
  exact ⟨rfl, rfl⟩

set_option maxRecDepth 20000 in
set_option maxHeartbeats 4000000 in
theorem iRowOf (s : ByteArray) (q : Int) (hs : s.size ≤ maxLen) (w : World) :
    Calls Tryz.prog 19 #[.string s, .int .i64 q] w fun e w' => ∃ v, e = .returned v ∧ Own w' w.heap.size 58 5 v (rwN s q) (recCells 5 (IV (mulF s.data.toList q)) (rwN s q)) ∧ Below w.heap.size w w' := by
  by_cases hok : numB s.data.toList = true ∧ inD q = true
  · have hN : rwN s q = s.size := if_pos hok
    rw [hN]
    obtain ⟨hn, hq⟩ := hok
    have hq' := inD_iff.1 hq
    have ID1 := Lib.hid fun k W => iDigit s hs hn k W
    have R1 := Lib.hid fun k => dg_range (numB_all hn) k
    have RC := Lib.hid fun k => mulC_range (s := s.data.toList) (q := q) (fun k => dg_range (numB_all hn) k) hq' k
    have RM := Lib.hid fun k => mul_le (dg_range (numB_all hn) k) hq'
    have hl := numB_len hn
    rw [str_len] at hl
    obtain ⟨l1, l2⟩ := hl
    obtain ⟨i0, hi, hz0, hz1, hz2⟩ := info_parts infoColR
    have HTF := Lib.hid fun k => recCells5_succ (mulF s.data.toList q) k
    have hNs : ∀ W, Calls Tryz.prog 17 #[.string s] W fun e w' => e = .returned (.bool true) ∧ W = w' := fun W => by
      have := iNum s hs W
      rwa [hn] at this
    have HNc := Lib.hid hNs
    obtain ⟨q0, q9⟩ := hq'
    clear hs hn hq hN hNs
    go_enter Tryz.func19, Tryz.ntmps19
    go_wp2_with (first | (go_at_call 17; refine (HNc.out _).mono ?_; rintro e w' ⟨rfl, rfl⟩) | (go_at_call 38; ((with_reducible refine (isDt _ _ ?_ ?_).mono ?_)); (omega); (omega); rintro e w' ⟨rfl, rfl⟩))
    go_loopg [5, 6, 7, 8, 9, 20] s.size (fun g s5 s6 s7 s8 s9 s20 wr => ∃ k : Nat, ∃ c : Int, g + k = s.size ∧ s20 = .int .i64 k ∧ s6 = .int .i64 c ∧ Hid (c = mulC s.data.toList q k) ∧ wr.ownsRow w.heap.size 58 5 s5 k (recCells 5 (IV (mulF s.data.toList q)) k) ∧ Below w.heap.size w wr)
    case atStart => exact ⟨0, 0, rfl, rfl, rfl, Lib.hid rfl, by rw [recCells_zero]; exact World.ownsRow_nil w _ _ _, Below.refl _ _⟩
    case round =>
      obtain ⟨k, c, hk, rfl, rfl, HC, hown, hB⟩ := hrel
      by_cases hlt : k < s.size
      · have ra := R1.out k
        have rc := RC.out k
        have rm := RM.out k
        rw [← HC.out] at rc
        have hT := HTF.out k
        have e0 : mulF s.data.toList q k 0 = dg s.data.toList k := rfl
        have e1 : mulF s.data.toList q k 1 = q := rfl
        have e2 : mulF s.data.toList q k 2 = mulC s.data.toList q k := rfl
        have e3 : mulF s.data.toList q k 3 = (dg s.data.toList k * q + mulC s.data.toList q k) % 10 := rfl
        have e4 : mulF s.data.toList q k 4 = (dg s.data.toList k * q + mulC s.data.toList q k) / 10 := rfl
        rw [e0, e1, e2, e3, e4, ← HC.out] at hT
        have HT := Lib.hid hT
        have HC2 := Lib.hid (show mulC s.data.toList q (k + 1) = (dg s.data.toList k * q + mulC s.data.toList q k) / 10 from rfl)
        rw [← HC.out] at HC2
        have hki : (k : Int) < (s.size : Int) := by omega
        clear hT e0 e1 e2 e3 e4
        have HOwn := Lib.hid hown
        have HBel := Lib.hid hB
        clear hown hB
        go_wp2_with (first | (go_at_call 20; refine (ID1.out k _).mono ?_; rintro e w' ⟨rfl, rfl⟩; generalize dg s.data.toList k = a at *; obtain ⟨a0, a9⟩ := ra; obtain ⟨c0, c9⟩ := rc; obtain ⟨m0, m9⟩ := rm; generalize hm : a * q = m at *) | (at_builtin; refine wpList_append_own _ rfl _ _ 40 rfl w.heap.size 58 i0 _ 5 40 Tryz.underlying40 hi hz0 hz1 hz2 rfl (by decide) _ _ _ rfl (HOwn.out.alloc _) ⟨wr.heap.size, 0, none⟩ 1 1 [.int .i64 a, .int .i64 q, .int .i64 c, .int .i64 ((m + c) % 10), .int .i64 ((m + c) / 10)] rfl rfl (cells_in _ _ _ _ _ rfl rfl) (by simp [Value.oneCell']) (by unfold maxLen; omega) (by omega) (by have := HBel.out.size; simp; omega) ?_; intro v' w2 hown' hgrow _))
        have hB2 := (HBel.out.alloc HBel.out.size (.cells #[.int .i64 a, .int .i64 q, .int .i64 c, .int .i64 ((m + c) % 10), .int .i64 ((m + c) / 10)] 58)).grown hgrow (by have := HBel.out.size; simp; omega) (fun j hj => (HOwn.out.lt j hj).1)
        go_roundg (gk - 1)
        case measure => omega
        case rel => exact ⟨k + 1, (m + c) / 10, by omega, by go_num, rfl, Lib.hid HC2.out.symm, by rw [HT.out]; exact hown', hB2⟩
      · obtain rfl : k = s.size := by omega
        go_wp2_with fail
        refine (clipRow _ _ _ _ _ (Own.of_row hown)).mono ?_
        rintro e w2 ⟨v', rfl, ho', rfl⟩
        go_wp2_with fail
        go_ret
        exact ⟨_, rfl, ho', hB⟩
  · have hN : rwN s q = 0 := if_neg hok
    rw [hN]
    have hNs : ∀ W, Calls Tryz.prog 17 #[.string s] W fun e w' => e = .returned (.bool (numB s.data.toList)) ∧ W = w' := fun W => iNum s hs W
    have HNc := Lib.hid hNs
    have hq : numB s.data.toList = true → q < 0 ∨ 9 < q := fun h => by
      have : ¬ inD q = true := fun h' => hok ⟨h, h'⟩
      rw [inD_iff] at this
      omega
    clear hok hN hNs hs
    cases hn : numB s.data.toList with
    | false =>
      rw [hn] at HNc
      clear hq hn
      go_enter Tryz.func19, Tryz.ntmps19
      go_wp2_with (first | (go_at_call 17; refine (HNc.out _).mono ?_; rintro e w' ⟨rfl, rfl⟩))
      go_ret
      exact ⟨_, rfl, by rw [recCells_zero]; exact Own.nil _ _ _ _, Below.refl _ _⟩
    | true =>
      rw [hn] at HNc
      have hq' := hq hn
      clear hq hn
      go_enter Tryz.func19, Tryz.ntmps19
      go_wp2_with (first | (go_at_call 17; refine (HNc.out _).mono ?_; rintro e w' ⟨rfl, rfl⟩) | (go_at_call 38; ((with_reducible refine (isDf _ _ ?_).mono ?_)); (omega); rintro e w' ⟨rfl, rfl⟩))
      go_ret
      exact ⟨_, rfl, by rw [recCells_zero]; exact Own.nil _ _ _ _, Below.refl _ _⟩

set_option maxRecDepth 20000 in
set_option maxHeartbeats 8000000 in
theorem row_cl (x0 x1 x2 x3 x4 y : Int) (bw b o n cap : Nat) (w : World) (hn : 0 < n) (hnc : n ≤ cap) (hcm : cap ≤ maxLen) (hbw : bw < w.heap.size) (hb : b < w.heap.size)
    (ec : w.cell? ⟨bw, 0, none⟩ = some (.slice (some ⟨b, o, none⟩) n cap)) (ey : w.cell? ⟨b, o + 1, none⟩ = some (.int .i64 y))
    (r0 : -1000 ≤ x0 ∧ x0 ≤ 1000) (r1 : -1000 ≤ x1 ∧ x1 ≤ 1000) (r2 : -1000 ≤ x2 ∧ x2 ≤ 1000) (r3 : -1000 ≤ x3 ∧ x3 ≤ 1000) (r4 : -1000 ≤ x4 ∧ x4 ≤ 1000) :
    Calls Tryz.prog 52 #[.agg #[.int .i64 x0, .int .i64 x1, .int .i64 x2, .int .i64 x3, .int .i64 x4], .pointer (some ⟨bw, 0, none⟩)] w fun e w' =>
      e = .returned (.bool (inD x0 && (inD x1 && (inD x2 && (inD x3 && (inD x4 && (x1 == y && x0 * x1 + x2 == x3 + 10 * x4))))))) ∧ Below w.heap.size w w' := by
  unfold maxLen at hcm
  have HP : Hid (∀ (a b : Int), 0 ≤ a ∧ a ≤ 9 → 0 ≤ b ∧ b ≤ 9 → 0 ≤ a * b ∧ a * b ≤ 81) := Lib.hid fun a b ha hb => mul_le ha hb
  obtain ⟨r00, r01⟩ := r0
  obtain ⟨r10, r11⟩ := r1
  obtain ⟨r20, r21⟩ := r2
  obtain ⟨r30, r31⟩ := r3
  obtain ⟨r40, r41⟩ := r4
  have hB1 := Lib.hid ((Below.refl w.heap.size w).alloc (Nat.le_refl _) (.cells #[.int .i64 x0, .int .i64 x1, .int .i64 x2, .int .i64 x3, .int .i64 x4] 58))
  have hnew : ∀ j u, (#[Value.int .i64 x0, .int .i64 x1, .int .i64 x2, .int .i64 x3, .int .i64 x4])[j]? = some u → (w.alloc (.cells #[.int .i64 x0, .int .i64 x1, .int .i64 x2, .int .i64 x3, .int .i64 x4] 58)).cell? ⟨w.heap.size, j, none⟩ = some u := fun j u hj => by
    rw [World.cell?_alloc_mark, hj]
  have f0 := hnew 0 _ rfl
  have f1 := hnew 1 _ rfl
  have f2 := hnew 2 _ rfl
  have f3 := hnew 3 _ rfl
  have f4 := hnew 4 _ rfl
  have fc : (w.alloc (.cells #[.int .i64 x0, .int .i64 x1, .int .i64 x2, .int .i64 x3, .int .i64 x4] 58)).cell? ⟨bw, 0, none⟩ = some (.slice (some ⟨b, o, none⟩) n cap) := (World.cell?_alloc_past _ _ _ (show bw < w.heap.size from hbw)).trans ec
  have fy : (w.alloc (.cells #[.int .i64 x0, .int .i64 x1, .int .i64 x2, .int .i64 x3, .int .i64 x4] 58)).cell? ⟨b, o + 1, none⟩ = some (.int .i64 y) := (World.cell?_alloc_past _ _ _ (show b < w.heap.size from hb)).trans ey
  clear hnew ec ey
  by_cases d0 : 0 ≤ x0 ∧ x0 ≤ 9
  · have D0 := Lib.hid d0
    obtain ⟨d00, d09⟩ := d0
    by_cases d1 : 0 ≤ x1 ∧ x1 ≤ 9
    · have D1 := Lib.hid d1
      obtain ⟨d10, d19⟩ := d1
      by_cases d2 : 0 ≤ x2 ∧ x2 ≤ 9
      · have D2 := Lib.hid d2
        obtain ⟨d20, d29⟩ := d2
        by_cases d3 : 0 ≤ x3 ∧ x3 ≤ 9
        · have D3 := Lib.hid d3
          obtain ⟨d30, d39⟩ := d3
          by_cases d4 : 0 ≤ x4 ∧ x4 ≤ 9
          · have D4 := Lib.hid d4
            obtain ⟨d40, d49⟩ := d4
            obtain ⟨p0, p81⟩ := HP.out x0 x1 D0.out D1.out
            by_cases hy : x1 = y
            · have t1 : (x1 == y) = true := by simp [hy]
              by_cases hm : x0 * x1 + x2 = x3 + 10 * x4
              · have t3 : (x0 * x1 + x2 == x3 + 10 * x4) = true := beq_iff_eq.2 hm
                have HFx : Hid ((inD x0 && (inD x1 && (inD x2 && (inD x3 && (inD x4 && (x1 == y && x0 * x1 + x2 == x3 + 10 * x4)))))) = true) := Lib.hid (by rw [show inD x0 = true from decide_eq_true D0.out, show inD x1 = true from decide_eq_true D1.out, show inD x2 = true from decide_eq_true D2.out, show inD x3 = true from decide_eq_true D3.out, show inD x4 = true from decide_eq_true D4.out, t1, t3]; rfl)
                clear hy hm
                clear HP
                go_enter Tryz.func52, Tryz.ntmps52
                go_wp2_with fail
                go_quiet (first | (go_at_call 38; refine Calls.quiet_of_same ((isDt _ _ ?_ ?_).mono fun e w9 h => ⟨h.1, h.2.symm⟩) <;> omega) | (go_at_call 38; refine Calls.quiet_of_same ((isDf _ _ ?_).mono fun e w9 h => ⟨h.1, h.2.symm⟩) <;> omega))
                go_wp2_with fail
                go_ret
                exact ⟨by rw [HFx.out]; rfl, by first | exact below_drewN hB1.out _ | exact hB1.out⟩
              · have t3 : (x0 * x1 + x2 == x3 + 10 * x4) = false := beq_eq_false_iff_ne.2 hm
                have HFx : Hid ((inD x0 && (inD x1 && (inD x2 && (inD x3 && (inD x4 && (x1 == y && x0 * x1 + x2 == x3 + 10 * x4)))))) = false) := Lib.hid (by rw [show inD x0 = true from decide_eq_true D0.out, show inD x1 = true from decide_eq_true D1.out, show inD x2 = true from decide_eq_true D2.out, show inD x3 = true from decide_eq_true D3.out, show inD x4 = true from decide_eq_true D4.out, t1, t3]; rfl)
                clear hy hm
                clear HP
                go_enter Tryz.func52, Tryz.ntmps52
                go_wp2_with fail
                go_quiet (first | (go_at_call 38; refine Calls.quiet_of_same ((isDt _ _ ?_ ?_).mono fun e w9 h => ⟨h.1, h.2.symm⟩) <;> omega) | (go_at_call 38; refine Calls.quiet_of_same ((isDf _ _ ?_).mono fun e w9 h => ⟨h.1, h.2.symm⟩) <;> omega))
                go_wp2_with fail
                go_ret
                exact ⟨by rw [HFx.out]; rfl, by first | exact below_drewN hB1.out _ | exact hB1.out⟩
            · have t1 : (x1 == y) = false := beq_eq_false_iff_ne.2 hy
              have HFx : Hid ((inD x0 && (inD x1 && (inD x2 && (inD x3 && (inD x4 && (x1 == y && x0 * x1 + x2 == x3 + 10 * x4)))))) = false) := Lib.hid (by rw [show inD x0 = true from decide_eq_true D0.out, show inD x1 = true from decide_eq_true D1.out, show inD x2 = true from decide_eq_true D2.out, show inD x3 = true from decide_eq_true D3.out, show inD x4 = true from decide_eq_true D4.out, t1]; rfl)
              clear hy
              clear HP
              go_enter Tryz.func52, Tryz.ntmps52
              go_wp2_with fail
              go_quiet (first | (go_at_call 38; refine Calls.quiet_of_same ((isDt _ _ ?_ ?_).mono fun e w9 h => ⟨h.1, h.2.symm⟩) <;> omega) | (go_at_call 38; refine Calls.quiet_of_same ((isDf _ _ ?_).mono fun e w9 h => ⟨h.1, h.2.symm⟩) <;> omega))
              go_wp2_with fail
              go_ret
              exact ⟨by rw [HFx.out]; rfl, by first | exact below_drewN hB1.out _ | exact hB1.out⟩
          · have HFx : Hid ((inD x0 && (inD x1 && (inD x2 && (inD x3 && (inD x4 && (x1 == y && x0 * x1 + x2 == x3 + 10 * x4)))))) = false) := Lib.hid (by rw [show inD x0 = true from decide_eq_true D0.out, show inD x1 = true from decide_eq_true D1.out, show inD x2 = true from decide_eq_true D2.out, show inD x3 = true from decide_eq_true D3.out, show inD x4 = false from decide_eq_false d4]; simp)
            have dd : x4 < 0 ∨ 9 < x4 := by omega
            clear d4
            clear HP
            go_enter Tryz.func52, Tryz.ntmps52
            go_wp2_with fail
            go_quiet (first | (go_at_call 38; refine Calls.quiet_of_same ((isDt _ _ ?_ ?_).mono fun e w9 h => ⟨h.1, h.2.symm⟩) <;> omega) | (go_at_call 38; refine Calls.quiet_of_same ((isDf _ _ ?_).mono fun e w9 h => ⟨h.1, h.2.symm⟩) <;> omega))
            go_wp2_with fail
            go_ret
            exact ⟨by rw [HFx.out]; rfl, by first | exact below_drewN hB1.out _ | exact hB1.out⟩
        · have HFx : Hid ((inD x0 && (inD x1 && (inD x2 && (inD x3 && (inD x4 && (x1 == y && x0 * x1 + x2 == x3 + 10 * x4)))))) = false) := Lib.hid (by rw [show inD x0 = true from decide_eq_true D0.out, show inD x1 = true from decide_eq_true D1.out, show inD x2 = true from decide_eq_true D2.out, show inD x3 = false from decide_eq_false d3]; simp)
          have dd : x3 < 0 ∨ 9 < x3 := by omega
          clear d3
          clear HP
          go_enter Tryz.func52, Tryz.ntmps52
          go_wp2_with fail
          go_quiet (first | (go_at_call 38; refine Calls.quiet_of_same ((isDt _ _ ?_ ?_).mono fun e w9 h => ⟨h.1, h.2.symm⟩) <;> omega) | (go_at_call 38; refine Calls.quiet_of_same ((isDf _ _ ?_).mono fun e w9 h => ⟨h.1, h.2.symm⟩) <;> omega))
          go_wp2_with fail
          go_ret
          exact ⟨by rw [HFx.out]; rfl, by first | exact below_drewN hB1.out _ | exact hB1.out⟩
      · have HFx : Hid ((inD x0 && (inD x1 && (inD x2 && (inD x3 && (inD x4 && (x1 == y && x0 * x1 + x2 == x3 + 10 * x4)))))) = false) := Lib.hid (by rw [show inD x0 = true from decide_eq_true D0.out, show inD x1 = true from decide_eq_true D1.out, show inD x2 = false from decide_eq_false d2]; simp)
        have dd : x2 < 0 ∨ 9 < x2 := by omega
        clear d2
        clear HP
        go_enter Tryz.func52, Tryz.ntmps52
        go_wp2_with fail
        go_quiet (first | (go_at_call 38; refine Calls.quiet_of_same ((isDt _ _ ?_ ?_).mono fun e w9 h => ⟨h.1, h.2.symm⟩) <;> omega) | (go_at_call 38; refine Calls.quiet_of_same ((isDf _ _ ?_).mono fun e w9 h => ⟨h.1, h.2.symm⟩) <;> omega))
        go_wp2_with fail
        go_ret
        exact ⟨by rw [HFx.out]; rfl, by first | exact below_drewN hB1.out _ | exact hB1.out⟩
    · have HFx : Hid ((inD x0 && (inD x1 && (inD x2 && (inD x3 && (inD x4 && (x1 == y && x0 * x1 + x2 == x3 + 10 * x4)))))) = false) := Lib.hid (by rw [show inD x0 = true from decide_eq_true D0.out, show inD x1 = false from decide_eq_false d1]; simp)
      have dd : x1 < 0 ∨ 9 < x1 := by omega
      clear d1
      clear HP
      go_enter Tryz.func52, Tryz.ntmps52
      go_wp2_with fail
      go_quiet (first | (go_at_call 38; refine Calls.quiet_of_same ((isDt _ _ ?_ ?_).mono fun e w9 h => ⟨h.1, h.2.symm⟩) <;> omega) | (go_at_call 38; refine Calls.quiet_of_same ((isDf _ _ ?_).mono fun e w9 h => ⟨h.1, h.2.symm⟩) <;> omega))
      go_wp2_with fail
      go_ret
      exact ⟨by rw [HFx.out]; rfl, by first | exact below_drewN hB1.out _ | exact hB1.out⟩
  · have HFx : Hid ((inD x0 && (inD x1 && (inD x2 && (inD x3 && (inD x4 && (x1 == y && x0 * x1 + x2 == x3 + 10 * x4)))))) = false) := Lib.hid (by rw [show inD x0 = false from decide_eq_false d0]; simp)
    have dd : x0 < 0 ∨ 9 < x0 := by omega
    clear d0
    clear HP
    go_enter Tryz.func52, Tryz.ntmps52
    go_wp2_with fail
    go_quiet (first | (go_at_call 38; refine Calls.quiet_of_same ((isDt _ _ ?_ ?_).mono fun e w9 h => ⟨h.1, h.2.symm⟩) <;> omega) | (go_at_call 38; refine Calls.quiet_of_same ((isDf _ _ ?_).mono fun e w9 h => ⟨h.1, h.2.symm⟩) <;> omega))
    go_wp2_with fail
    go_ret
    exact ⟨by rw [HFx.out]; rfl, by first | exact below_drewN hB1.out _ | exact hB1.out⟩

set_option maxRecDepth 20000 in
set_option maxHeartbeats 4000000 in
theorem wrong_row (w : World) (B : Nat) (A : Option Addr) (cap n bw : Nat) (F : Nat → Nat → Int) (hR : Recs w B (.slice A n cap) n 5 (IV F)) (hBw : B ≤ w.heap.size) (hbw : bw < w.heap.size) (e1 : w.cell? ⟨bw, 0, none⟩ = some (.slice A n cap)) (n1 : 1 ≤ n) (n9 : n ≤ 9)
    (hF : ∀ i, i < n → ∀ j, j < 5 → -1000 ≤ F i j ∧ F i j ≤ 1000) :
    Calls Tryz.prog 51 #[.slice A n cap, .func (.func 52) #[] #[.pointer (some ⟨bw, 0, none⟩)]] w fun e w' => e = .returned (.int .i64 (wrR F n)) ∧ Below w.heap.size w w' := by
  obtain ⟨A', cap', hv, hnc, hcm, hcell⟩ := hR
  cases hv
  obtain ⟨b, o, rfl, hb, hc⟩ := hcell (by omega)
  have hb' : b < w.heap.size := by omega
  have ey := hc 0 (by omega) 1 (by omega)
  simp only [IV, Nat.zero_mul, Nat.add_zero] at ey
  have hcm' := hcm
  unfold maxLen at hcm
  have HCl := Lib.hid fun x0 x1 x2 x3 x4 (W : World) (hB : Below w.heap.size w W) r0 r1 r2 r3 r4 => row_cl x0 x1 x2 x3 x4 (F 0 1) bw b o n cap W (by omega) hnc hcm' (by have := hB.size; omega) (by have := hB.size; omega) ((hB.cell (p := ⟨bw, 0, none⟩) hbw).trans e1) ((hB.cell (p := ⟨b, o + 1, none⟩) hb').trans ey) r0 r1 r2 r3 r4
  have Hc := Lib.hid hc
  have HF := Lib.hid hF
  have HHere := Lib.hid fun k (hk : k < n) h hb => wrR_here (F := F) n1 n9 hk h hb
  have HAll := Lib.hid fun h => wrR_right (F := F) n1 n9 h
  clear hc hF ey e1 hcm' hcell
  go_enter Tryz.func51, Tryz.ntmps51
  go_wp2_with fail
  go_loopg [5, 6, 7, 10] n (fun g s5 s6 s7 s10 wr => ∃ k : Nat, ∃ c : Int, g + k = n ∧ s10 = .int .i64 k ∧ s5 = .int .i64 c ∧ Hid (c = cin F k) ∧ Hid (∀ j, j < k → rowAt F j = true) ∧ Below w.heap.size w wr)
  case atStart => exact ⟨0, 0, rfl, rfl, rfl, Lib.hid rfl, Lib.hid fun j hj => by omega, Below.refl _ _⟩
  case round =>
    obtain ⟨k, c, hk, rfl, rfl, HC, Hok, hB⟩ := hrel
    by_cases hlt : k < n
    · have e0 := (hB.cell (p := ⟨b, o + k * 5, none⟩) hb').trans (Hc.out k hlt 0 (by omega))
      have e1 := (hB.cell (p := ⟨b, o + k * 5 + 1, none⟩) hb').trans (Hc.out k hlt 1 (by omega))
      have e2 := (hB.cell (p := ⟨b, o + k * 5 + 2, none⟩) hb').trans (Hc.out k hlt 2 (by omega))
      have e3 := (hB.cell (p := ⟨b, o + k * 5 + 3, none⟩) hb').trans (Hc.out k hlt 3 (by omega))
      have e4 := (hB.cell (p := ⟨b, o + k * 5 + 4, none⟩) hb').trans (Hc.out k hlt 4 (by omega))
      simp only [IV] at e0 e1 e2 e3 e4
      have HR0 := Lib.hid (HF.out k hlt 0 (by omega))
      have HR1 := Lib.hid (HF.out k hlt 1 (by omega))
      have HR2 := Lib.hid (HF.out k hlt 2 (by omega))
      have HR3 := Lib.hid (HF.out k hlt 3 (by omega))
      have HR4 := Lib.hid (HF.out k hlt 4 (by omega))
      have HA : Hid (rowAt F k = (F k 2 == c && (inD (F k 0) && (inD (F k 1) && (inD (F k 2) && (inD (F k 3) && (inD (F k 4) && (F k 1 == F 0 1 && F k 0 * F k 1 + F k 2 == F k 3 + 10 * F k 4)))))))) := Lib.hid (by rw [HC.out]; rfl)
      have HBad := Lib.hid fun h => HHere.out k hlt h Hok.out
      have HN := Lib.hid (show cin F (k + 1) = F k 4 from rfl)
      have HClk := Lib.hid fun W hB => HCl.out (F k 0) (F k 1) (F k 2) (F k 3) (F k 4) W hB HR0.out HR1.out HR2.out HR3.out HR4.out
      clear HR0 HR1 HR2 HR3 HR4
      generalize (inD (F k 0) && (inD (F k 1) && (inD (F k 2) && (inD (F k 3) && (inD (F k 4) && (F k 1 == F 0 1 && F k 0 * F k 1 + F k 2 == F k 3 + 10 * F k 4)))))) = C at *
      generalize F k 0 = x0 at *
      generalize F k 1 = x1 at *
      generalize F k 2 = x2 at *
      generalize F k 3 = x3 at *
      generalize F k 4 = x4 at *
      have hB1 := hB.alloc hB.size (.cells #[.int .i64 x0, .int .i64 x1, .int .i64 x2, .int .i64 x3, .int .i64 x4] 58)
      have HB1 := Lib.hid hB1
      have hki : (k : Int) < (n : Int) := by omega
      clear hB hB1
      by_cases hx : x2 = c
      · have t2 : (x2 != c) = false := by simp [hx]
        have HX := Lib.hid (show (x2 == c) = true from beq_iff_eq.2 hx)
        clear hx
        go_wp2_with fail
        refine (HClk.out _ HB1.out).mono ?_
        rintro e w2 ⟨rfl, b2⟩
        have hB2 := below_own HB1.out b2 HB1.out.size
        have hnew : ∀ j u, (#[Value.int .i64 x0, .int .i64 x1, .int .i64 x2, .int .i64 x3, .int .i64 x4])[j]? = some u → w2.cell? ⟨wr.heap.size, j, none⟩ = some u := fun j u hj => by
          rw [b2.cell (p := ⟨wr.heap.size, j, none⟩) (by simp), World.cell?_alloc_mark, hj]
        have f4 := hnew 4 _ rfl
        clear HB1 hnew b2 e0 e1 e2 e3 e4 HClk
        cases C with
        | true =>
          have HGd := Lib.hid (HA.out.trans (by rw [HX.out, Bool.and_true]))
          clear HA HBad
          go_wp2_with fail
          go_roundg (gk - 1)
          case measure => omega
          case rel => exact ⟨k + 1, x4, by omega, by go_num, rfl, Lib.hid HN.out.symm, Lib.hid fun j hj => by
            by_cases e : j = k
            · subst e; exact HGd.out
            · exact Hok.out j (by omega), hB2⟩
        | false =>
          have HFx := Lib.hid (HBad.out (HA.out.trans (by rw [Bool.and_false])))
          clear HA HBad
          go_wp2_with fail
          go_ret
          exact ⟨by rw [HFx.out]; rfl, hB2⟩
      · have t2 : (x2 != c) = true := by simp [hx]
        have HFx := Lib.hid (HBad.out (HA.out.trans (by rw [beq_eq_false_iff_ne.2 hx]; rfl)))
        clear hx HA HBad
        go_wp2_with fail
        go_ret
        exact ⟨by rw [HFx.out]; rfl, HB1.out⟩
    · obtain rfl : k = n := by omega
      have HFx := Lib.hid (HAll.out Hok.out)
      go_wp2_with fail
      go_ret
      exact ⟨by rw [HFx.out]; rfl, hB⟩

set_option maxRecDepth 20000 in
set_option maxHeartbeats 4000000 in
theorem iWrongRow (w : World) (B : Nat) (v : Value) (n : Nat) (F : Nat → Nat → Int) (hR : Recs w B v n 5 (IV F)) (hBw : B ≤ w.heap.size) (hF : ∀ i, i < n → ∀ j, j < 5 → -1000 ≤ F i j ∧ F i j ≤ 1000) :
    Calls Tryz.prog 36 #[v] w fun e w' => e = .returned (.int .i64 (wrR F n)) ∧ Below w.heap.size w w' := by
  obtain ⟨A, cap, rfl, hrest⟩ := hR
  have hR : Recs w B (.slice A n cap) n 5 (IV F) := ⟨A, cap, rfl, hrest⟩
  have hnc := hrest.1
  have hcm := hrest.2.1
  unfold maxLen at hcm
  clear hrest
  have hB1 := (Below.refl w.heap.size w).alloc (Nat.le_refl _) (.cells #[.slice A n cap] 40)
  have f0 : (w.alloc (.cells #[.slice A n cap] 40)).cell? ⟨w.heap.size, 0, none⟩ = some (.slice A n cap) := by rw [World.cell?_alloc_mark]; rfl
  by_cases hn : 1 ≤ n ∧ n ≤ 9
  · obtain ⟨n1, n9⟩ := hn
    have HW := Lib.hid (wrong_row (w.alloc (.cells #[.slice A n cap] 40)) B A cap n w.heap.size F (hR.below hB1 hBw) (by have := hB1.size; omega) (by simp) f0 n1 n9 hF)
    clear hF hR
    go_enter Tryz.func36, Tryz.ntmps36
    go_wp2_with (first | (go_at_call 35; ((with_reducible refine (in_t _ _ _ _ ?_ ?_).mono ?_)); (omega); (omega); rintro e w' ⟨rfl, rfl⟩))
    refine HW.out.mono ?_
    rintro e w2 ⟨rfl, b2⟩
    have hB2 := below_own hB1 b2 hB1.size
    go_wp2_with fail
    go_ret
    exact ⟨rfl, hB2⟩
  · have HFx := Lib.hid (wrR_no (F := F) (show n < 1 ∨ 9 < n by omega))
    have hn' : (n : Int) < 1 ∨ 9 < (n : Int) := by omega
    clear hF hR hn
    go_enter Tryz.func36, Tryz.ntmps36
    go_wp2_with (first | (go_at_call 35; ((with_reducible refine (in_f _ _ _ _ ?_).mono ?_)); (omega); rintro e w' ⟨rfl, rfl⟩))
    go_ret
    exact ⟨by rw [HFx.out]; rfl, hB1⟩
end Go.Proofs.YtfmfjbphflkhiaaGreatDoor
