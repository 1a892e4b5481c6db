/- The walks of the reference's RowOf, WrongRow and RowWritten. -/
import Derived.Test.YtfmfjbphflkhiaaGreatDoorRowP
import Derived.Test.YtfmfjbphflkhiaaGreatDoorDrw
import Derived.Test.YtfmfjbphflkhiaaGreatDoorStrs
import Derived.Test.YtfmfjbphflkhiaaGreatDoorPlain
import Derived.Deep.RegionHeld3
namespace Go.Proofs.YtfmfjbphflkhiaaGreatDoor
set_option linter.unusedVariables false
set_option linter.unusedSimpArgs false
open Go.RowKit

theorem cells_in (w : World) (cs : Array Value) (xs : List Value) (t : TypeId) (B : Nat) (hB : B = w.heap.size) (h : cs.toList = xs) : ∀ j u, xs[j]? = some u → (w.alloc (.cells cs t)).cell? ((⟨B, 0, none⟩ : Addr).add j) = some u := by
  intro j u hj
  subst h
  subst hB
  rw [Go.WideShapes.add_plain, cell_of_row _ _ _ cs t (0, 0) (heap_alloc_new w _)]
  simpa using hj
theorem infoColR : (Tryz.prog.info? 58).map (fun i => (i.zero, i.size, i.bytes)) = some (some (.agg #[.int .i64 0, .int .i64 0, .int .i64 0, .int .i64 0, .int .i64 0]), 5, 40) := by kernel_rfl
def rwN (s : ByteArray) (q : Int) : Nat := if numB s.data.toList = true ∧ inD q = true then s.size else 0
theorem rwN_len (s : ByteArray) (q : Int) : rwN s q ≤ 9 := by
  unfold rwN
  split
  · rename_i h; have := (numB_len h.1).2; rwa [str_len] at this
  · omega

set_option maxRecDepth 20000 in
set_option maxHeartbeats 4000000 in
theorem sRowOf (s : ByteArray) (q : Int) (hs : s.size ≤ maxLen) (w : World) :
    Calls Tryz.prog 25 #[.string s, .int .i64 q] w fun e w' => ∃ v, e = .returned v ∧ Own w' w.heap.size 58 5 v (rwN s q) (recCells 5 (IV (mulF s.data.toList q)) (rwN s q)) ∧ Below w.heap.size w w' := by
  have hbel := (Below.refl w.heap.size w).alloc (Nat.le_refl _) (.cells #[] 58)
  have hown0 := owns_new w w.heap.size 58 5 0 #[] (Nat.le_refl _) (by decide) rfl
  by_cases hok : numB s.data.toList = true ∧ inD q = true
  · have hN : rwN s q = s.size := if_pos hok
    rw [hN]
    obtain ⟨hn, hq⟩ := hok
    have hq' := inD_iff.1 hq
    have ID1 := Lib.hid fun k W => sDigit s hs hn k W
    have R1 := Lib.hid fun k => dg_range (numB_all hn) k
    have RC := Lib.hid fun k => mulC_range (s := s.data.toList) (q := q) (fun k => dg_range (numB_all hn) k) hq' k
    have RM := Lib.hid fun k => mul_le (dg_range (numB_all hn) k) hq'
    have hl := numB_len hn
    rw [str_len] at hl
    obtain ⟨l1, l2⟩ := hl
    obtain ⟨i0, hi, hz0, hz1, hz2⟩ := info_parts infoColR
    have HTF := Lib.hid fun k => recCells5_succ (mulF s.data.toList q) k
    have HNs := Lib.hid hn
    have hNs : ∀ W, Calls Tryz.prog 23 #[.string s] W fun e w' => e = .returned (.bool true) ∧ W = w' := fun W => by
      have := sNum s hs W
      rwa [hn] at this
    have HNc := Lib.hid hNs
    obtain ⟨q0, q9⟩ := hq'
    clear hs hn hq hN hNs
    go_enter Tryz.func25, Tryz.ntmps25
    go_wp2_with fail
    go_loopg [5, 6, 7, 8, 9] s.size (fun g s5 s6 s7 s8 s9 wr => ∃ k : Nat, ∃ c : Int, g + k = s.size ∧ s7 = .int .i64 k ∧ s6 = .int .i64 c ∧ Hid (c = mulC s.data.toList q k) ∧ wr.ownsRow w.heap.size 58 5 s5 k (recCells 5 (IV (mulF s.data.toList q)) k) ∧ Below w.heap.size w wr)
    case atStart => exact ⟨0, 0, rfl, rfl, rfl, Lib.hid rfl, by rw [recCells_zero]; exact hown0, hbel⟩
    case round =>
      obtain ⟨k, c, hk, rfl, rfl, HC, hown, hB⟩ := hrel
      by_cases hlt : k < s.size
      · have ra := R1.out k
        have rc := RC.out k
        have rm := RM.out k
        rw [← HC.out] at rc
        have hT := HTF.out k
        have e0 : mulF s.data.toList q k 0 = dg s.data.toList k := rfl
        have e1 : mulF s.data.toList q k 1 = q := rfl
        have e2 : mulF s.data.toList q k 2 = mulC s.data.toList q k := rfl
        have e3 : mulF s.data.toList q k 3 = (dg s.data.toList k * q + mulC s.data.toList q k) % 10 := rfl
        have e4 : mulF s.data.toList q k 4 = (dg s.data.toList k * q + mulC s.data.toList q k) / 10 := rfl
        rw [e0, e1, e2, e3, e4, ← HC.out] at hT
        have HT := Lib.hid hT
        have HC2 := Lib.hid (show mulC s.data.toList q (k + 1) = (dg s.data.toList k * q + mulC s.data.toList q k) / 10 from rfl)
        rw [← HC.out] at HC2
        have hki : (k : Int) < (s.size : Int) := by omega
        have hkd : decide ((k : Int) < (s.size : Int)) = true := decide_eq_true hki
        clear hT e0 e1 e2 e3 e4
        have HOwn := Lib.hid hown
        have HBel := Lib.hid hB
        clear hown hB
        go_wp2_with (first | (go_at_call 23; refine (HNc.out _).mono ?_; rintro e w' ⟨rfl, rfl⟩) | (go_at_call 41; ((with_reducible refine (sin_t _ _ _ _ ?_ ?_).mono ?_)); (omega); (omega); rintro e w' ⟨rfl, rfl⟩) | (go_at_call 26; refine (ID1.out k _).mono ?_; rintro e w' ⟨rfl, rfl⟩; generalize dg s.data.toList k = a at *; obtain ⟨a0, a9⟩ := ra; obtain ⟨c0, c9⟩ := rc; obtain ⟨m0, m9⟩ := rm; generalize hm : a * q = m at *) | (at_builtin; refine wpList_append_own _ rfl _ _ 40 rfl w.heap.size 58 i0 _ 5 40 Tryz.underlying40 hi hz0 hz1 hz2 rfl (by decide) _ _ _ rfl ((HOwn.out.alloc _).alloc _) ⟨wr.heap.size + 1, 0, none⟩ 1 1 [.int .i64 a, .int .i64 q, .int .i64 c, .int .i64 ((m + c) % 10), .int .i64 ((m + c) / 10)] rfl rfl (cells_in _ _ _ _ _ (by simp) rfl) (by simp [Value.oneCell']) (by unfold maxLen; omega) (by omega) (by have := HBel.out.size; simp; omega) ?_; intro v' w2 hown' hgrow _))
        have hB2 := ((HBel.out.alloc HBel.out.size (.cells #[.int .i64 a, .int .i64 q, .int .i64 c, .int .i64 ((m + c) % 10), .int .i64 ((m + c) / 10)] 58)).alloc (by have := HBel.out.size; simp; omega) (.cells #[.int .i64 a, .int .i64 q, .int .i64 c, .int .i64 ((m + c) % 10), .int .i64 ((m + c) / 10)] 58)).grown hgrow (by have := HBel.out.size; simp; omega) (fun j hj => (HOwn.out.lt j hj).1)
        go_roundg (gk - 1)
        case measure => omega
        case rel => exact ⟨k + 1, (m + c) / 10, by omega, by go_num, rfl, Lib.hid HC2.out.symm, by rw [HT.out]; exact hown', hB2⟩
      · obtain rfl : k = s.size := by omega
        have hkd : decide ((s.size : Int) < (s.size : Int)) = false := decide_eq_false (by omega)
        go_wp2_with fail
        go_ret
        exact ⟨_, rfl, Own.of_row hown, hB⟩
  · have hN : rwN s q = 0 := if_neg hok
    rw [hN]
    have hNs : ∀ W, Calls Tryz.prog 23 #[.string s] W fun e w' => e = .returned (.bool (numB s.data.toList)) ∧ W = w' := fun W => sNum s hs W
    have HNc := Lib.hid hNs
    unfold maxLen at hs
    have hq : numB s.data.toList = true → q < 0 ∨ 9 < q := fun h => by
      have : ¬ inD q = true := fun h' => hok ⟨h, h'⟩
      rw [inD_iff] at this
      omega
    clear hok hN hNs
    go_enter Tryz.func25, Tryz.ntmps25
    go_wp2_with fail
    go_loopg [5, 6, 7, 8, 9] 0 (fun g s5 s6 s7 s8 s9 wr => s7 = .int .i64 0 ∧ s5 = .slice (some ⟨w.heap.size, 0, none⟩) 0 0 ∧ w.alloc (.cells #[] 58) = wr)
    case atStart => exact ⟨rfl, rfl, rfl⟩
    case round =>
      obtain ⟨rfl, rfl, rfl⟩ := hrel
      by_cases hz : s.size = 0
      · have hkd : decide ((0 : Int) < (s.size : Int)) = false := decide_eq_false (by omega)
        have hki : (s.size : Int) ≤ 0 := by omega
        clear hq HNc
        go_wp2_with fail
        go_ret
        exact ⟨_, rfl, by rw [recCells_zero]; exact Own.of_row hown0, hbel⟩
      · have hkd : decide ((0 : Int) < (s.size : Int)) = true := decide_eq_true (by omega)
        have hki : (0 : Int) < (s.size : Int) := by omega
        cases hn : numB s.data.toList with
        | false =>
          rw [hn] at HNc
          clear hq hn hz
          go_wp2_with (first | (go_at_call 23; refine (HNc.out _).mono ?_; rintro e w' ⟨rfl, rfl⟩))
          go_ret
          exact ⟨_, rfl, by rw [recCells_zero]; exact Own.of_row hown0, hbel⟩
        | true =>
          rw [hn] at HNc
          have hq' := hq hn
          clear hq hn hz
          go_wp2_with (first | (go_at_call 23; refine (HNc.out _).mono ?_; rintro e w' ⟨rfl, rfl⟩) | (go_at_call 41; ((with_reducible refine (sin_f _ _ _ _ ?_).mono ?_)); (omega); rintro e w' ⟨rfl, rfl⟩))
          go_ret
          exact ⟨_, rfl, by rw [recCells_zero]; exact Own.of_row hown0, hbel⟩

set_option maxRecDepth 20000 in
set_option maxHeartbeats 8000000 in
theorem sWrongRow (w : World) (B : Nat) (v : Value) (n : Nat) (F : Nat → Nat → Int) (hR : Recs w B v n 5 (IV F)) (hBw : B ≤ w.heap.size) (hF : ∀ i, i < n → ∀ j, j < 5 → -1000 ≤ F i j ∧ F i j ≤ 1000) :
    Calls Tryz.prog 42 #[v] w fun e w' => e = .returned (.int .i64 (wrR F n)) ∧ Below w.heap.size w w' := by
  obtain ⟨A, cap, rfl, hnc, hcm, hcell⟩ := hR
  unfold maxLen at hcm
  by_cases hn : 1 ≤ n ∧ n ≤ 9
  · obtain ⟨n1, n9⟩ := hn
    have Hc := Lib.hid hcell
    have HF := Lib.hid hF
    have HHere := Lib.hid fun k (hk : k < n) h hb => wrR_here (F := F) n1 n9 hk h hb
    have HAll := Lib.hid fun h => wrR_right (F := F) n1 n9 h
    clear hcell hF
    go_enter Tryz.func42, Tryz.ntmps42
    go_wp2_with (first | (go_at_call 41; ((with_reducible refine (sin_t _ _ _ _ ?_ ?_).mono ?_)); (omega); (omega); rintro e w' ⟨rfl, rfl⟩) | (go_at_call 41; ((with_reducible refine (sin_f _ _ _ _ ?_).mono ?_)); (omega); rintro e w' ⟨rfl, rfl⟩))
    go_loopg [3, 4, 5, 6] n (fun g s3 s4 s5 s6 wr => ∃ k : Nat, ∃ c : Int, g + k = n ∧ s4 = .int .i64 k ∧ s3 = .int .i64 c ∧ Hid (c = cin F k) ∧ -1000 ≤ c ∧ c ≤ 1000 ∧ Hid (∀ j, j < k → rowAt F j = true) ∧ Below w.heap.size w wr)
    case atStart => exact ⟨0, 0, rfl, rfl, rfl, Lib.hid rfl, by omega, by omega, Lib.hid fun j hj => by omega, Below.refl _ _⟩
    case round =>
      obtain ⟨k, c, hk, rfl, rfl, HC, c0, c1, Hok, hB⟩ := hrel
      by_cases hlt : k < n
      · obtain ⟨b, o, rfl, hb, hc⟩ := Hc.out (by omega)
        have hbw : b < w.heap.size := by omega
        have hbr : b < wr.heap.size := by have := hB.size; omega
        have e0 := (hB.cell (p := ⟨b, o + k * 5, none⟩) hbw).trans (hc k hlt 0 (by omega))
        have e1 := (hB.cell (p := ⟨b, o + k * 5 + 1, none⟩) hbw).trans (hc k hlt 1 (by omega))
        have e2 := (hB.cell (p := ⟨b, o + k * 5 + 2, none⟩) hbw).trans (hc k hlt 2 (by omega))
        have e3 := (hB.cell (p := ⟨b, o + k * 5 + 3, none⟩) hbw).trans (hc k hlt 3 (by omega))
        have e4 := (hB.cell (p := ⟨b, o + k * 5 + 4, none⟩) hbw).trans (hc k hlt 4 (by omega))
        have ey := hc 0 (by omega) 1 (by omega)
        simp only [IV, Nat.zero_mul, Nat.add_zero] at e0 e1 e2 e3 e4 ey
        have r0 := HF.out k hlt 0 (by omega)
        have r1 := HF.out k hlt 1 (by omega)
        have r2 := HF.out k hlt 2 (by omega)
        have r3 := HF.out k hlt 3 (by omega)
        have r4 := HF.out k hlt 4 (by omega)
        have ry := HF.out 0 (by omega) 1 (by omega)
        have HA : Hid (rowAt F k = (F k 2 == c && (inD (F k 0) && (inD (F k 1) && (inD (F k 2) && (inD (F k 3) && (inD (F k 4) && (F k 1 == F 0 1 && F k 0 * F k 1 + F k 2 == F k 3 + 10 * F k 4)))))))) := Lib.hid (by rw [HC.out]; rfl)
        have HBad := Lib.hid fun h => HHere.out k hlt h Hok.out
        have HN := Lib.hid (show cin F (k + 1) = F k 4 from rfl)
        have HP : Hid (∀ (a b : Int), 0 ≤ a ∧ a ≤ 9 → 0 ≤ b ∧ b ≤ 9 → 0 ≤ a * b ∧ a * b ≤ 81) := Lib.hid fun a b ha hb => mul_le ha hb
        have hki : (k : Int) < (n : Int) := by omega
        clear hc
        generalize F k 0 = x0 at *
        generalize F k 1 = x1 at *
        generalize F k 2 = x2 at *
        generalize F k 3 = x3 at *
        generalize F k 4 = x4 at *
        generalize F 0 1 = y at *
        obtain ⟨r00, r01⟩ := r0
        obtain ⟨r10, r11⟩ := r1
        obtain ⟨r20, r21⟩ := r2
        obtain ⟨r30, r31⟩ := r3
        obtain ⟨r40, r41⟩ := r4
        obtain ⟨ry0, ry1⟩ := ry
        have hB1 := Lib.hid (hB.alloc hB.size (.cells #[.int .i64 x0, .int .i64 x1, .int .i64 x2, .int .i64 x3, .int .i64 x4] 58))
        have hnew : ∀ j u, (#[Value.int .i64 x0, .int .i64 x1, .int .i64 x2, .int .i64 x3, .int .i64 x4])[j]? = some u → (wr.alloc (.cells #[.int .i64 x0, .int .i64 x1, .int .i64 x2, .int .i64 x3, .int .i64 x4] 58)).cell? ⟨wr.heap.size, j, none⟩ = some u := fun j u hj => by
          rw [World.cell?_alloc_mark, hj]
        have f0 := hnew 0 _ rfl
        have f1 := hnew 1 _ rfl
        have f2 := hnew 2 _ rfl
        have f3 := hnew 3 _ rfl
        have f4 := hnew 4 _ rfl
        have fy : (wr.alloc (.cells #[.int .i64 x0, .int .i64 x1, .int .i64 x2, .int .i64 x3, .int .i64 x4] 58)).cell? ⟨b, o + 1, none⟩ = some (.int .i64 y) := (World.cell?_alloc_past _ _ _ (show b < wr.heap.size from hbr)).trans ((hB.cell (p := ⟨b, o + 1, none⟩) hbw).trans ey)
        clear hnew hB ey
        by_cases d0 : 0 ≤ x0 ∧ x0 ≤ 9
        · have D0 := Lib.hid d0
          obtain ⟨d00, d09⟩ := d0
          by_cases d1 : 0 ≤ x1 ∧ x1 ≤ 9
          · have D1 := Lib.hid d1
            obtain ⟨d10, d19⟩ := d1
            by_cases d2 : 0 ≤ x2 ∧ x2 ≤ 9
            · have D2 := Lib.hid d2
              obtain ⟨d20, d29⟩ := d2
              by_cases d3 : 0 ≤ x3 ∧ x3 ≤ 9
              · have D3 := Lib.hid d3
                obtain ⟨d30, d39⟩ := d3
                by_cases d4 : 0 ≤ x4 ∧ x4 ≤ 9
                · have D4 := Lib.hid d4
                  obtain ⟨d40, d49⟩ := d4
                  have hp := HP.out x0 x1 D0.out D1.out
                  obtain ⟨p0, p81⟩ := hp
                  by_cases hy : x1 = y
                  · by_cases hc : x2 = c
                    · by_cases hm : x0 * x1 + x2 = x3 + 10 * x4
                      · have HGd : Hid (rowAt F k = true) := Lib.hid (by rw [HA.out, show inD x0 = true from decide_eq_true D0.out, show inD x1 = true from decide_eq_true D1.out, show inD x2 = true from decide_eq_true D2.out, show inD x3 = true from decide_eq_true D3.out, show inD x4 = true from decide_eq_true D4.out]; simp [hy, hc]; rw [← hy, ← hc]; exact hm)
                        have t1 : (x1 != y) = false := by simp [hy]
                        have t2 : (x2 != c) = false := by simp [hc]
                        have t3 : (x0 * x1 + x2 != x3 + 10 * x4) = false := by simp [hm]
                        clear hy hc hm HA HBad HP HHere
                        go_wp2_with (first | (go_at_call 41; ((with_reducible refine (sin_t _ _ _ _ ?_ ?_).mono ?_)); (omega); (omega); rintro e w' ⟨rfl, rfl⟩) | (go_at_call 41; ((with_reducible refine (sin_f _ _ _ _ ?_).mono ?_)); (omega); rintro e w' ⟨rfl, rfl⟩))
                        go_quiet (fail)
                        go_wp2_with fail
                        go_roundg (gk - 1)
                        case measure => omega
                        case rel => exact ⟨k + 1, x4, by omega, by go_num, rfl, Lib.hid HN.out.symm, by omega, by omega, Lib.hid fun j hj => by
                          by_cases e : j = k
                          · subst e; exact HGd.out
                          · exact Hok.out j (by omega), by first | exact below_drewN hB1.out _ | exact hB1.out⟩
                      · have HFx := Lib.hid (HBad.out (by rw [HA.out, show (x0 * x1 + x2 == x3 + 10 * x4) = false from beq_eq_false_iff_ne.2 hm]; simp))
                        have t1 : (x1 != y) = false := by simp [hy]
                        have t2 : (x2 != c) = false := by simp [hc]
                        have t3 : (x0 * x1 + x2 != x3 + 10 * x4) = true := by simp [hm]
                        clear hy hc hm
                        clear HA HBad HP HHere
                        go_wp2_with (first | (go_at_call 41; ((with_reducible refine (sin_t _ _ _ _ ?_ ?_).mono ?_)); (omega); (omega); rintro e w' ⟨rfl, rfl⟩) | (go_at_call 41; ((with_reducible refine (sin_f _ _ _ _ ?_).mono ?_)); (omega); rintro e w' ⟨rfl, rfl⟩))
                        go_quiet (fail)
                        go_wp2_with fail
                        go_ret
                        exact ⟨by rw [HFx.out]; rfl, by first | exact below_drewN hB1.out _ | exact hB1.out⟩
                    · have HFx := Lib.hid (HBad.out (by rw [HA.out, show (x2 == c) = false from beq_eq_false_iff_ne.2 hc]; simp))
                      have t1 : (x1 != y) = false := by simp [hy]
                      have t2 : (x2 != c) = true := by simp [hc]
                      clear hy hc
                      clear HA HBad HP HHere
                      go_wp2_with (first | (go_at_call 41; ((with_reducible refine (sin_t _ _ _ _ ?_ ?_).mono ?_)); (omega); (omega); rintro e w' ⟨rfl, rfl⟩) | (go_at_call 41; ((with_reducible refine (sin_f _ _ _ _ ?_).mono ?_)); (omega); rintro e w' ⟨rfl, rfl⟩))
                      go_quiet (fail)
                      go_wp2_with fail
                      go_ret
                      exact ⟨by rw [HFx.out]; rfl, by first | exact below_drewN hB1.out _ | exact hB1.out⟩
                  · have HFx := Lib.hid (HBad.out (by rw [HA.out, show (x1 == y) = false from beq_eq_false_iff_ne.2 hy]; simp))
                    have t1 : (x1 != y) = true := by simp [hy]
                    clear hy
                    clear HA HBad HP HHere
                    go_wp2_with (first | (go_at_call 41; ((with_reducible refine (sin_t _ _ _ _ ?_ ?_).mono ?_)); (omega); (omega); rintro e w' ⟨rfl, rfl⟩) | (go_at_call 41; ((with_reducible refine (sin_f _ _ _ _ ?_).mono ?_)); (omega); rintro e w' ⟨rfl, rfl⟩))
                    go_quiet (fail)
                    go_wp2_with fail
                    go_ret
                    exact ⟨by rw [HFx.out]; rfl, by first | exact below_drewN hB1.out _ | exact hB1.out⟩
                · have HFx := Lib.hid (HBad.out (by rw [HA.out, show inD x4 = false from decide_eq_false d4]; simp))
                  have dd : x4 < 0 ∨ 9 < x4 := by omega
                  clear d4 HA HBad HP HHere
                  go_wp2_with (first | (go_at_call 41; ((with_reducible refine (sin_t _ _ _ _ ?_ ?_).mono ?_)); (omega); (omega); rintro e w' ⟨rfl, rfl⟩) | (go_at_call 41; ((with_reducible refine (sin_f _ _ _ _ ?_).mono ?_)); (omega); rintro e w' ⟨rfl, rfl⟩))
                  go_quiet (fail)
                  go_wp2_with fail
                  go_ret
                  exact ⟨by rw [HFx.out]; rfl, by first | exact below_drewN hB1.out _ | exact hB1.out⟩
              · have HFx := Lib.hid (HBad.out (by rw [HA.out, show inD x3 = false from decide_eq_false d3]; simp))
                have dd : x3 < 0 ∨ 9 < x3 := by omega
                clear d3 HA HBad HP HHere
                go_wp2_with (first | (go_at_call 41; ((with_reducible refine (sin_t _ _ _ _ ?_ ?_).mono ?_)); (omega); (omega); rintro e w' ⟨rfl, rfl⟩) | (go_at_call 41; ((with_reducible refine (sin_f _ _ _ _ ?_).mono ?_)); (omega); rintro e w' ⟨rfl, rfl⟩))
                go_quiet (fail)
                go_wp2_with fail
                go_ret
                exact ⟨by rw [HFx.out]; rfl, by first | exact below_drewN hB1.out _ | exact hB1.out⟩
            · have HFx := Lib.hid (HBad.out (by rw [HA.out, show inD x2 = false from decide_eq_false d2]; simp))
              have dd : x2 < 0 ∨ 9 < x2 := by omega
              clear d2 HA HBad HP HHere
              go_wp2_with (first | (go_at_call 41; ((with_reducible refine (sin_t _ _ _ _ ?_ ?_).mono ?_)); (omega); (omega); rintro e w' ⟨rfl, rfl⟩) | (go_at_call 41; ((with_reducible refine (sin_f _ _ _ _ ?_).mono ?_)); (omega); rintro e w' ⟨rfl, rfl⟩))
              go_quiet (fail)
              go_wp2_with fail
              go_ret
              exact ⟨by rw [HFx.out]; rfl, by first | exact below_drewN hB1.out _ | exact hB1.out⟩
          · have HFx := Lib.hid (HBad.out (by rw [HA.out, show inD x1 = false from decide_eq_false d1]; simp))
            have dd : x1 < 0 ∨ 9 < x1 := by omega
            clear d1 HA HBad HP HHere
            go_wp2_with (first | (go_at_call 41; ((with_reducible refine (sin_t _ _ _ _ ?_ ?_).mono ?_)); (omega); (omega); rintro e w' ⟨rfl, rfl⟩) | (go_at_call 41; ((with_reducible refine (sin_f _ _ _ _ ?_).mono ?_)); (omega); rintro e w' ⟨rfl, rfl⟩))
            go_quiet (fail)
            go_wp2_with fail
            go_ret
            exact ⟨by rw [HFx.out]; rfl, by first | exact below_drewN hB1.out _ | exact hB1.out⟩
        · have HFx := Lib.hid (HBad.out (by rw [HA.out, show inD x0 = false from decide_eq_false d0]; simp))
          have dd : x0 < 0 ∨ 9 < x0 := by omega
          clear d0 HA HBad HP HHere
          go_wp2_with (first | (go_at_call 41; ((with_reducible refine (sin_t _ _ _ _ ?_ ?_).mono ?_)); (omega); (omega); rintro e w' ⟨rfl, rfl⟩) | (go_at_call 41; ((with_reducible refine (sin_f _ _ _ _ ?_).mono ?_)); (omega); rintro e w' ⟨rfl, rfl⟩))
          go_quiet (fail)
          go_wp2_with fail
          go_ret
          exact ⟨by rw [HFx.out]; rfl, by first | exact below_drewN hB1.out _ | exact hB1.out⟩
      · obtain rfl : k = n := by omega
        have HFx := Lib.hid (HAll.out Hok.out)
        go_wp2_with fail
        go_ret
        exact ⟨by rw [HFx.out]; rfl, hB⟩
  · have HFx := Lib.hid (wrR_no (F := F) (show n < 1 ∨ 9 < n by omega))
    have hn' : (n : Int) < 1 ∨ 9 < (n : Int) := by omega
    clear hcell hF hn
    go_enter Tryz.func42, Tryz.ntmps42
    go_wp2_with (first | (go_at_call 41; ((with_reducible refine (sin_t _ _ _ _ ?_ ?_).mono ?_)); (omega); (omega); rintro e w' ⟨rfl, rfl⟩) | (go_at_call 41; ((with_reducible refine (sin_f _ _ _ _ ?_).mono ?_)); (omega); rintro e w' ⟨rfl, rfl⟩))
    go_ret
    exact ⟨by rw [HFx.out]; rfl, Below.refl _ _⟩
end Go.Proofs.YtfmfjbphflkhiaaGreatDoor
