/- The walks of the program's TakenOf, and of WrongTaken at a right transcript. -/
import Derived.Test.YtfhefngpeknhlabDoorDif
import Derived.Deep.DeepCutAuto
namespace Go.Proofs.YtfhefngpeknhlabDoor
set_option linter.unusedVariables false
set_option linter.unusedSimpArgs false
open Go.RowKit

theorem clipCols (v : Value) (n : Nat) (base : Nat) (xs : List Value) (w : World) (h : Own w base 77 5 v n xs) :
    Calls Tryd.prog 67 #[v] w fun e w' => ∃ v', e = .returned v' ∧ Own w base 77 5 v' n xs ∧ w = w' := by
  obtain ⟨h1, h2⟩ := h
  rcases h2 with ⟨rfl, rfl⟩ | ⟨g, cap, cur, rfl, hb, hg, hnc, hcm, hcs, ht⟩
  · go_enter Tryd.func67, Tryd.ntmps67
    go_wp2_with fail
    go_ret
    exact ⟨_, rfl, ⟨h1, .inl ⟨rfl, rfl⟩⟩, rfl⟩
  · have hcm' := hcm
    unfold maxLen at hcm'
    go_enter Tryd.func67, Tryd.ntmps67
    go_wp2_with fail
    go_ret
    exact ⟨_, rfl, ⟨h1, .inr ⟨g, n, cur, rfl, hb, hg, Nat.le_refl _, by omega, hcs, ht⟩⟩, rfl⟩

set_option maxRecDepth 20000 in
set_option maxHeartbeats 4000000 in
theorem iTakenOf (s t : ByteArray) (hs : s.size ≤ maxLen) (ht : t.size ≤ maxLen) (hk : takB s.data.toList t.data.toList = true) (w : World) :
    Calls Tryd.prog 48 #[.string s, .string t] w fun e w' => ∃ v, e = .returned v ∧ Own w' w.heap.size 77 5 v s.size (recCells 5 (IV (tkF s.data.toList t.data.toList)) s.size) ∧ Below w.heap.size w w' := by
  have HO := Lib.hid fun W => iOrder s t hs ht W
  have hx : 0 ≤ ordI s.data.toList t.data.toList := by simpa [takB] using hk
  have hn := takB_num hk
  have ID1 := Lib.hid fun k W => iDigit s hs hn.1 k W
  have ID2 := Lib.hid fun k W => iDigit t ht hn.2 k W
  have R1 := Lib.hid fun k => dg_range (numB_all hn.1) k
  have R2 := Lib.hid fun k => dg_range (numB_all hn.2) k
  have RB := Lib.hid fun k => tkB_01 hn.1 hn.2 0 k
  have RD := Lib.hid fun k => tkD_range hn.1 hn.2 0 k
  have hl := numB_len hn.1
  rw [str_len] at hl
  obtain ⟨l1, l2⟩ := hl
  obtain ⟨i0, hi, hz0, hz1, hz2⟩ := info_parts infoCol
  have HTF := Lib.hid fun k => recCells5_succ (tkF s.data.toList t.data.toList) k
  have HZ := Lib.hid fun k => tk_zero s.data.toList t.data.toList k
  clear hs ht hk hn
  generalize ordI s.data.toList t.data.toList = x at *
  go_enter Tryd.func48, Tryd.ntmps48
  go_wp2_with fail
  refine (HO.out _).mono ?_
  rintro e w1 ⟨rfl, rfl⟩
  go_wp2_with fail
  go_loopg [5, 6, 7, 8, 15] s.size (fun g s5 s6 s7 s8 s15 wr => ∃ k : Nat, ∃ c : Int, g + k = s.size ∧ s15 = .int .i64 k ∧ s6 = .int .i64 c ∧ Hid (c = tkB s.data.toList t.data.toList 0 k) ∧ wr.ownsRow w.heap.size 77 5 s5 k (recCells 5 (IV (tkF s.data.toList t.data.toList)) k) ∧ Below w.heap.size w wr)
  case atStart => exact ⟨0, 0, rfl, rfl, rfl, Lib.hid rfl, by rw [recCells_zero]; exact World.ownsRow_nil w _ _ _, Below.refl _ _⟩
  case round =>
    obtain ⟨k, c, hk, rfl, rfl, HC, hown, hB⟩ := hrel
    by_cases hlt : k < s.size
    · have ra := R1.out k
      have rb := R2.out k
      have rc := RB.out k
      have rc' := RB.out (k + 1)
      have rd := RD.out k
      rw [← HC.out] at rc
      have hz := HZ.out k
      rw [← HC.out] at hz
      have hT := HTF.out k
      have e0 : tkF s.data.toList t.data.toList k 0 = dg s.data.toList k := rfl
      have e1 : tkF s.data.toList t.data.toList k 1 = dg t.data.toList k := rfl
      have e2 : tkF s.data.toList t.data.toList k 2 = tkB s.data.toList t.data.toList 0 k := rfl
      have e3 : tkF s.data.toList t.data.toList k 3 = tkD s.data.toList t.data.toList 0 k := rfl
      have e4 : tkF s.data.toList t.data.toList k 4 = tkB s.data.toList t.data.toList 0 (k + 1) := rfl
      rw [e0, e1, e2, e3, e4, ← HC.out] at hT
      have HT := Lib.hid hT
      clear hT e0 e1 e2 e3 e4
      go_wp2_with fail
      refine (ID1.out k _).mono ?_
      rintro e w' ⟨rfl, rfl⟩
      go_wp2_with fail
      refine (ID2.out k _).mono ?_
      rintro e w' ⟨rfl, rfl⟩
      generalize dg s.data.toList k = a at *
      generalize dg t.data.toList k = b at *
      generalize tkD s.data.toList t.data.toList 0 k = d at *
      generalize hc2 : tkB s.data.toList t.data.toList 0 (k + 1) = c2 at *
      have HC2 := Lib.hid hc2
      obtain ⟨a0, a9⟩ := ra
      obtain ⟨b0, b9⟩ := rb
      obtain ⟨d0, d9⟩ := rd
      have HOwn := Lib.hid hown
      have HBel := Lib.hid hB
      clear hown hB hc2
      by_cases hneg : a - b - c < 0
      · have hcc : c2 = 1 := by omega
        have hdd : d = a - b - c + 10 := by omega
        subst hcc hdd
        clear hz rc'
        have hc0 : 0 ≤ c := by omega
        have hc1 : c ≤ 1 := by omega
        clear rc
        go_wp2_with (at_builtin; refine wpList_append_own _ rfl _ _ 63 rfl w.heap.size 77 i0 _ 5 40 Tryd.underlying63 hi hz0 hz1 hz2 rfl (by decide) _ _ _ rfl ((HOwn.out.alloc _).alloc _) ⟨wr.heap.size + 1, 0, none⟩ 1 1 [.int .i64 a, .int .i64 b, .int .i64 c, .int .i64 (a - b - c + 10), .int .i64 1] rfl rfl (cells_at _ _ _ _ _ (by simp) rfl) (by simp [Value.oneCell']) (by unfold maxLen; omega) (by omega) (by have := HBel.out.size; simp; omega) ?_; intro v' w2 hown' hgrow _)
        have hB2 := ((HBel.out.alloc HBel.out.size (.cells #[.int .i64 a, .int .i64 b, .int .i64 c, .int .i64 (a - b - c + 10), .int .i64 1] 77)).alloc (by have := HBel.out.size; simp; omega) (.cells #[.int .i64 a, .int .i64 b, .int .i64 c, .int .i64 (a - b - c + 10), .int .i64 1] 77)).grown hgrow (by have := HBel.out.size; simp; omega) (fun j hj => (HOwn.out.lt j hj).1)
        go_roundg (gk - 1)
        case measure => omega
        case rel => exact ⟨k + 1, 1, by omega, by go_num, rfl, Lib.hid HC2.out.symm, by rw [HT.out]; exact hown', hB2⟩
      · have hcc : c2 = 0 := by omega
        have hdd : d = a - b - c := by omega
        subst hcc hdd
        have hneg' : 0 ≤ a - b - c := by omega
        have hc0 : 0 ≤ c := by omega
        have hc1 : c ≤ 1 := by omega
        clear hz rc' rc hneg
        go_wp2_with (at_builtin; refine wpList_append_own _ rfl _ _ 63 rfl w.heap.size 77 i0 _ 5 40 Tryd.underlying63 hi hz0 hz1 hz2 rfl (by decide) _ _ _ rfl ((HOwn.out.alloc _).alloc _) ⟨wr.heap.size + 1, 0, none⟩ 1 1 [.int .i64 a, .int .i64 b, .int .i64 c, .int .i64 (a - b - c), .int .i64 0] rfl rfl (cells_at _ _ _ _ _ (by simp) rfl) (by simp [Value.oneCell']) (by unfold maxLen; omega) (by omega) (by have := HBel.out.size; simp; omega) ?_; intro v' w2 hown' hgrow _)
        have hB2 := ((HBel.out.alloc HBel.out.size (.cells #[.int .i64 a, .int .i64 b, .int .i64 c, .int .i64 (a - b - c), .int .i64 0] 77)).alloc (by have := HBel.out.size; simp; omega) (.cells #[.int .i64 a, .int .i64 b, .int .i64 c, .int .i64 (a - b - c), .int .i64 0] 77)).grown hgrow (by have := HBel.out.size; simp; omega) (fun j hj => (HOwn.out.lt j hj).1)
        go_roundg (gk - 1)
        case measure => omega
        case rel => exact ⟨k + 1, 0, by omega, by go_num, rfl, Lib.hid HC2.out.symm, by rw [HT.out]; exact hown', hB2⟩
    · obtain rfl : k = s.size := by omega
      go_wp2_with fail
      refine (clipCols _ _ _ _ _ (Own.of_row hown)).mono ?_
      rintro e w2 ⟨v', rfl, ho', rfl⟩
      go_wp2_with fail
      go_ret
      exact ⟨_, rfl, ho', hB⟩

theorem isDig (n : Int) (w : World) (h0 : 0 ≤ n) (h1 : n ≤ 9) : Calls Tryd.prog 88 #[.int .i64 n] w fun e w' => e = .returned (.bool true) ∧ w = w' := by
  go_enter Tryd.func88, Tryd.ntmps88
  go_wp2_with (first | (go_at_call 49; ((with_reducible refine (in_t _ _ _ _ ?_ ?_).mono ?_)); (omega); (omega); rintro e w' ⟨rfl, rfl⟩))
  go_ret
  exact ⟨rfl, rfl⟩
set_option maxRecDepth 20000 in
set_option maxHeartbeats 2000000 in
theorem single_t (a b c d e0 : Int) (w : World) (ha : 0 ≤ a ∧ a ≤ 9) (hb : 0 ≤ b ∧ b ≤ 9) (hc : 0 ≤ c ∧ c ≤ 1) (hd : 0 ≤ d ∧ d ≤ 9) (he : 0 ≤ e0 ∧ e0 ≤ 1) :
    Calls Tryd.prog 78 #[.agg #[.int .i64 a, .int .i64 b, .int .i64 c, .int .i64 d, .int .i64 e0]] w fun e w' => e = .returned (.bool true) ∧ Below w.heap.size w w' := by
  obtain ⟨a0, a1⟩ := ha
  obtain ⟨b0, b1⟩ := hb
  obtain ⟨c0, c1⟩ := hc
  obtain ⟨d0, d1⟩ := hd
  obtain ⟨f0, f1⟩ := he
  go_enter Tryd.func78, Tryd.ntmps78
  go_wp2_with (first | (go_at_call 88; ((with_reducible refine (isDig _ _ ?_ ?_).mono ?_)); (omega); (omega); rintro e w' ⟨rfl, rfl⟩) | (go_at_call 49; ((with_reducible refine (in_t _ _ _ _ ?_ ?_).mono ?_)); (omega); (omega); rintro e w' ⟨rfl, rfl⟩))
  go_ret
  exact ⟨rfl, (Below.refl _ _).alloc (Nat.le_refl _) _⟩
set_option maxRecDepth 20000 in
set_option maxHeartbeats 2000000 in
theorem wt_cl (a b c d e0 : Int) (w : World) (ha : 0 ≤ a ∧ a ≤ 9) (hb : 0 ≤ b ∧ b ≤ 9) (hc : 0 ≤ c ∧ c ≤ 1) (hd : 0 ≤ d ∧ d ≤ 9) (he : 0 ≤ e0 ∧ e0 ≤ 1) (h : a + 10 * e0 = b + c + d) :
    Calls Tryd.prog 77 #[.agg #[.int .i64 a, .int .i64 b, .int .i64 c, .int .i64 d, .int .i64 e0]] w fun e w' => e = .returned (.bool true) ∧ Below w.heap.size w w' := by
  have HSg := Lib.hid fun W => single_t a b c d e0 W ha hb hc hd he
  obtain ⟨a0, a1⟩ := ha
  obtain ⟨b0, b1⟩ := hb
  obtain ⟨c0, c1⟩ := hc
  obtain ⟨d0, d1⟩ := hd
  obtain ⟨f0, f1⟩ := he
  have ht : (a + 10 * e0 == b + c + d) = true := by rw [beq_iff_eq]; exact h
  have hbel := (Below.refl w.heap.size w).alloc (Nat.le_refl _) (.cells #[.int .i64 a, .int .i64 b, .int .i64 c, .int .i64 d, .int .i64 e0] 77)
  clear h
  go_enter Tryd.func77, Tryd.ntmps77
  go_wp2_with fail
  refine (HSg.out _).mono ?_
  rintro e w2 ⟨rfl, b2⟩
  have hB2 := below_own hbel b2 hbel.size
  have hnew : ∀ j u, (#[Value.int .i64 a, .int .i64 b, .int .i64 c, .int .i64 d, .int .i64 e0])[j]? = some u → w2.cell? ⟨w.heap.size, j, none⟩ = some u := fun j u hj => by
    rw [b2.cell (p := ⟨w.heap.size, j, none⟩) (by simp), World.cell?_alloc_mark, hj]
  have g0 := hnew 0 _ rfl
  have g1 := hnew 1 _ rfl
  have g2 := hnew 2 _ rfl
  have g3 := hnew 3 _ rfl
  have g4 := hnew 4 _ rfl
  clear hnew b2 hbel
  go_wp2_with fail
  go_ret
  exact ⟨rfl, hB2⟩

set_option maxRecDepth 20000 in
set_option maxHeartbeats 4000000 in
theorem wrong_ok (w : World) (B : Nat) (v : Value) (n : Nat) (F : Nat → Nat → Int) (hR : Recs w B v n 5 (IV F)) (hBw : B ≤ w.heap.size) (hT : takRight F n) :
    Calls Tryd.prog 76 #[v, .func (.func 77) #[] #[]] w fun e w' => e = .returned (.int .i64 (-1)) ∧ Below w.heap.size w w' := by
  obtain ⟨A, cap, rfl, hnc, hcm, hcell⟩ := hR
  unfold maxLen at hcm
  have Hc := Lib.hid hcell
  have hn9 := hT.1
  have HT := Lib.hid hT
  clear hcell hT
  go_enter Tryd.func76, Tryd.ntmps76
  go_wp2_with fail
  go_loopg [5, 6, 7, 10] n (fun g s5 s6 s7 s10 wr => ∃ k : Nat, ∃ c : Int, g + k = n ∧ s10 = .int .i64 k ∧ s5 = .int .i64 c ∧ Hid (c = cf F k) ∧ Below w.heap.size w wr)
  case atStart => exact ⟨0, 0, rfl, rfl, rfl, Lib.hid rfl, Below.refl _ _⟩
  case round =>
    obtain ⟨k, c, hk, rfl, rfl, HC, hB⟩ := hrel
    by_cases hlt : k < n
    · obtain ⟨b, o, rfl, hb, hc⟩ := Hc.out (by omega)
      have hbw : b < w.heap.size := by omega
      have e0 := (hB.cell (p := ⟨b, o + k * 5, none⟩) hbw).trans (hc k hlt 0 (by omega))
      have e1 := (hB.cell (p := ⟨b, o + k * 5 + 1, none⟩) hbw).trans (hc k hlt 1 (by omega))
      have e2 := (hB.cell (p := ⟨b, o + k * 5 + 2, none⟩) hbw).trans (hc k hlt 2 (by omega))
      have e3 := (hB.cell (p := ⟨b, o + k * 5 + 3, none⟩) hbw).trans (hc k hlt 3 (by omega))
      have e4 := (hB.cell (p := ⟨b, o + k * 5 + 4, none⟩) hbw).trans (hc k hlt 4 (by omega))
      simp only [IV] at e0 e1 e2 e3 e4
      have hin := takRight_in HT.out hlt
      rw [← HC.out] at hin
      rw [hin] at e2
      have hok := HT.out.2.1 k hlt
      unfold colOk at hok
      rw [hin] at hok
      have HN := Lib.hid (show cf F (k + 1) = F k 4 from rfl)
      obtain ⟨h0, h1, h2, h3, h4, h5⟩ := hok
      clear hc hin
      generalize F k 0 = x0 at *
      generalize F k 1 = x1 at *
      generalize F k 3 = x3 at *
      generalize F k 4 = x4 at *
      have hBs := hB.size
      have hB1 := hB.alloc hBs (.cells #[.int .i64 x0, .int .i64 x1, .int .i64 c, .int .i64 x3, .int .i64 x4] 77)
      have HCl := Lib.hid fun W => wt_cl x0 x1 c x3 x4 W h0 h1 h2 h3 h4 h5
      obtain ⟨h40, h41⟩ := h4
      obtain ⟨h20, h21⟩ := h2
      clear h0 h1 h3 h5
      go_wp2_with fail
      refine (HCl.out _).mono ?_
      rintro e w2 ⟨rfl, b2⟩
      have hB2 := below_own hB1 b2 hB1.size
      have hnew : ∀ j u, (#[Value.int .i64 x0, .int .i64 x1, .int .i64 c, .int .i64 x3, .int .i64 x4])[j]? = some u → w2.cell? ⟨wr.heap.size, j, none⟩ = some u := fun j u hj => by
        rw [b2.cell (p := ⟨wr.heap.size, j, none⟩) (by simp), World.cell?_alloc_mark, hj]
      have f4 := hnew 4 _ rfl
      clear hB hB1 hnew b2 e0 e1 e2 e3 e4
      go_wp2_with fail
      go_roundg (gk - 1)
      case measure => omega
      case rel => exact ⟨k + 1, x4, by omega, by go_num, rfl, Lib.hid HN.out.symm, hB2⟩
    · obtain rfl : k = n := by omega
      go_wp2_with fail
      go_ret
      exact ⟨rfl, hB⟩

set_option maxRecDepth 20000 in
set_option maxHeartbeats 2000000 in
theorem iWrongTaken_ok (w : World) (B : Nat) (v : Value) (n : Nat) (F : Nat → Nat → Int) (hR : Recs w B v n 5 (IV F)) (hBw : B ≤ w.heap.size) (hT : takRight F n) :
    Calls Tryd.prog 64 #[v] w fun e w' => e = .returned (.int .i64 (-1)) ∧ Below w.heap.size w w' := by
  have HW := Lib.hid (wrong_ok w B v n F hR hBw hT)
  have hn9 := hT.1
  have hlast := hT.2.2.2.2
  obtain ⟨A, cap, rfl, hnc, hcm, hcell⟩ := hR
  unfold maxLen at hcm
  have Hc := Lib.hid hcell
  clear hcell hT
  by_cases hz : n = 0
  · subst hz
    clear hlast
    go_enter Tryd.func64, Tryd.ntmps64
    go_wp2_with fail
    refine HW.out.mono ?_
    rintro e w1 ⟨rfl, b1⟩
    go_wp2_with fail
    go_ret
    exact ⟨rfl, b1⟩
  · have hz' : 0 < n := by omega
    obtain ⟨b, o, rfl, hb, hc⟩ := Hc.out hz'
    have e4 := hc (n - 1) (by omega) 4 (by omega)
    simp only [IV] at e4
    rw [hlast hz'] at e4
    have hbw : b < w.heap.size := by omega
    have hn1 : (n : Int) - 1 = ((n - 1 : Nat) : Int) := by omega
    have hnn : n - 1 < n := by omega
    clear hc hlast hz
    go_enter Tryd.func64, Tryd.ntmps64
    go_wp2_with fail
    refine HW.out.mono ?_
    rintro e w1 ⟨rfl, b1⟩
    have f4 := (b1.cell (p := ⟨b, o + (n - 1) * 5 + 4, none⟩) hbw).trans e4
    clear e4
    go_wp2_with fail
    go_ret
    exact ⟨rfl, b1⟩
end Go.Proofs.YtfhefngpeknhlabDoor
