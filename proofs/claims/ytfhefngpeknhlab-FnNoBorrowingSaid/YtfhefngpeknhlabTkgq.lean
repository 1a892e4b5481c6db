/- The walks of the program's TakenOf, and of WrongTaken at a right transcript. -/
import Derived.Test.YtfhefngpeknhlabDifq
import Derived.Deep.DeepCutAuto
namespace Go.Proofs.Ytfhefngpeknhlab
set_option linter.unusedVariables false
set_option linter.unusedSimpArgs false
open Go.RowKit

theorem clipCols (v : Value) (n : Nat) (base : Nat) (xs : List Value) (w : World) (h : Own w base 46 5 v n xs) :
    Calls Try.prog 28 #[v] w fun e w' => ∃ v', e = .returned v' ∧ Own w base 46 5 v' n xs ∧ w = w' := by
  obtain ⟨h1, h2⟩ := h
  rcases h2 with ⟨rfl, rfl⟩ | ⟨g, cap, cur, rfl, hb, hg, hnc, hcm, hcs, ht⟩
  · go_enter Try.func28, Try.ntmps28
    go_wp2_with fail
    go_ret
    exact ⟨_, rfl, ⟨h1, .inl ⟨rfl, rfl⟩⟩, rfl⟩
  · have hcm' := hcm
    unfold maxLen at hcm'
    go_enter Try.func28, Try.ntmps28
    go_wp2_with fail
    go_ret
    exact ⟨_, rfl, ⟨h1, .inr ⟨g, n, cur, rfl, hb, hg, Nat.le_refl _, by omega, hcs, ht⟩⟩, rfl⟩

set_option maxRecDepth 20000 in
set_option maxHeartbeats 4000000 in
theorem iTakenOf (s t : ByteArray) (hs : s.size ≤ maxLen) (ht : t.size ≤ maxLen) (hk : takB s.data.toList t.data.toList = true) (w : World) :
    Calls Try.prog 14 #[.string s, .string t] w fun e w' => ∃ v, e = .returned v ∧ Own w' w.heap.size 46 5 v s.size (recCells 5 (IV (tkF s.data.toList t.data.toList)) s.size) ∧ Below w.heap.size w w' := by
  have HO := Lib.hid fun W => iOrder s t hs ht W
  have hx : 0 ≤ ordI s.data.toList t.data.toList := by simpa [takB] using hk
  have hn := takB_num hk
  have ID1 := Lib.hid fun k W => iDigit s hs hn.1 k W
  have ID2 := Lib.hid fun k W => iDigit t ht hn.2 k W
  have R1 := Lib.hid fun k => dg_range (numB_all hn.1) k
  have R2 := Lib.hid fun k => dg_range (numB_all hn.2) k
  have RB := Lib.hid fun k => tkB_01 hn.1 hn.2 0 k
  have RD := Lib.hid fun k => tkD_range hn.1 hn.2 0 k
  have hl := numB_len hn.1
  rw [str_len] at hl
  obtain ⟨l1, l2⟩ := hl
  obtain ⟨i0, hi, hz0, hz1, hz2⟩ := info_parts infoCol
  have HTF := Lib.hid fun k => recCells5_succ (tkF s.data.toList t.data.toList) k
  have HZ := Lib.hid fun k => tk_zero s.data.toList t.data.toList k
  clear hs ht hk hn
  generalize ordI s.data.toList t.data.toList = x at *
  go_enter Try.func14, Try.ntmps14
  go_wp2_with fail
  refine (HO.out _).mono ?_
  rintro e w1 ⟨rfl, rfl⟩
  go_wp2_with fail
  go_loopg [5, 6, 7, 8, 15] s.size (fun g s5 s6 s7 s8 s15 wr => ∃ k : Nat, ∃ c : Int, g + k = s.size ∧ s15 = .int .i64 k ∧ s6 = .int .i64 c ∧ Hid (c = tkB s.data.toList t.data.toList 0 k) ∧ wr.ownsRow w.heap.size 46 5 s5 k (recCells 5 (IV (tkF s.data.toList t.data.toList)) k) ∧ Below w.heap.size w wr)
  case atStart => exact ⟨0, 0, rfl, rfl, rfl, Lib.hid rfl, by rw [recCells_zero]; exact World.ownsRow_nil w _ _ _, Below.refl _ _⟩
  case round =>
    obtain ⟨k, c, hk, rfl, rfl, HC, hown, hB⟩ := hrel
    by_cases hlt : k < s.size
    · have ra := R1.out k
      have rb := R2.out k
      have rc := RB.out k
      have rc' := RB.out (k + 1)
      have rd := RD.out k
      rw [← HC.out] at rc
      have hz := HZ.out k
      rw [← HC.out] at hz
      have hT := HTF.out k
      have e0 : tkF s.data.toList t.data.toList k 0 = dg s.data.toList k := rfl
      have e1 : tkF s.data.toList t.data.toList k 1 = dg t.data.toList k := rfl
      have e2 : tkF s.data.toList t.data.toList k 2 = tkB s.data.toList t.data.toList 0 k := rfl
      have e3 : tkF s.data.toList t.data.toList k 3 = tkD s.data.toList t.data.toList 0 k := rfl
      have e4 : tkF s.data.toList t.data.toList k 4 = tkB s.data.toList t.data.toList 0 (k + 1) := rfl
      rw [e0, e1, e2, e3, e4, ← HC.out] at hT
      have HT := Lib.hid hT
      clear hT e0 e1 e2 e3 e4
      go_wp2_with fail
      refine (ID1.out k _).mono ?_
      rintro e w' ⟨rfl, rfl⟩
      go_wp2_with fail
      refine (ID2.out k _).mono ?_
      rintro e w' ⟨rfl, rfl⟩
      generalize dg s.data.toList k = a at *
      generalize dg t.data.toList k = b at *
      generalize tkD s.data.toList t.data.toList 0 k = d at *
      generalize hc2 : tkB s.data.toList t.data.toList 0 (k + 1) = c2 at *
      have HC2 := Lib.hid hc2
      obtain ⟨a0, a9⟩ := ra
      obtain ⟨b0, b9⟩ := rb
      obtain ⟨d0, d9⟩ := rd
      have HOwn := Lib.hid hown
      have HBel := Lib.hid hB
      clear hown hB hc2
      by_cases hneg : a - b - c < 0
      · have hcc : c2 = 1 := by omega
        have hdd : d = a - b - c + 10 := by omega
        subst hcc hdd
        clear hz rc'
        have hc0 : 0 ≤ c := by omega
        have hc1 : c ≤ 1 := by omega
        clear rc
        go_wp2_with (at_builtin; refine wpList_append_own _ rfl _ _ 33 rfl w.heap.size 46 i0 _ 5 40 Try.underlying33 hi hz0 hz1 hz2 rfl (by decide) _ _ _ rfl ((HOwn.out.alloc _).alloc _) ⟨wr.heap.size + 1, 0, none⟩ 1 1 [.int .i64 a, .int .i64 b, .int .i64 c, .int .i64 (a - b - c + 10), .int .i64 1] rfl rfl (cells_at _ _ _ _ _ (by simp) rfl) (by simp [Value.oneCell']) (by unfold maxLen; omega) (by omega) (by have := HBel.out.size; simp; omega) ?_; intro v' w2 hown' hgrow _)
        have hB2 := ((HBel.out.alloc HBel.out.size (.cells #[.int .i64 a, .int .i64 b, .int .i64 c, .int .i64 (a - b - c + 10), .int .i64 1] 46)).alloc (by have := HBel.out.size; simp; omega) (.cells #[.int .i64 a, .int .i64 b, .int .i64 c, .int .i64 (a - b - c + 10), .int .i64 1] 46)).grown hgrow (by have := HBel.out.size; simp; omega) (fun j hj => (HOwn.out.lt j hj).1)
        go_roundg (gk - 1)
        case measure => omega
        case rel => exact ⟨k + 1, 1, by omega, by go_num, rfl, Lib.hid HC2.out.symm, by rw [HT.out]; exact hown', hB2⟩
      · have hcc : c2 = 0 := by omega
        have hdd : d = a - b - c := by omega
        subst hcc hdd
        have hneg' : 0 ≤ a - b - c := by omega
        have hc0 : 0 ≤ c := by omega
        have hc1 : c ≤ 1 := by omega
        clear hz rc' rc hneg
        go_wp2_with (at_builtin; refine wpList_append_own _ rfl _ _ 33 rfl w.heap.size 46 i0 _ 5 40 Try.underlying33 hi hz0 hz1 hz2 rfl (by decide) _ _ _ rfl ((HOwn.out.alloc _).alloc _) ⟨wr.heap.size + 1, 0, none⟩ 1 1 [.int .i64 a, .int .i64 b, .int .i64 c, .int .i64 (a - b - c), .int .i64 0] rfl rfl (cells_at _ _ _ _ _ (by simp) rfl) (by simp [Value.oneCell']) (by unfold maxLen; omega) (by omega) (by have := HBel.out.size; simp; omega) ?_; intro v' w2 hown' hgrow _)
        have hB2 := ((HBel.out.alloc HBel.out.size (.cells #[.int .i64 a, .int .i64 b, .int .i64 c, .int .i64 (a - b - c), .int .i64 0] 46)).alloc (by have := HBel.out.size; simp; omega) (.cells #[.int .i64 a, .int .i64 b, .int .i64 c, .int .i64 (a - b - c), .int .i64 0] 46)).grown hgrow (by have := HBel.out.size; simp; omega) (fun j hj => (HOwn.out.lt j hj).1)
        go_roundg (gk - 1)
        case measure => omega
        case rel => exact ⟨k + 1, 0, by omega, by go_num, rfl, Lib.hid HC2.out.symm, by rw [HT.out]; exact hown', hB2⟩
    · obtain rfl : k = s.size := by omega
      go_wp2_with fail
      refine (clipCols _ _ _ _ _ (Own.of_row hown)).mono ?_
      rintro e w2 ⟨v', rfl, ho', rfl⟩
      go_wp2_with fail
      go_ret
      exact ⟨_, rfl, ho', hB⟩

theorem isDig (n : Int) (w : World) (h0 : 0 ≤ n) (h1 : n ≤ 9) : Calls Try.prog 44 #[.int .i64 n] w fun e w' => e = .returned (.bool true) ∧ w = w' := by
  go_enter Try.func44, Try.ntmps44
  go_wp2_with (first | (go_at_call 34; ((with_reducible refine (in_t _ _ _ _ ?_ ?_).mono ?_)); (omega); (omega); rintro e w' ⟨rfl, rfl⟩))
  go_ret
  exact ⟨rfl, rfl⟩
set_option maxRecDepth 20000 in
set_option maxHeartbeats 2000000 in
theorem single_t (a b c d e0 : Int) (w : World) (ha : 0 ≤ a ∧ a ≤ 9) (hb : 0 ≤ b ∧ b ≤ 9) (hc : 0 ≤ c ∧ c ≤ 1) (hd : 0 ≤ d ∧ d ≤ 9) (he : 0 ≤ e0 ∧ e0 ≤ 1) :
    Calls Try.prog 39 #[.agg #[.int .i64 a, .int .i64 b, .int .i64 c, .int .i64 d, .int .i64 e0]] w fun e w' => e = .returned (.bool true) ∧ Below w.heap.size w w' := by
  obtain ⟨a0, a1⟩ := ha
  obtain ⟨b0, b1⟩ := hb
  obtain ⟨c0, c1⟩ := hc
  obtain ⟨d0, d1⟩ := hd
  obtain ⟨f0, f1⟩ := he
  go_enter Try.func39, Try.ntmps39
  go_wp2_with (first | (go_at_call 44; ((with_reducible refine (isDig _ _ ?_ ?_).mono ?_)); (omega); (omega); rintro e w' ⟨rfl, rfl⟩) | (go_at_call 34; ((with_reducible refine (in_t _ _ _ _ ?_ ?_).mono ?_)); (omega); (omega); rintro e w' ⟨rfl, rfl⟩))
  go_ret
  exact ⟨rfl, (Below.refl _ _).alloc (Nat.le_refl _) _⟩
set_option maxRecDepth 20000 in
set_option maxHeartbeats 2000000 in
theorem wt_cl (a b c d e0 : Int) (w : World) (ha : 0 ≤ a ∧ a ≤ 9) (hb : 0 ≤ b ∧ b ≤ 9) (hc : 0 ≤ c ∧ c ≤ 1) (hd : 0 ≤ d ∧ d ≤ 9) (he : 0 ≤ e0 ∧ e0 ≤ 1) (h : a + 10 * e0 = b + c + d) :
    Calls Try.prog 38 #[.agg #[.int .i64 a, .int .i64 b, .int .i64 c, .int .i64 d, .int .i64 e0]] w fun e w' => e = .returned (.bool true) ∧ Below w.heap.size w w' := by
  have HSg := Lib.hid fun W => single_t a b c d e0 W ha hb hc hd he
  obtain ⟨a0, a1⟩ := ha
  obtain ⟨b0, b1⟩ := hb
  obtain ⟨c0, c1⟩ := hc
  obtain ⟨d0, d1⟩ := hd
  obtain ⟨f0, f1⟩ := he
  have ht : (a + 10 * e0 == b + c + d) = true := by rw [beq_iff_eq]; exact h
  have hbel := (Below.refl w.heap.size w).alloc (Nat.le_refl _) (.cells #[.int .i64 a, .int .i64 b, .int .i64 c, .int .i64 d, .int .i64 e0] 46)
  clear h
  go_enter Try.func38, Try.ntmps38
  go_wp2_with fail
  refine (HSg.out _).mono ?_
  rintro e w2 ⟨rfl, b2⟩
  have hB2 := below_own hbel b2 hbel.size
  have hnew : ∀ j u, (#[Value.int .i64 a, .int .i64 b, .int .i64 c, .int .i64 d, .int .i64 e0])[j]? = some u → w2.cell? ⟨w.heap.size, j, none⟩ = some u := fun j u hj => by
    rw [b2.cell (p := ⟨w.heap.size, j, none⟩) (by simp), World.cell?_alloc_mark, hj]
  have g0 := hnew 0 _ rfl
  have g1 := hnew 1 _ rfl
  have g2 := hnew 2 _ rfl
  have g3 := hnew 3 _ rfl
  have g4 := hnew 4 _ rfl
  clear hnew b2 hbel
  go_wp2_with fail
  go_ret
  exact ⟨rfl, hB2⟩

set_option maxRecDepth 20000 in
set_option maxHeartbeats 4000000 in
theorem wrong_ok (w : World) (B : Nat) (v : Value) (n : Nat) (F : Nat → Nat → Int) (hR : Recs w B v n 5 (IV F)) (hBw : B ≤ w.heap.size) (hT : takRight F n) :
    Calls Try.prog 37 #[v, .func (.func 38) #[] #[]] w fun e w' => e = .returned (.int .i64 (-1)) ∧ Below w.heap.size w w' := by
  obtain ⟨A, cap, rfl, hnc, hcm, hcell⟩ := hR
  unfold maxLen at hcm
  have Hc := Lib.hid hcell
  have hn9 := hT.1
  have HT := Lib.hid hT
  clear hcell hT
  go_enter Try.func37, Try.ntmps37
  go_wp2_with fail
  go_loopg [5, 6, 7, 10] n (fun g s5 s6 s7 s10 wr => ∃ k : Nat, ∃ c : Int, g + k = n ∧ s10 = .int .i64 k ∧ s5 = .int .i64 c ∧ Hid (c = cf F k) ∧ Below w.heap.size w wr)
  case atStart => exact ⟨0, 0, rfl, rfl, rfl, Lib.hid rfl, Below.refl _ _⟩
  case round =>
    obtain ⟨k, c, hk, rfl, rfl, HC, hB⟩ := hrel
    by_cases hlt : k < n
    · obtain ⟨b, o, rfl, hb, hc⟩ := Hc.out (by omega)
      have hbw : b < w.heap.size := by omega
      have e0 := (hB.cell (p := ⟨b, o + k * 5, none⟩) hbw).trans (hc k hlt 0 (by omega))
      have e1 := (hB.cell (p := ⟨b, o + k * 5 + 1, none⟩) hbw).trans (hc k hlt 1 (by omega))
      have e2 := (hB.cell (p := ⟨b, o + k * 5 + 2, none⟩) hbw).trans (hc k hlt 2 (by omega))
      have e3 := (hB.cell (p := ⟨b, o + k * 5 + 3, none⟩) hbw).trans (hc k hlt 3 (by omega))
      have e4 := (hB.cell (p := ⟨b, o + k * 5 + 4, none⟩) hbw).trans (hc k hlt 4 (by omega))
      simp only [IV] at e0 e1 e2 e3 e4
      have hin := takRight_in HT.out hlt
      rw [← HC.out] at hin
      rw [hin] at e2
      have hok := HT.out.2.1 k hlt
      unfold colOk at hok
      rw [hin] at hok
      have HN := Lib.hid (show cf F (k + 1) = F k 4 from rfl)
      obtain ⟨h0, h1, h2, h3, h4, h5⟩ := hok
      clear hc hin
      generalize F k 0 = x0 at *
      generalize F k 1 = x1 at *
      generalize F k 3 = x3 at *
      generalize F k 4 = x4 at *
      have hBs := hB.size
      have hB1 := hB.alloc hBs (.cells #[.int .i64 x0, .int .i64 x1, .int .i64 c, .int .i64 x3, .int .i64 x4] 46)
      have HCl := Lib.hid fun W => wt_cl x0 x1 c x3 x4 W h0 h1 h2 h3 h4 h5
      obtain ⟨h40, h41⟩ := h4
      obtain ⟨h20, h21⟩ := h2
      clear h0 h1 h3 h5
      go_wp2_with fail
      refine (HCl.out _).mono ?_
      rintro e w2 ⟨rfl, b2⟩
      have hB2 := below_own hB1 b2 hB1.size
      have hnew : ∀ j u, (#[Value.int .i64 x0, .int .i64 x1, .int .i64 c, .int .i64 x3, .int .i64 x4])[j]? = some u → w2.cell? ⟨wr.heap.size, j, none⟩ = some u := fun j u hj => by
        rw [b2.cell (p := ⟨wr.heap.size, j, none⟩) (by simp), World.cell?_alloc_mark, hj]
      have f4 := hnew 4 _ rfl
      clear hB hB1 hnew b2 e0 e1 e2 e3 e4
      go_wp2_with fail
      go_roundg (gk - 1)
      case measure => omega
      case rel => exact ⟨k + 1, x4, by omega, by go_num, rfl, Lib.hid HN.out.symm, hB2⟩
    · obtain rfl : k = n := by omega
      go_wp2_with fail
      go_ret
      exact ⟨rfl, hB⟩

set_option maxRecDepth 20000 in
set_option maxHeartbeats 2000000 in
theorem iWrongTaken_ok (w : World) (B : Nat) (v : Value) (n : Nat) (F : Nat → Nat → Int) (hR : Recs w B v n 5 (IV F)) (hBw : B ≤ w.heap.size) (hT : takRight F n) :
    Calls Try.prog 25 #[v] w fun e w' => e = .returned (.int .i64 (-1)) ∧ Below w.heap.size w w' := by
  have HW := Lib.hid (wrong_ok w B v n F hR hBw hT)
  have hn9 := hT.1
  have hlast := hT.2.2.2.2
  obtain ⟨A, cap, rfl, hnc, hcm, hcell⟩ := hR
  unfold maxLen at hcm
  have Hc := Lib.hid hcell
  clear hcell hT
  by_cases hz : n = 0
  · subst hz
    clear hlast
    go_enter Try.func25, Try.ntmps25
    go_wp2_with fail
    refine HW.out.mono ?_
    rintro e w1 ⟨rfl, b1⟩
    go_wp2_with fail
    go_ret
    exact ⟨rfl, b1⟩
  · have hz' : 0 < n := by omega
    obtain ⟨b, o, rfl, hb, hc⟩ := Hc.out hz'
    have e4 := hc (n - 1) (by omega) 4 (by omega)
    simp only [IV] at e4
    rw [hlast hz'] at e4
    have hbw : b < w.heap.size := by omega
    have hn1 : (n : Int) - 1 = ((n - 1 : Nat) : Int) := by omega
    have hnn : n - 1 < n := by omega
    clear hc hlast hz
    go_enter Try.func25, Try.ntmps25
    go_wp2_with fail
    refine HW.out.mono ?_
    rintro e w1 ⟨rfl, b1⟩
    have f4 := (b1.cell (p := ⟨b, o + (n - 1) * 5 + 4, none⟩) hbw).trans e4
    clear e4
    go_wp2_with fail
    go_ret
    exact ⟨rfl, b1⟩
/-- What is borrowed in all. -/
def sumO (F : Nat → Nat → Int) : Nat → Int
  | 0 => 0
  | k + 1 => sumO F k + F k 4
theorem sumO_range {F : Nat → Nat → Int} {n : Nat} (h : ∀ i, i < n → 0 ≤ F i 4 ∧ F i 4 ≤ 1) (k : Nat) (hk : k ≤ n) : 0 ≤ sumO F k ∧ sumO F k ≤ k := by
  induction k with
  | zero => exact ⟨Int.le_refl 0, Int.le_refl 0⟩
  | succ k ih =>
    have h1 := ih (by omega)
    have h2 := h k (by omega)
    show 0 ≤ sumO F k + F k 4 ∧ sumO F k + F k 4 ≤ ((k + 1 : Nat) : Int)
    omega
set_option maxRecDepth 20000 in
set_option maxHeartbeats 2000000 in
theorem outs_any (w : World) (B : Nat) (v : Value) (n : Nat) (F : Nat → Nat → Int) (hR : Recs w B v n 5 (IV F)) (hBw : B ≤ w.heap.size) (h9 : n ≤ 9) (h : ∀ i, i < n → 0 ≤ F i 4 ∧ F i 4 ≤ 1) :
    Calls Try.prog 26 #[v] w fun e w' => e = .returned (.int .i64 (sumO F n)) ∧ Below w.heap.size w w' := by
  obtain ⟨A, cap, rfl, hnc, hcm, hcell⟩ := hR
  unfold maxLen at hcm
  have Hc := Lib.hid hcell
  have HS := Lib.hid fun k hk => sumO_range h k hk
  have HF := Lib.hid h
  clear hcell h
  go_enter Try.func26, Try.ntmps26
  go_wp2_with fail
  go_loopg [3, 5, 8] n (fun g s3 s5 s8 wr => ∃ k : Nat, g + k = n ∧ s8 = .int .i64 k ∧ s3 = .int .i64 (sumO F k) ∧ Below w.heap.size w wr)
  case atStart => exact ⟨0, rfl, rfl, rfl, Below.refl _ _⟩
  case round =>
    obtain ⟨k, hk, rfl, rfl, hB⟩ := hrel
    by_cases hlt : k < n
    · obtain ⟨b, o, rfl, hb, hc⟩ := Hc.out (by omega)
      have hbw : b < w.heap.size := by omega
      have e0 := (hB.cell (p := ⟨b, o + k * 5, none⟩) hbw).trans (hc k hlt 0 (by omega))
      have e1 := (hB.cell (p := ⟨b, o + k * 5 + 1, none⟩) hbw).trans (hc k hlt 1 (by omega))
      have e2 := (hB.cell (p := ⟨b, o + k * 5 + 2, none⟩) hbw).trans (hc k hlt 2 (by omega))
      have e3 := (hB.cell (p := ⟨b, o + k * 5 + 3, none⟩) hbw).trans (hc k hlt 3 (by omega))
      have e4 := (hB.cell (p := ⟨b, o + k * 5 + 4, none⟩) hbw).trans (hc k hlt 4 (by omega))
      simp only [IV] at e0 e1 e2 e3 e4
      obtain ⟨s0, s1⟩ := HS.out k (by omega)
      obtain ⟨f0, f1⟩ := HF.out k hlt
      have HN := Lib.hid (show sumO F (k + 1) = sumO F k + F k 4 from rfl)
      clear hc
      generalize sumO F k = y at *
      generalize F k 0 = x0 at *
      generalize F k 1 = x1 at *
      generalize F k 2 = x2 at *
      generalize F k 3 = x3 at *
      generalize F k 4 = x4 at *
      have hB1 := hB.alloc hB.size (.cells #[.int .i64 x0, .int .i64 x1, .int .i64 x2, .int .i64 x3, .int .i64 x4] 46)
      clear hB
      go_wp2_with fail
      go_roundg (gk - 1)
      case measure => omega
      case rel => exact ⟨k + 1, by omega, by go_num, by rw [HN.out], hB1⟩
    · obtain rfl : k = n := by omega
      go_wp2_with fail
      go_ret
      exact ⟨rfl, hB⟩
theorem iBorrows (w : World) (B : Nat) (v : Value) (n : Nat) (F : Nat → Nat → Int) (hR : Recs w B v n 5 (IV F)) (hBw : B ≤ w.heap.size) (hT : takRight F n) :
    Calls Try.prog 13 #[v] w fun e w' => e = .returned (.int .i64 (sumO F n)) ∧ Below w.heap.size w w' := by
  have HW := Lib.hid (iWrongTaken_ok w B v n F hR hBw hT)
  have HO := Lib.hid fun W hRw hBW => outs_any W B v n F hRw hBW hT.1 (fun i hi => (hT.2.1 i hi).2.2.2.2.1)
  have HR := Lib.hid hR
  clear hR hT
  go_enter Try.func13, Try.ntmps13
  go_wp2_with fail
  refine HW.out.mono ?_
  rintro e w1 ⟨rfl, b1⟩
  have hR1 := HR.out.below b1 hBw
  go_wp2_with fail
  refine (HO.out _ hR1 (by have := b1.size; omega)).mono ?_
  rintro e w2 ⟨rfl, b2⟩
  go_wp2_with fail
  go_ret
  exact ⟨rfl, below_own b1 b2 b1.size⟩
end Go.Proofs.Ytfhefngpeknhlab
