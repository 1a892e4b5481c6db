/- The law on WrongStep: with another quotient digit the step is the first wrong one. -/
import Derived.Test.YtjhidenjlkdpeaaDivn
import Derived.Test.YtjhidenjlkdpeaaWStep
import Derived.Test.YtjhidenjlkdpeaaNumW
namespace Go.Proofs.Ytjhidenjlkdpeaa
set_option linter.unusedVariables false
set_option linter.unusedSimpArgs false
open Go.RowKit

theorem draw_WStep (A : Option Addr) (len cap : Nat) (w : World) (hc : CodeIn w A len cap) : Calls Try.prog 42 #[.slice A len cap] w (fun e w' => ∃ v d n F, e = .returned (.tuple #[v, .int .i64 d]) ∧ n ≤ 10 ∧ 0 ≤ d ∧ d ≤ 99 ∧ Own w' w.heap.size 52 4 v n (recCells 4 (IV F) n) ∧ Below w.heap.size w w') := by
  go_enter Try.func42, Try.ntmps42
  go_wp2_with fail
  refine (open_any A len cap _ hc).mono ?_
  rintro e w0 ⟨rfl, hR0, hB0⟩
  go_wp2_with fail
  refine (division_any _ _ _ _ hR0 (by omega) (by omega) (by omega)).mono ?_
  rintro e w1 ⟨v, d, n, F, rfl, hn, hd0, hd1, ho, p', hp', hR', hg⟩
  have hB1 := hB0.grown hg hB0.size (fun k hk => by cases hk; exact Nat.le_refl _)
  have ho' := ho.mono hB0.size
  go_wp2_with fail
  go_ret2
  exact ⟨v, d, n, F, rfl, hn, hd0, hd1, ho', hB1⟩

theorem recs_news {w : World} {n k : Nat} {V : Nat → Nat → Value} (b o : Nat) (hc : ∀ i, i < n → ∀ j, j < k → w.cell? ⟨b, o + i * k + j, none⟩ = some (V i j)) (hk : 0 < k) :
    ∀ j u, (recCells k V n)[j]? = some u → w.cell? ((⟨b, o, none⟩ : Addr).add j) = some u := by
  intro j u hj
  have hjl : j < n * k := by rw [← recCells_length k V n]; exact (List.getElem?_eq_some_iff.1 hj).1
  have hi : j / k < n := (Nat.div_lt_iff_lt_mul hk).2 hjl
  have hm : j % k < k := Nat.mod_lt _ hk
  have e : j = j / k * k + j % k := by have := Nat.div_add_mod j k; rw [Nat.mul_comm] at this; omega
  rw [e, recCells_at hi hm] at hj
  rw [Go.WideShapes.add_plain, e, ← Nat.add_assoc, hc _ hi _ hm]
  exact hj
theorem recs_one (F : Nat → Nat → Int) (n k : Nat) : ∀ u ∈ recCells k (IV F) n, u.oneCell' = true := by
  intro u hu
  simp only [recCells, List.mem_map] at hu
  obtain ⟨m, _, rfl⟩ := hu
  rfl

theorem ws_cases (F : Nat → Nat → Int) (n : Nat) (d : Int) : (wsI F n d = -1 ∧ n ≤ 9 ∧ 1 ≤ d ∧ d ≤ 99 ∧ ∀ j, j < n → stepOk F d j = true) ∨ (wsI F n d ≠ -1 ∧ -2 ≤ wsI F n d ∧ (wsI F n d < n ∨ wsI F n d < 1)) := by
  unfold wsI
  split
  · rename_i h
    rcases firstBad_cases (stepOk F d) n with ⟨h1, h2⟩ | ⟨k, hk, h1, _⟩
    · exact .inl ⟨h1, h.1, h.2.1, h.2.2, h2⟩
    · right; rw [h1]; omega
  · right; omega
theorem ws_upd (F : Nat → Nat → Int) (n : Nat) (d : Int) (hn : n ≤ 9) (h1 : 1 ≤ d) (h2 : d ≤ 99) (h : ∀ j, j < n → stepOk F d j = true) (k : Nat) (hk : k < n) : wsI (updI F k 2 ((F k 2 + 1) % 10)) n d = k := by
  unfold wsI
  rw [if_pos ⟨hn, h1, h2⟩]
  have hl : ∀ i, lf (updI F k 2 ((F k 2 + 1) % 10)) i = lf F i := fun i => by cases i <;> simp [lf, updI]
  refine firstBad_here hk ?_ fun j hj => ?_
  · refine stepOk_false fun hh => ?_
    have h0 := stepOk_iff.1 (h k hk)
    simp [updI] at hh
    have e : (F k 2 + 1) % 10 * d = F k 2 * d := by omega
    have e2 := Int.eq_of_mul_eq_mul_right (by omega : d ≠ 0) e
    omega
  · have h0 := stepOk_iff.1 (h j (by omega))
    have hne : ¬ j = k := by omega
    refine stepOk_iff.2 ?_
    rw [hl]
    simpa [updI, hne] using h0

set_option maxRecDepth 20000 in
set_option maxHeartbeats 4000000 in
/-- The law on WrongStep. -/
theorem law_WrongStep (A : Option Addr) (len cap : Nat) (w : World) (hc : CodeIn w A len cap) :
    Calls Try.prog 13 #[.slice A len cap] w fun e w' => e = .returned (.bool true) ∧ Below w.heap.size w w' := by
  have hlc := hc.1
  have hcm := hc.2.1
  unfold maxLen at hcm
  by_cases hbig : 1048576 < len
  · go_enter Try.func13, Try.ntmps13
    go_wp2_with fail
    go_ret
    exact ⟨rfl, Below.refl _ _⟩
  have hbig' : len ≤ 1048576 := by omega
  clear hbig
  obtain ⟨i0, hi, hz0, hz1, hz2⟩ := info_parts infoStep
  go_enter Try.func13, Try.ntmps13
  go_wp2_with fail
  refine (draw_WStep A len cap _ hc).mono ?_
  rintro e w1 ⟨v, d, n, F, rfl, hn, hd0, hd1, ho, b1⟩
  clear hc
  have hR := Recs.of_own ho
  clear ho
  go_wp2_with fail
  refine (iWrongStep w1 w1.heap.size v n F d hR (Nat.le_refl _)).mono ?_
  rintro e w2 ⟨rfl, b2⟩
  have hR2 := hR.below b2 (Nat.le_refl _)
  go_wp2_with fail
  refine (sWrongStep w2 w1.heap.size v n F d hR2 b2.size).mono ?_
  rintro e w3 ⟨rfl, b3⟩
  have hR3 := hR2.below b3 b2.size
  have hB3 := below_own (below_own b1 b2 b1.size) b3 (by have := b1.size; have := b2.size; omega)
  have hs3 : w1.heap.size ≤ w3.heap.size := by have := b2.size; have := b3.size; omega
  clear hR hR2 b1 b2 b3
  rcases ws_cases F n d with ⟨hw, hn9, h1, h2, hok⟩ | ⟨hw, hw2, hw3⟩
  · have HU := Lib.hid (ws_upd F n d hn9 h1 h2 hok)
    have HI := Lib.hid fun k (hk : k < n) => (stepOk_iff.1 (hok k hk))
    clear hok hn hd0 hd1
    obtain ⟨A', cap', rfl, hnc, hcm', hcell⟩ := hR3
    have Hc := Lib.hid hcell
    clear hcell
    unfold maxLen at hcm'
    go_wp2_with fail
    go_loopg [6, 7] n (fun g s6 s7 wr => ∃ k : Nat, g + k = n ∧ s6 = .int .i64 k ∧ Below w3.heap.size w3 wr)
    case atStart => exact ⟨0, rfl, rfl, Below.refl _ _⟩
    case round =>
      obtain ⟨k, hk, rfl, hB⟩ := hrel
      by_cases hlt : k < n
      · obtain ⟨b, o, rfl, hb, hcell⟩ := Hc.out (by omega)
        have hbw : b < w3.heap.size := by omega
        have hI := HI.out k hlt
        obtain ⟨_, _, f0, f1, _⟩ := hI
        have hBs := hB.size
        have hc4 : ∀ i, i < n → ∀ j, j < 4 → (wr.alloc (.cells #[] 52)).cell? ⟨b, o + i * 4 + j, none⟩ = some (IV F i j) := fun i hi' j hj => by
          rw [World.cell?_alloc_past _ _ _ (by show b < wr.heap.size; omega)]
          exact (hB.cell (p := ⟨b, o + i * 4 + j, none⟩) hbw).trans (hcell i hi' j hj)
        have HN := Lib.hid (recs_news b o hc4 (by decide))
        have hown0 := owns_new wr w3.heap.size 52 4 0 #[] hBs (by decide) rfl
        have HC2 := Lib.hid fun i hi' j hj => (hB.cell (p := ⟨b, o + i * 4 + j, none⟩) hbw).trans (hcell i hi' j hj)
        clear hc4 hcell
        go_upto_region 13 with (at_builtin; refine wpList_append_own _ rfl _ _ 40 rfl w3.heap.size 52 i0 _ 4 32 Try.underlying40 hi hz0 hz1 hz2 rfl (by decide) _ _ _ rfl hown0 ⟨b, o, none⟩ n cap' (recCells 4 (IV F) n) rfl (recCells_length _ _ _) HN.out (recs_one F n 4) (by unfold maxLen; omega) (by omega) (by simp; omega) ?_; intro v' w4 hown' hgrow _)
        have hB4 := (hB.alloc hBs (.cells #[] 52)).grown hgrow (by simp; omega) (fun j hj => by cases hj; exact hBs)
        have e2 := (hgrow.cell_far ⟨b, o + k * 4 + 2, none⟩ (by simp; omega) (fun e => absurd (Option.some.inj e : b = wr.heap.size) (by omega))).trans ((World.cell?_alloc_past _ _ _ (by show b < wr.heap.size; omega)).trans (HC2.out k hlt 2 (by decide)))
        have hown4 : Own w4 w3.heap.size 52 4 v' n (recCells 4 (IV F) n) := by simpa using Own.of_row hown'
        clear hown' hgrow hB hown0
        obtain ⟨g, capn, rfl, hnc', hcm2, hgb, hgl, hcell, hfz⟩ := hown4.at_ (by omega)
        have zz := hfz (k * 4 + 2)
        simp only [IV] at e2
        have HO := Lib.hid (recs_set hown4 hlt (show 2 < 4 by decide) (.int .i64 ((F k 2 + 1) % 10)))
        rw [upd_IV] at HO
        have HUk := Lib.hid (HU.out k hlt)
        have e2' : w4.cell? ⟨g, k * 4 + 2, none⟩ = some (.int .i64 (F k 2)) := hcell _ _ (recCells_at (k := 4) (V := IV F) hlt (show 2 < 4 by decide))
        unfold maxLen at hcm2
        clear hcell hfz hown4
        go_wp2_with fail
        refine (iWrongStep _ _ _ n _ d (Recs.of_own HO.out) (Nat.le_refl _)).mono ?_
        rw [HUk.out]
        rintro e w5 ⟨rfl, b5⟩
        have hB5 := below_own (hB4.setCell (p := ⟨g, k * 4 + 2, none⟩) hgb (.int .i64 ((F k 2 + 1) % 10))) b5 (by have := hB4.size; simp [World.setCell]; omega)
        clear hB4 b5
        go_wp2_with fail
        go_roundg (gk - 1)
        case measure => omega
        case rel => exact ⟨k + 1, by omega, by go_num, hB5⟩
      · obtain rfl : k = n := by omega
        go_wp2_with fail
        go_ret
        exact ⟨rfl, below_own hB3 hB hB3.size⟩
  · obtain ⟨A', cap', rfl, hnc, hcm', hcell⟩ := hR3
    unfold maxLen at hcm'
    clear hcell
    generalize wsI F n d = x at *
    have hw' : (x != -1) = true := by simpa using hw
    clear hw
    go_wp2_with (go_at_call 28; refine (alive_any _).mono ?_; rintro e w' ⟨rfl, rfl⟩)
    all_goals (go_ret; exact ⟨rfl, hB3⟩)
end Go.Proofs.Ytjhidenjlkdpeaa
