/- The walks of AnswersTo, of the program and of the reference; its exact law. -/
import Derived.Test.YtfhefngpeknhlabDoorTkw
import Derived.Test.YtfhefngpeknhlabDoorStrS
namespace Go.Proofs.YtfhefngpeknhlabDoor
set_option linter.unusedVariables false
set_option linter.unusedSimpArgs false
open Go.RowKit

def ansN (s t : List UInt8) : Nat := if takB s t = true then 16 else 0
def ansF (s t : List UInt8) : Nat → ByteArray := fun i => tkS s t i
/-- What is handed back: a row of the call's own that reads as the texts. -/
def TextsPost (n : Nat) (f : Nat → ByteArray) (w : World) (e : Ending) (w' : World) : Prop := ∃ v, e = .returned v ∧ Own w' w.heap.size 9 1 v n (rowV (TV f) n) ∧ Below w.heap.size w w'
theorem zeroCells_texts (n : Nat) : (madeCells (Value.string ByteArray.empty).cells (n * 1)).toList = rowV (fun _ => .string ByteArray.empty) n := by
  apply List.ext_getElem?
  intro i
  simp only [madeCells, Value.cells, rowV]
  by_cases h : i < n
  · simp [h, Nat.mod_one]
  · simp [h]

set_option maxRecDepth 20000 in
set_option maxHeartbeats 2000000 in
theorem iAnswers (s t : ByteArray) (hs : s.size ≤ maxLen) (ht : t.size ≤ maxLen) (w : World) :
    Calls Tryd.prog 8 #[.string s, .string t] w (TextsPost (ansN s.data.toList t.data.toList) (ansF s.data.toList t.data.toList) w) := by
  have HT := Lib.hid fun W => takes_any s t hs ht W
  cases hk : takB s.data.toList t.data.toList with
  | false =>
    have e0 : ansN s.data.toList t.data.toList = 0 := by simp [ansN, hk]
    rw [e0]
    rw [hk] at HT
    clear hk hs ht e0
    go_enter Tryd.func8, Tryd.ntmps8
    go_wp2_with fail
    refine (HT.out _).mono ?_
    rintro e w1 ⟨rfl, rfl⟩
    go_wp2_with fail
    go_ret
    exact ⟨_, rfl, Own.nil _ _ _ _, Below.refl _ _⟩
  | true =>
    have e0 : ansN s.data.toList t.data.toList = 16 := by simp [ansN, hk]
    rw [e0]
    have hn := takB_num hk
    have HB := Lib.hid fun (k : Nat) (h : k < 16) W => takenBy_any s t k hs ht hn.1 hn.2 (by omega) (by omega) W
    rw [hk] at HT
    obtain ⟨i0, hi, hz0, hz1, hz2⟩ := info_parts infoStr
    clear hk hs ht e0 hn
    have HF := Lib.hid (show ∀ k : Nat, tkS s.data.toList t.data.toList k = ansF s.data.toList t.data.toList k from fun _ => rfl)
    generalize ansF s.data.toList t.data.toList = f at *
    go_enter Tryd.func8, Tryd.ntmps8
    go_wp2_with fail
    refine (HT.out _).mono ?_
    rintro e w1 ⟨rfl, rfl⟩
    go_wp2_with (first | (at_make; refine wpList_make_full _ rfl _ _ 25 rfl w.heap.size 9 i0 _ 1 Tryd.underlying25 hi hz0 hz1 _ _ _ _ 16 rfl rfl rfl rfl (by rw [hz2]; omega) (by unfold maxLen; omega) (Nat.le_refl _) ?_; intro w1 hown1 hgr1))
    rw [zeroCells_texts] at hown1
    have hown0 : Own w1 w.heap.size 9 1 (.slice (some ⟨w.heap.size, 0, none⟩) 16 16) 16 (rowV (mixV (TV f) (fun _ => .string ByteArray.empty) 0) 16) := by rw [mixV_zero]; exact Own.of_row hown1
    have hB0 : Below w.heap.size w w1 := (Below.refl _ _).grown hgr1 (Nat.le_refl _) (fun k h => by cases h)
    clear hown1 hgr1
    go_loopg [6, 14] 16 (fun g s6 s14 wr => ∃ k : Nat, g + k = 16 ∧ s14 = .int .i64 k ∧ Own wr w.heap.size 9 1 (.slice (some ⟨w.heap.size, 0, none⟩) 16 16) 16 (rowV (mixV (TV f) (fun _ => .string ByteArray.empty) k) 16) ∧ Below w.heap.size w wr)
    case atStart => exact ⟨0, rfl, rfl, hown0, hB0⟩
    case round =>
      obtain ⟨k, hk, rfl, hown, hB⟩ := hrel
      by_cases hlt : k < 16
      · go_wp2_with fail
        refine (HB.out k hlt _).mono ?_
        rw [HF.out]
        rintro e w2 ⟨rfl, b2⟩
        have hown2 := hown.below b2
        have hB2 := below_own hB b2 hB.size
        obtain ⟨g', cap', hv, _, _, _, _, hcell, hfz⟩ := hown2.at_ (by omega)
        cases hv
        have e1 := hcell k _ (rowV_at _ hlt)
        have e2 := hfz k
        have HO := Lib.hid (show Own (w2.setCell ⟨w.heap.size, k, none⟩ (.string (f k))) w.heap.size 9 1 (.slice (some ⟨w.heap.size, 0, none⟩) 16 16) 16 (rowV (mixV (TV f) (fun _ => .string ByteArray.empty) (k + 1)) 16) by rw [← mixV_set (TV f) _ hlt]; exact hown2.set_ k (by omega) _)
        clear hcell hfz hown hB b2 hown2
        generalize f k = x at *
        go_wp2_with fail
        go_roundg (gk - 1)
        case measure => omega
        case rel => exact ⟨k + 1, by omega, by go_num, HO.out, hB2.setCell (p := ⟨w.heap.size, k, none⟩) (Nat.le_refl _) _⟩
      · obtain rfl : k = 16 := by omega
        go_wp2_with fail
        go_ret
        exact ⟨_, rfl, by rw [mixV_all] at hown; exact hown, hB⟩

set_option maxRecDepth 20000 in
set_option maxHeartbeats 2000000 in
theorem sAnswers (s t : ByteArray) (hs : s.size ≤ maxLen) (ht : t.size ≤ maxLen) (w : World) :
    Calls Tryd.prog 10 #[.string s, .string t] w (TextsPost (ansN s.data.toList t.data.toList) (ansF s.data.toList t.data.toList) w) := by
  have HT := Lib.hid fun (k : Nat) W => sTakenBy s t k hs ht W
  obtain ⟨i0, hi, hz0, hz1, hz2⟩ := info_parts infoStr
  have hbel := (Below.refl w.heap.size w).alloc (Nat.le_refl _) (.cells #[] 9)
  cases hk : takB s.data.toList t.data.toList with
  | false =>
    have e0 : ansN s.data.toList t.data.toList = 0 := by simp [ansN, hk]
    rw [e0]
    have H0 := Lib.hid (HT.out 0)
    have hp : pairB s.data.toList t.data.toList ((0 : Nat) : Int) = false := by simp [pairB, hk]
    rw [hp] at H0
    clear hk hs ht e0 hp HT
    go_enter Tryd.func10, Tryd.ntmps10
    go_wp2_with fail
    refine wp_loop_rounds 1 ?_
    rw [rounds_succ]
    go_wp2_with fail
    refine (H0.out _).mono ?_
    rintro e w1 ⟨rfl, b1⟩
    have hB1 := below_own hbel b1 hbel.size
    go_wp2_with fail
    go_ret
    exact ⟨_, rfl, Own.of_row (owns_new w1 w.heap.size 9 1 0 #[] hB1.size (by decide) rfl), hB1.alloc hB1.size _⟩
  | true =>
    have e0 : ansN s.data.toList t.data.toList = 16 := by simp [ansN, hk]
    rw [e0]
    have HP := Lib.hid (show ∀ k : Nat, k < 16 → pkS s.data.toList t.data.toList k = ansF s.data.toList t.data.toList k ∧ pairB s.data.toList t.data.toList k = true from fun k h => by
      have : pairB s.data.toList t.data.toList k = true := by
        have h1 : (0 : Int) ≤ k ∧ (k : Int) ≤ 15 := by omega
        simp [pairB, hk, h1]
      exact ⟨by unfold pkS; rw [this]; rfl, this⟩)
    clear hk hs ht e0
    generalize ansF s.data.toList t.data.toList = f at *
    go_enter Tryd.func10, Tryd.ntmps10
    go_wp2_with fail
    go_loopg [5, 6, 7, 8] 16 (fun g s5 s6 s7 s8 wr => ∃ k : Nat, g + k = 16 ∧ s6 = .int .i64 k ∧ wr.ownsRow w.heap.size 9 1 s5 k (rowV (TV f) k) ∧ Below w.heap.size w wr)
    case atStart => exact ⟨0, rfl, rfl, owns_new w w.heap.size 9 1 0 #[] (Nat.le_refl _) (by decide) rfl, hbel⟩
    case round =>
      obtain ⟨k, hk, rfl, hown, hB⟩ := hrel
      by_cases hlt : k < 16
      · have hp := HP.out k hlt
        have HK := Lib.hid (HT.out k)
        rw [hp.1, hp.2] at HK
        have HS := Lib.hid (rowV_succ (TV f) k)
        clear hp
        go_wp2_with fail
        refine (HK.out _).mono ?_
        rintro e w1 ⟨rfl, b1⟩
        have hown1 := own_below hown b1
        have hB1 := below_own hB b1 hB.size
        clear hown hB b1
        go_wp2_with (at_builtin; refine wpList_append_own _ rfl _ _ 25 rfl w.heap.size 9 i0 _ 1 16 Tryd.underlying25 hi hz0 hz1 hz2 rfl (by decide) _ _ _ rfl (hown1.alloc _) ⟨w1.heap.size, 0, none⟩ 1 1 [.string (f k)] rfl rfl (cell_one_new _ _ _) (by simp [Value.oneCell']) (by unfold maxLen; omega) (by omega) (by have := hB1.size; simp; omega) ?_; intro v' w2 hown' hgrow _)
        have hB2 := (hB1.alloc hB1.size (.cells #[.string (f k)] 9)).grown hgrow (by have := hB1.size; simp; omega) (fun j hj => (hown1.lt j hj).1)
        go_roundg (gk - 1)
        case measure => omega
        case rel => exact ⟨k + 1, by omega, by go_num, by rw [HS.out]; exact hown', hB2⟩
      · obtain rfl : k = 16 := by omega
        go_wp2_with fail
        go_ret
        exact ⟨_, rfl, Own.of_row hown, hB⟩

end Go.Proofs.YtfhefngpeknhlabDoor
