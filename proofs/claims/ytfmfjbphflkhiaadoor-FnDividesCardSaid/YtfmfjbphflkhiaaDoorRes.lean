/- The walks of ResultOf and DividendOf, of the program and of the reference. -/
import Derived.Test.YtfmfjbphflkhiaaDoorPlain
import Derived.Test.YtfmfjbphflkhiaaDoorWStep
import Derived.Test.YtfmfjbphflkhiaaDoorDrw
import Derived.Test.YtfmfjbphflkhiaaDoorStrs
import Derived.BigQuiet
import Derived.Deep.QuietTactic
namespace Go.Proofs.YtfmfjbphflkhiaaDoor
set_option linter.unusedVariables false
set_option linter.unusedSimpArgs false
open Go.RowKit

theorem infoInt2 : (Tryd.prog.info? 3).map (fun i => (i.zero, i.size, i.bytes)) = some (some (.int .i64 0), 1, 8) := by kernel_rfl
/-- A column of a transcript. -/
def colL (F : Nat → Nat → Int) (j n : Nat) : List Int := (List.range n).map fun i => F i j
theorem colL_succ (F : Nat → Nat → Int) (j n : Nat) : colL F j (n + 1) = colL F j n ++ [F n j] := by simp [colL, List.range_succ]
theorem colL_length (F : Nat → Nat → Int) (j n : Nat) : (colL F j n).length = n := by simp [colL]
theorem colL_mem {F : Nat → Nat → Int} {j n : Nat} (h : ∀ i, i < n → 0 ≤ F i j ∧ F i j ≤ 9) : ∀ d ∈ colL F j n, 0 ≤ d ∧ d ≤ 9 := by
  intro d hd
  simp only [colL, List.mem_map, List.mem_range] at hd
  obtain ⟨i, hi, rfl⟩ := hd
  exact h i hi
/-- Is a transcript right, and of at least one step? -/
def rsOk (F : Nat → Nat → Int) (n : Nat) (d : Int) : Bool := decide (n ≠ 0 ∧ wsI F n d = -1)
theorem rsOk_steps {F : Nat → Nat → Int} {n : Nat} {d : Int} (h : rsOk F n d = true) : n ≠ 0 ∧ n ≤ 9 ∧ 1 ≤ d ∧ d ≤ 99 ∧ ∀ i, i < n → stepOk F d i = true := by
  have h' : n ≠ 0 ∧ wsI F n d = -1 := by simpa [rsOk] using h
  have h2 := h'.2
  unfold wsI at h2
  split at h2
  · rename_i hc
    rcases firstBad_cases (stepOk F d) n with ⟨_, ha⟩ | ⟨k, _, hk, _⟩
    · exact ⟨h'.1, hc.1, hc.2.1, hc.2.2, ha⟩
    · omega
  · omega
theorem rsOk_dig {F : Nat → Nat → Int} {n : Nat} {d : Int} (h : rsOk F n d = true) : ∀ i, i < n → (0 ≤ F i 1 ∧ F i 1 ≤ 9) ∧ (0 ≤ F i 2 ∧ F i 2 ≤ 9) := fun i hi => by
  have := stepOk_iff.1 ((rsOk_steps h).2.2.2.2 i hi)
  omega
def resS (F : Nat → Nat → Int) (n : Nat) (d : Int) : ByteArray := if rsOk F n d = true then plS (colL F 2 n) else ByteArray.empty
def resR (F : Nat → Nat → Int) (n : Nat) (d : Int) : Int := if rsOk F n d = true then F (n - 1) 3 else -1
def dvdS (F : Nat → Nat → Int) (n : Nat) (d : Int) : ByteArray := if rsOk F n d = true then plS (colL F 1 n) else ByteArray.empty
theorem rsOk_empty (F : Nat → Nat → Int) (d : Int) : rsOk F 0 d = false := by simp [rsOk]
theorem plS_col {F : Nat → Nat → Int} {j n : Nat} (h0 : n ≠ 0) (h9 : n ≤ 9) : plS (colL F j n) = bStr (trimZ (tx (colL F j n))) ∧ plB (colL F j n) = true := by
  have hne : colL F j n ≠ [] := fun e => h0 (by rw [← colL_length F j n, e]; rfl)
  exact ⟨plS_short hne (by rw [colL_length]; exact h9), plB_short hne (by rw [colL_length]; exact h9)⟩
theorem trimL_col {F : Nat → Nat → Int} {j n : Nat} (h0 : n ≠ 0) (h9 : n ≤ 9) (h : ∀ i, i < n → 0 ≤ F i j ∧ F i j ≤ 9) : bStr (trimL (tx (colL F j n))) = plS (colL F j n) := by
  have hne : tx (colL F j n) ≠ [] := fun e => h0 (by rw [← colL_length F j n, ← tx_length, e]; rfl)
  rw [trimL_eq _ hne (tx_mem (colL_mem h)), (plS_col h0 h9).1]
theorem tx_one (d : Int) (h : 0 ≤ d) : dStr d.toNat = bStr (tx [d]) := rfl

theorem cl_res (a b c d : Int) (w : World) : Calls Tryd.prog 88 #[.agg #[.int .i64 a, .int .i64 b, .int .i64 c, .int .i64 d]] w fun e w' => e = .returned (.int .i64 (if 2 = 1 then b else c)) ∧ Below w.heap.size w w' := by
  go_enter Tryd.func88, Tryd.ntmps88
  go_wp2_with fail
  go_ret
  exact ⟨rfl, (Below.refl _ _).alloc (Nat.le_refl _) _⟩

set_option maxRecDepth 100000 in
set_option maxHeartbeats 2000000 in
theorem stepsText_res (w : World) (B : Nat) (v : Value) (n : Nat) (F : Nat → Nat → Int) (hR : Recs w B v n 4 (IV F)) (hBw : B ≤ w.heap.size) (hn : n ≤ 9) (hd : ∀ i, i < n → 0 ≤ F i 2 ∧ F i 2 ≤ 9) :
    Calls Tryd.prog 87 #[v, .func (.func 88) #[] #[]] w fun e w' => e = .returned (.tuple #[.string (plS (colL F 2 n)), .bool (plB (colL F 2 n))]) ∧ Below w.heap.size w w' := by
  obtain ⟨A, cap, rfl, hnc, hcm, hcell⟩ := hR
  unfold maxLen at hcm
  have Hc := Lib.hid hcell
  have HM := Lib.hid (colL_mem hd)
  have HL := Lib.hid (colL_length F 2 n)
  clear hcell hd
  obtain ⟨i0, hi, hz0, hz1, hz2⟩ := info_parts infoInt2
  go_enter Tryd.func87, Tryd.ntmps87
  go_wp2_with fail
  go_loopg [6, 8, 11] n (fun g s6 s8 s11 wr => ∃ k : Nat, g + k = n ∧ s11 = .int .i64 k ∧ wr.ownsRow w.heap.size 3 1 s6 k ((colL F 2 k).map (Value.int .i64)) ∧ Below w.heap.size w wr)
  case atStart => exact ⟨0, rfl, rfl, World.ownsRow_nil _ _ _ _, Below.refl _ _⟩
  case round =>
    obtain ⟨k, hk, rfl, hown, hB⟩ := hrel
    by_cases hlt : k < n
    · obtain ⟨b, o, rfl, hb, hc⟩ := Hc.out (by omega)
      have hbw : b < w.heap.size := by omega
      have e0 := (hB.cell (p := ⟨b, o + k * 4, none⟩) hbw).trans (hc k hlt 0 (by omega))
      have e1 := (hB.cell (p := ⟨b, o + k * 4 + 1, none⟩) hbw).trans (hc k hlt 1 (by omega))
      have e2 := (hB.cell (p := ⟨b, o + k * 4 + 2, none⟩) hbw).trans (hc k hlt 2 (by omega))
      have e3 := (hB.cell (p := ⟨b, o + k * 4 + 3, none⟩) hbw).trans (hc k hlt 3 (by omega))
      simp only [IV] at e0 e1 e2 e3
      have HS := Lib.hid (colL_succ F 2 k)
      clear hc
      go_wp2_with fail
      refine (cl_res _ _ _ _ _).mono ?_
      rintro e w1 ⟨rfl, b1⟩
      have hown1 := own_below (hown.alloc (.cells #[.int .i64 (F k 0), .int .i64 (F k 1), .int .i64 (F k 2), .int .i64 (F k 3)] 100)) b1
      have hB1 := below_own (hB.alloc hB.size (.cells #[.int .i64 (F k 0), .int .i64 (F k 1), .int .i64 (F k 2), .int .i64 (F k 3)] 100)) b1 (by have := hB.size; simp; omega)
      clear hown hB e0 e1 e2 e3 b1
      go_wp2_with (at_builtin; refine wpList_append_own _ rfl _ _ 74 rfl w.heap.size 3 i0 (.int .i64 0) 1 8 Tryd.underlying74 hi hz0 hz1 hz2 rfl (by decide) _ _ _ rfl (hown1.alloc _) ⟨w1.heap.size, 0, none⟩ 1 1 [.int .i64 (F k 2)] rfl rfl (cell_one_new _ _ _) (by simp [Value.oneCell']) (by unfold maxLen; omega) (by omega) (by have := hB1.size; simp; omega) ?_; intro v' w2 hown' hgrow _)
      have hB2 := (hB1.alloc hB1.size (.cells #[.int .i64 (F k 2)] 3)).grown hgrow (by have := hB1.size; simp; omega) (fun j hj => (hown1.lt j hj).1)
      go_roundg (gk - 1)
      case measure => omega
      case rel => exact ⟨k + 1, by omega, by go_num, by rw [HS.out, List.map_append]; exact hown', hB2⟩
    · obtain rfl : k = n := by omega
      have HI := Lib.hid (IntSl.of_own (xs := colL F 2 k) (by rw [HL.out]; exact Own.of_row hown))
      go_wp2_with fail
      refine (plain_any _ _ _ _ HI.out (Nat.le_refl _) HM.out (by rw [HL.out]; omega)).mono ?_
      rintro e w1 ⟨rfl, b1⟩
      have hB1 := below_own hB b1 hB.size
      clear hown HI
      go_wp2_with fail
      go_ret2
      exact ⟨rfl, hB1⟩
end Go.Proofs.YtfmfjbphflkhiaaDoor
