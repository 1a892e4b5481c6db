/- Plain law: what a quotient is worth; the draws of divisions. -/
import Derived.Test.YtfmfjbphflkhiaaDoorDvp
import Derived.Test.YtfmfjbphflkhiaaDoorDivn
import Derived.Test.YtfmfjbphflkhiaaDoorVal
namespace Go.Proofs.YtfmfjbphflkhiaaDoor
set_option linter.unusedVariables false
set_option linter.unusedSimpArgs false
open Go.RowKit

theorem valF_trim0 : ∀ (l : List UInt8), valF (trim0 l) 0 = valF l 0
  | [] => rfl
  | b :: r => by
    by_cases h : b = 48
    · subst h
      have : trim0 (48 :: r) = trim0 r := rfl
      rw [this, valF_trim0 r]
      rfl
    · have e : (b == 48) = false := by simpa using h
      have : trim0 (b :: r) = b :: r := by simp [trim0, List.dropWhile, e]
      rw [this]
theorem val_trimZ (l : List UInt8) : val (trimZ l) = val l := by
  rw [val_F, val_F, ← valF_trim0 l]
  unfold trimZ
  split
  · rename_i h; rw [h]; rfl
  · rfl
/-- What the first digits of a column are worth. -/
def colV (F : Nat → Nat → Int) (j : Nat) : Nat → Int
  | 0 => 0
  | k + 1 => 10 * colV F j k + F k j
theorem val_col (F : Nat → Nat → Int) (j n : Nat) (h : ∀ i, i < n → 0 ≤ F i j ∧ F i j ≤ 9) : val (tx (colL F j n)) = colV F j n := by
  rw [val_F]
  induction n with
  | zero => rfl
  | succ n ih =>
    rw [colL_succ, tx_append]
    show valF (tx (colL F j n) ++ [UInt8.ofNat (48 + (F n j).toNat)]) 0 = _
    rw [valF_snoc, ih fun i hi => h i (by omega)]
    have hd := h n (by omega)
    have e : (UInt8.ofNat (48 + (F n j).toNat)).toNat = 48 + (F n j).toNat := by rw [UInt8.toNat_ofNat']; omega
    rw [e]
    show _ = 10 * colV F j n + F n j
    omega
theorem val_plS (F : Nat → Nat → Int) (j n : Nat) (h : ∀ i, i < n → 0 ≤ F i j ∧ F i j ≤ 9) (h0 : n ≠ 0) (h9 : n ≤ 9) :
    numB (plS (colL F j n)).data.toList = true ∧ valO (plS (colL F j n)).data.toList = colV F j n := by
  have hp := plS_col (F := F) (j := j) h0 h9
  have hn := plS_num (colL_mem h) hp.2
  refine ⟨hn, ?_⟩
  unfold valO
  rw [if_pos hn, hp.1, bStr_list, val_trimZ, val_col F j n h]
theorem colV_range (F : Nat → Nat → Int) (j n : Nat) (h : ∀ i, i < n → 0 ≤ F i j ∧ F i j ≤ 9) : 0 ≤ colV F j n ∧ colV F j n < 10 ^ n := by
  induction n with
  | zero => exact ⟨Int.le_refl 0, show (0 : Int) < 1 by decide⟩
  | succ n ih =>
    have h1 := ih fun i hi => h i (by omega)
    have h2 := h n (by omega)
    rw [Int.pow_succ]
    show 0 ≤ 10 * colV F j n + F n j ∧ 10 * colV F j n + F n j < _
    omega
theorem colV_small (F : Nat → Nat → Int) (j n : Nat) (h : ∀ i, i < n → 0 ≤ F i j ∧ F i j ≤ 9) (h9 : n ≤ 9) : 0 ≤ colV F j n ∧ colV F j n < 1000000000 := by
  have h1 := colV_range F j n h
  have h2 := pow_small n h9
  omega
theorem quo_law (F : Nat → Nat → Int) (d : Int) (n : Nat) (h : ∀ i, i < n → stepOk F d i = true) : colV F 2 n * d + lf F n = colV F 1 n := by
  induction n with
  | zero => simp [colV, lf]
  | succ n ih =>
    have h1 := ih fun i hi => h i (by omega)
    have h2 := stepOk_iff.1 (h n (by omega))
    show (10 * colV F 2 n + F n 2) * d + F n 3 = 10 * colV F 1 n + F n 1
    have e : (10 * colV F 2 n + F n 2) * d = 10 * (colV F 2 n * d) + F n 2 * d := by rw [Int.add_mul, Int.mul_assoc]
    rw [e]
    omega
/-- All that the laws want of a right transcript. -/
theorem rs_all {F : Nat → Nat → Int} {n : Nat} {d : Int} (h : rsOk F n d = true) :
    numB (resS F n d).data.toList = true ∧ numB (dvdS F n d).data.toList = true ∧ valO (dvdS F n d).data.toList = colV F 1 n ∧ 0 ≤ valO (resS F n d).data.toList ∧ valO (resS F n d).data.toList < 1000000000 ∧
    valO (resS F n d).data.toList * d + resR F n d = valO (dvdS F n d).data.toList ∧ 0 ≤ resR F n d ∧ resR F n d < d := by
  obtain ⟨h0, h9, h1, h2, hok⟩ := rsOk_steps h
  have hd := rsOk_dig h
  obtain ⟨e1, e2, e3⟩ := rs_yes h
  have v2 := val_plS F 2 n (fun i hi => (hd i hi).2) h0 h9
  have v1 := val_plS F 1 n (fun i hi => (hd i hi).1) h0 h9
  have r2 := colV_small F 2 n (fun i hi => (hd i hi).2) h9
  have q := quo_law F d n hok
  have l : lf F n = F (n - 1) 3 := by
    obtain ⟨m, rfl⟩ : ∃ m, n = m + 1 := ⟨n - 1, by omega⟩
    rfl
  have hl := stepOk_iff.1 (hok (n - 1) (by omega))
  rw [e1, e2, e3, v2.2, v1.2]
  exact ⟨v2.1, v1.1, rfl, r2.1, r2.2, by rw [← l]; exact q, by omega, by omega⟩
theorem rs_none {F : Nat → Nat → Int} {n : Nat} {d : Int} (h : rsOk F n d = false) : resS F n d = ⟨#[]⟩ ∧ resR F n d = -1 ∧ dvdS F n d = ⟨#[]⟩ := rs_no h

/-- A transcript and a divisor, drawn. -/
def DrawLI (w : World) (e : Ending) (w' : World) : Prop := ∃ v d n F, e = .returned (.tuple #[v, .int .i64 d]) ∧ n ≤ 10 ∧ 0 ≤ d ∧ d ≤ 99 ∧ Own w' w.heap.size 100 4 v n (recCells 4 (IV F) n) ∧ Below w.heap.size w w'

end Go.Proofs.YtfmfjbphflkhiaaDoor
