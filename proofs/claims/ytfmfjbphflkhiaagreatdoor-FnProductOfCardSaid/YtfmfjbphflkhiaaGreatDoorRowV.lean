/- Plain law: what a row's numeral is worth. -/
import Derived.Test.YtfmfjbphflkhiaaGreatDoorRowP
import Derived.Test.YtfmfjbphflkhiaaGreatDoorVal
namespace Go.Proofs.YtfmfjbphflkhiaaGreatDoor
set_option linter.unusedVariables false
set_option linter.unusedSimpArgs false
open Go.RowKit

theorem valF_trim0r : ∀ (l : List UInt8), valF (trim0 l) 0 = valF l 0
  | [] => rfl
  | b :: r => by
    by_cases h : b = 48
    · subst h
      have : trim0 (48 :: r) = trim0 r := rfl
      rw [this, valF_trim0r r]
      rfl
    · have e : (b == 48) = false := by simpa using h
      have : trim0 (b :: r) = b :: r := by simp [trim0, List.dropWhile, e]
      rw [this]
theorem val_trimZr (l : List UInt8) : val (trimZ l) = val l := by
  rw [val_F, val_F, ← valF_trim0r l]
  unfold trimZ
  split
  · rename_i h; rw [h]; rfl
  · rfl
theorem byte_val (d : Int) (h : 0 ≤ d ∧ d ≤ 9) : ((UInt8.ofNat (48 + d.toNat)).toNat : Int) - 48 = d := by
  have e : (UInt8.ofNat (48 + d.toNat)).toNat = 48 + d.toNat := by rw [UInt8.toNat_ofNat']; omega
  rw [e]; omega
theorem co_acc {F : Nat → Nat → Int} {n : Nat} (hn : 1 ≤ n) (h : ∀ i, i < n → (0 ≤ F i 3 ∧ F i 3 ≤ 9) ∧ (0 ≤ F i 4 ∧ F i 4 ≤ 9)) (m : Nat) : valF (tx (rwD F n m)) 0 = acV (fun i => F i 3) n (F (n - 1) 4) m := by
  induction m with
  | zero =>
    show 10 * 0 + (((UInt8.ofNat (48 + (F (n - 1) 4).toNat)).toNat : Int) - 48) = F (n - 1) 4
    rw [byte_val _ (h (n - 1) (by omega)).2]; omega
  | succ m ih =>
    rw [rwD_succ, tx_append]
    show valF (tx (rwD F n m) ++ [UInt8.ofNat (48 + (F (n - 1 - m) 3).toNat)]) 0 = 10 * acV (fun i => F i 3) n (F (n - 1) 4) m + F (n - 1 - m) 3
    rw [valF_snoc, ih, byte_val _ (h (n - 1 - m) (by omega)).1]
/-- What columns write, worth: carry and digits. -/
theorem co_val {F : Nat → Nat → Int} {n : Nat} (hn : 1 ≤ n) (h : ∀ i, i < n → (0 ≤ F i 3 ∧ F i 3 ≤ 9) ∧ (0 ≤ F i 4 ∧ F i 4 ≤ 9)) (hb : coB F n = true) :
    numB (coS F n).data.toList = true ∧ valO (coS F n).data.toList = F (n - 1) 4 * 10 ^ n + rV (fun i => F i 3) n := by
  have hm := rwD_mem (m := n) hn h
  have hnum : numB (coS F n).data.toList = true := plS_num hm hb
  refine ⟨hnum, ?_⟩
  have hb' : rwD F n n ≠ [] ∧ (trimZ (tx (rwD F n n))).length ≤ 9 := by simpa [coB, plB] using hb
  have e : (coS F n).data.toList = trimZ (tx (rwD F n n)) := by
    unfold coS plS
    rw [if_pos hb', bStr_list]
  have hv : valO (coS F n).data.toList = val (coS F n).data.toList := if_pos hnum
  rw [hv, e, val_trimZr, val_F, co_acc hn h, acV_all]
theorem cin_last {F : Nat → Nat → Int} {n : Nat} (hn : 1 ≤ n) : cin F n = F (n - 1) 4 := by
  obtain ⟨m, rfl⟩ : ∃ m, n = m + 1 := ⟨n - 1, by omega⟩
  rfl
theorem row_dig {F : Nat → Nat → Int} {n : Nat} (h : ∀ i, i < n → rowAt F i = true) : ∀ i, i < n → (0 ≤ F i 3 ∧ F i 3 ≤ 9) ∧ (0 ≤ F i 4 ∧ F i 4 ≤ 9) := fun i hi => by
  obtain ⟨_, _, _, _, h3, h4, _⟩ := rowAt_iff.1 (h i hi)
  exact ⟨h3, h4⟩
theorem row_val {F : Nat → Nat → Int} {n : Nat} (hn : 1 ≤ n) (h : ∀ i, i < n → rowAt F i = true) (hb : coB F n = true) :
    numB (coS F n).data.toList = true ∧ valO (coS F n).data.toList = rV (fun i => F i 0) n * F 0 1 := by
  obtain ⟨h1, h2⟩ := co_val hn (row_dig h) hb
  refine ⟨h1, ?_⟩
  rw [h2, ← cin_last (F := F) hn]
  exact row_sum h n (Nat.le_refl _)
theorem acV_range {f : Nat → Int} {n : Nat} (hn : 1 ≤ n) (h : ∀ i, i < n → 0 ≤ f i ∧ f i ≤ 9) (m : Nat) : 0 ≤ acV f n 0 m ∧ acV f n 0 m < 10 ^ m := by
  induction m with
  | zero => exact ⟨Int.le_refl 0, show (0 : Int) < 1 by decide⟩
  | succ m ih =>
    have h1 := h (n - 1 - m) (by omega)
    rw [Int.pow_succ]
    show 0 ≤ 10 * acV f n 0 m + f (n - 1 - m) ∧ 10 * acV f n 0 m + f (n - 1 - m) < _
    omega
theorem acV_small {f : Nat → Int} {n : Nat} (hn : 1 ≤ n) (h : ∀ i, i < n → 0 ≤ f i ∧ f i ≤ 9) (m : Nat) (h9 : m ≤ 9) : 0 ≤ acV f n 0 m ∧ acV f n 0 m < 1000000000 := by
  have h1 := acV_range hn h m
  have h2 := pow_small m h9
  omega
theorem acV_zero (f : Nat → Int) (n : Nat) : acV f n 0 n = rV f n := by rw [acV_all, Int.zero_mul, Int.zero_add]
end Go.Proofs.YtfmfjbphflkhiaaGreatDoor
