/- Lists of texts, and the laws' own helpers on them. -/
import Derived.Test.YtfmfjbphflkhiaaGreatDoorStrs
import Derived.Test.YtfmfjbphflkhiaaGreatDoorInts
import Derived.Deep.RegionHeld3
import Derived.BigQuiet
import Derived.Lib.ItoaNum
namespace Go.Proofs.YtfmfjbphflkhiaaGreatDoor
set_option linter.unusedVariables false
set_option linter.unusedSimpArgs false
open Go.RowKit

/-- A row of one-cell elements. -/
def rowV (V : Nat → Value) (n : Nat) : List Value := (List.range n).map V
theorem rowV_length (V : Nat → Value) (n : Nat) : (rowV V n).length = n := by simp [rowV]
theorem rowV_at (V : Nat → Value) {n i : Nat} (h : i < n) : (rowV V n)[i]? = some (V i) := by simp [rowV, h]
theorem rowV_succ (V : Nat → Value) (n : Nat) : rowV V (n + 1) = rowV V n ++ [V n] := by simp [rowV, List.range_succ]
theorem rowV_zero (V : Nat → Value) : rowV V 0 = [] := rfl
theorem rowV_congr {V U : Nat → Value} {n : Nat} (h : ∀ i, i < n → V i = U i) : rowV V n = rowV U n := by
  unfold rowV
  exact List.map_congr_left fun i hi => h i (by simpa using hi)
def mixV (V U : Nat → Value) (k i : Nat) : Value := if i < k then V i else U i
theorem mixV_zero (V U : Nat → Value) (n : Nat) : rowV (mixV V U 0) n = rowV U n := rowV_congr fun i _ => by simp [mixV]
theorem mixV_all (V U : Nat → Value) (n : Nat) : rowV (mixV V U n) n = rowV V n := rowV_congr fun i hi => by simp [mixV, hi]
theorem mixV_set (V U : Nat → Value) {n i : Nat} (h : i < n) : (rowV (mixV V U i) n).set i (V i) = rowV (mixV V U (i + 1)) n := by
  apply List.ext_getElem?
  intro j
  by_cases hj : j < n
  · rw [rowV_at _ hj]
    by_cases e : i = j
    · subst e
      rw [List.getElem?_set_self (by rw [rowV_length]; exact h)]
      simp [mixV]
    · rw [List.getElem?_set_ne e, rowV_at _ hj]
      have : (j < i) ↔ (j < i + 1) := by omega
      simp [mixV, this]
  · rw [List.getElem?_eq_none (by rw [List.length_set, rowV_length]; omega), List.getElem?_eq_none (by rw [rowV_length]; omega)]
theorem Sl.of_ownV {w : World} {base : Nat} {e : TypeId} {v : Value} {n : Nat} {V : Nat → Value} (h : Own w base e 1 v n (rowV V n)) : Sl w w.heap.size n v n V := by
  have h1 := Sl.of_own h
  rw [Nat.mul_one] at h1
  exact h1.congr fun j hj => by
    show (rowV V n).getD j undef = _
    rw [List.getD_eq_getElem?_getD, rowV_at V hj]; rfl
def TV (f : Nat → ByteArray) : Nat → Value := fun i => .string (f i)

theorem infoStr : (Tryz.prog.info? 9).map (fun i => (i.zero, i.size, i.bytes)) = some (some (.string ByteArray.empty), 1, 16) := by kernel_rfl

set_option maxRecDepth 20000 in
set_option maxHeartbeats 1000000 in
theorem sameTexts (w : World) (B : Nat) (v1 v2 : Value) (n : Nat) (f : Nat → ByteArray) (h1 : Sl w B n v1 n (TV f)) (h2 : Sl w B n v2 n (TV f)) :
    Calls Tryz.prog 8 #[v1, v2] w fun e w' => e = .returned (.bool true) ∧ Below w.heap.size w w' := by
  obtain ⟨A1, c1, rfl, l1, m1, r1⟩ := h1
  obtain ⟨A2, c2, rfl, l2, m2, r2⟩ := h2
  have R1 := Lib.hid r1
  have R2 := Lib.hid r2
  clear r1 r2
  unfold maxLen at m1 m2
  go_enter Tryz.func8, Tryz.ntmps8
  go_wp2
  go_loopg [5] n (fun g i wr => ∃ k q : Nat, g + k = n ∧ i = .int .i64 k ∧ wr = w.drewN q)
  case atStart => exact ⟨0, 0, rfl, rfl, rfl⟩
  case round =>
    obtain ⟨k, q, hk, rfl, rfl⟩ := hrel
    by_cases hlt : k < n
    · obtain ⟨b1, o1, rfl, hb1, hc1⟩ := R1.out (by omega)
      obtain ⟨b2, o2, rfl, hb2, hc2⟩ := R2.out (by omega)
      have e1 := hc1 k hlt
      have e2 := hc2 k hlt
      simp only [TV] at e1 e2
      clear hc1 hc2
      have hi : (k : Int) < (n : Int) := by omega
      go_wp2_with fail
      go_quiet (fail)
      go_wp2
      go_roundg (gk - 1)
      case measure => omega
      case rel => exact ⟨k + 1, _, by omega, by go_num, rfl⟩
    · obtain rfl : k = n := by omega
      go_wp2
      go_ret
      exact ⟨rfl, below_drewN (Below.refl _ _) _⟩

end Go.Proofs.YtfmfjbphflkhiaaGreatDoor
