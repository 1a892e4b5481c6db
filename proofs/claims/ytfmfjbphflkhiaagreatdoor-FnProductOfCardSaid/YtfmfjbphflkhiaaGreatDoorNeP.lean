/- Plain law, no program in sight: what is left by nine and by eleven. -/
import Derived.Test.YtfmfjbphflkhiaaGreatDoorDfp
namespace Go.Proofs.YtfmfjbphflkhiaaGreatDoor
set_option linter.unusedVariables false
set_option linter.unusedSimpArgs false

/-- The sum of the digits; the sum with signs by turns. -/
def smV (g : Nat → Int) : Nat → Int
  | 0 => 0
  | n + 1 => smV g n + g n
def alV (g : Nat → Int) : Nat → Int
  | 0 => 0
  | n + 1 => if n % 2 = 0 then alV g n + g n else alV g n - g n
theorem smV_range {g : Nat → Int} (h : ∀ k, 0 ≤ g k ∧ g k ≤ 9) (n : Nat) : 0 ≤ smV g n ∧ smV g n ≤ 9 * n := by
  induction n with
  | zero => exact ⟨Int.le_refl 0, Int.le_refl 0⟩
  | succ n ih =>
    have := h n
    show 0 ≤ smV g n + g n ∧ smV g n + g n ≤ _
    omega
theorem alV_range {g : Nat → Int} (h : ∀ k, 0 ≤ g k ∧ g k ≤ 9) (n : Nat) : -(9 * n : Int) ≤ alV g n ∧ alV g n ≤ 9 * n := by
  induction n with
  | zero => exact ⟨Int.le_refl 0, Int.le_refl 0⟩
  | succ n ih =>
    have := h n
    show _ ≤ (if n % 2 = 0 then alV g n + g n else alV g n - g n) ∧ (if n % 2 = 0 then alV g n + g n else alV g n - g n) ≤ _
    split <;> omega
theorem pow9 (n : Nat) : ∃ c : Int, (10 : Int) ^ n = 1 + 9 * c := by
  induction n with
  | zero => exact ⟨0, rfl⟩
  | succ n ih =>
    obtain ⟨c, hc⟩ := ih
    exact ⟨1 + 10 * c, by rw [Int.pow_succ, hc]; omega⟩
theorem pow11 (n : Nat) : ∃ c : Int, (10 : Int) ^ n = (if n % 2 = 0 then 1 else -1) + 11 * c := by
  induction n with
  | zero => exact ⟨0, rfl⟩
  | succ n ih =>
    obtain ⟨c, hc⟩ := ih
    by_cases h : n % 2 = 0
    · rw [if_pos h] at hc
      rw [if_neg (by omega)]
      exact ⟨1 + 10 * c, by rw [Int.pow_succ, hc]; omega⟩
    · rw [if_neg h] at hc
      rw [if_pos (by omega)]
      exact ⟨-1 + 10 * c, by rw [Int.pow_succ, hc]; omega⟩
theorem rV9 (g : Nat → Int) (n : Nat) : ∃ c : Int, rV g n = smV g n + 9 * c := by
  induction n with
  | zero => exact ⟨0, rfl⟩
  | succ n ih =>
    obtain ⟨c, hc⟩ := ih
    obtain ⟨d, hd⟩ := pow9 n
    refine ⟨c + d * g n, ?_⟩
    show rV g n + 10 ^ n * g n = smV g n + g n + _
    rw [hc, hd, Int.add_mul, Int.one_mul, Int.mul_add, Int.mul_assoc]
    omega
theorem rV11 (g : Nat → Int) (n : Nat) : ∃ c : Int, rV g n = alV g n + 11 * c := by
  induction n with
  | zero => exact ⟨0, rfl⟩
  | succ n ih =>
    obtain ⟨c, hc⟩ := ih
    obtain ⟨d, hd⟩ := pow11 n
    refine ⟨c + d * g n, ?_⟩
    show rV g n + 10 ^ n * g n = (if n % 2 = 0 then alV g n + g n else alV g n - g n) + _
    rw [hc, hd, Int.add_mul, Int.mul_add, Int.mul_assoc]
    by_cases h : n % 2 = 0
    · rw [if_pos h, if_pos h, Int.one_mul]; omega
    · rw [if_neg h, if_neg h, Int.neg_mul, Int.one_mul]; omega
theorem val9 (l : List UInt8) : smV (dg l) l.length % 9 = val l % 9 := by
  obtain ⟨c, hc⟩ := rV9 (dg l) l.length
  rw [val_rV l l.length (Nat.le_refl _), hc]
  omega
theorem val11 (l : List UInt8) : alV (dg l) l.length % 11 = val l % 11 := by
  obtain ⟨c, hc⟩ := rV11 (dg l) l.length
  rw [val_rV l l.length (Nat.le_refl _), hc]
  omega
def ninI (l : List UInt8) : Int := if numB l = true then val l % 9 else -1
def eleI (l : List UInt8) : Int := if numB l = true then val l % 11 else -1
def sumI (l : List UInt8) : Int := if numB l = true then smV (dg l) l.length else -1
theorem checks {a b c : Int} : (a % 9 * (b % 9) % 9 = c % 9 ∧ a % 11 * (b % 11) % 11 = c % 11) ↔ (a * b - c) % 99 = 0 := by
  rw [← Int.mul_emod, ← Int.mul_emod]
  generalize a * b = p
  omega
end Go.Proofs.YtfmfjbphflkhiaaGreatDoor
