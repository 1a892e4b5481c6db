/- Plain law, no program in sight: taking away by a way. -/
import Derived.Test.YtfmfjbphflkhiaaGreatDoorDgt
import Derived.WalkKit
namespace Go.Proofs.YtfmfjbphflkhiaaGreatDoor
set_option linter.unusedVariables false
set_option linter.unusedSimpArgs false

/-- One column by a way: what is written, what is borrowed. -/
def colP (a b : Int) (wi : Bool) (bor way : Int) : Int × Int :=
  if way / 4 % 2 = 1 ∧ a = 0 ∧ b ≠ 0 then (b, 0)
  else if way / 8 % 2 = 1 ∧ b = 0 ∧ wi = true then (0, 0)
  else if way % 2 = 1 then (if a ≤ b then b - a else a - b, 0)
  else if a - b - (if way / 2 % 2 = 0 then bor else 0) < 0 then (a - b - (if way / 2 % 2 = 0 then bor else 0) + 10, 1)
  else (a - b - (if way / 2 % 2 = 0 then bor else 0), 0)
theorem colP_range (a b : Int) (wi : Bool) (bor way : Int) (ha : 0 ≤ a ∧ a ≤ 9) (hb : 0 ≤ b ∧ b ≤ 9) (hc : bor = 0 ∨ bor = 1) :
    0 ≤ (colP a b wi bor way).1 ∧ (colP a b wi bor way).1 ≤ 9 ∧ ((colP a b wi bor way).2 = 0 ∨ (colP a b wi bor way).2 = 1) := by
  have hz : (if way / 2 % 2 = 0 then bor else 0) = 0 ∨ (if way / 2 % 2 = 0 then bor else 0) = 1 := by split <;> omega
  unfold colP
  generalize (if way / 2 % 2 = 0 then bor else 0) = z at *
  split
  · exact ⟨hb.1, hb.2, .inl rfl⟩
  · split
    · exact ⟨by decide, by decide, .inl rfl⟩
    · split
      · refine ⟨?_, ?_, .inl rfl⟩ <;> (dsimp only; split <;> omega)
      · split
        · refine ⟨?_, ?_, .inr rfl⟩ <;> (dsimp only; omega)
        · refine ⟨?_, ?_, .inl rfl⟩ <;> (dsimp only; omega)
/-- What is borrowed before a place. -/
def tkB (s t : List UInt8) (way : Int) : Nat → Int
  | 0 => 0
  | k + 1 => (colP (dg s k) (dg t k) (decide (k < t.length)) (tkB s t way k) way).2
/-- What is written at a place. -/
def tkD (s t : List UInt8) (way : Int) (k : Nat) : Int := (colP (dg s k) (dg t k) (decide (k < t.length)) (tkB s t way k) way).1
def tkL (s t : List UInt8) (way : Int) (n : Nat) : List Int := (List.range n).map (tkD s t way)
theorem tkL_succ (s t : List UInt8) (way : Int) (n : Nat) : tkL s t way (n + 1) = tkL s t way n ++ [tkD s t way n] := by simp [tkL, List.range_succ]
theorem tkL_length (s t : List UInt8) (way : Int) (n : Nat) : (tkL s t way n).length = n := by simp [tkL]
theorem tkB_01 {s t : List UInt8} (hs : numB s = true) (ht : numB t = true) (way : Int) (k : Nat) : tkB s t way k = 0 ∨ tkB s t way k = 1 := by
  cases k with
  | zero => exact .inl rfl
  | succ k =>
    exact (colP_range _ _ _ _ _ (dg_range (numB_all hs) k) (dg_range (numB_all ht) k) (tkB_01 hs ht way k)).2.2
theorem tkD_range {s t : List UInt8} (hs : numB s = true) (ht : numB t = true) (way : Int) (k : Nat) : 0 ≤ tkD s t way k ∧ tkD s t way k ≤ 9 := by
  have := colP_range _ _ (decide (k < t.length)) _ way (dg_range (numB_all hs) k) (dg_range (numB_all ht) k) (tkB_01 hs ht way k)
  exact ⟨this.1, this.2.1⟩
theorem tkL_mem {s t : List UInt8} (hs : numB s = true) (ht : numB t = true) (way : Int) (n : Nat) : ∀ d ∈ tkL s t way n, 0 ≤ d ∧ d ≤ 9 := by
  intro d hd
  simp only [tkL, List.mem_map, List.mem_range] at hd
  obtain ⟨i, _, rfl⟩ := hd
  exact tkD_range hs ht way i
/-- What comes out by a way. -/
def tkS (s t : List UInt8) (way : Int) : ByteArray := plS (tkL s t way s.length).reverse
/-- The bits of a way. -/
theorem way_bits : ∀ n : Fin 16, Go.bits .and .i64 (n.val : Int) 1 = (n.val : Int) % 2 ∧ Go.bits .and .i64 (n.val : Int) 2 = 2 * ((n.val : Int) / 2 % 2) ∧ Go.bits .and .i64 (n.val : Int) 4 = 4 * ((n.val : Int) / 4 % 2) ∧ Go.bits .and .i64 (n.val : Int) 8 = 8 * ((n.val : Int) / 8 % 2) := by decide +kernel
theorem bits_of (way : Int) (h0 : 0 ≤ way) (h1 : way ≤ 15) : Go.bits .and .i64 way 1 = way % 2 ∧ Go.bits .and .i64 way 2 = 2 * (way / 2 % 2) ∧ Go.bits .and .i64 way 4 = 4 * (way / 4 % 2) ∧ Go.bits .and .i64 way 8 = 8 * (way / 8 % 2) := by
  obtain ⟨n, rfl⟩ := Int.eq_ofNat_of_zero_le h0
  exact way_bits ⟨n, by omega⟩
end Go.Proofs.YtfmfjbphflkhiaaGreatDoor
