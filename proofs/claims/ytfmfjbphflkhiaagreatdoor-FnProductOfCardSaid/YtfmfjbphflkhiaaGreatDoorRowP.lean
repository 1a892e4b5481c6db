/- Plain law, no program in sight: multiplying by a digit; what columns write. -/
import Derived.Test.YtfmfjbphflkhiaaGreatDoorDfp
namespace Go.Proofs.YtfmfjbphflkhiaaGreatDoor
set_option linter.unusedVariables false
set_option linter.unusedSimpArgs false

/-- What is carried to a place; the column of a place. -/
def mulC (s : List UInt8) (q : Int) : Nat → Int
  | 0 => 0
  | k + 1 => (dg s k * q + mulC s q k) / 10
def mulF (s : List UInt8) (q : Int) : Nat → Nat → Int := fun k j => if j = 0 then dg s k else if j = 1 then q else if j = 2 then mulC s q k else if j = 3 then (dg s k * q + mulC s q k) % 10 else mulC s q (k + 1)
theorem mul_le {a q : Int} (ha : 0 ≤ a ∧ a ≤ 9) (hq : 0 ≤ q ∧ q ≤ 9) : 0 ≤ a * q ∧ a * q ≤ 81 := by
  have h1 : a * q ≤ 9 * q := Int.mul_le_mul_of_nonneg_right ha.2 hq.1
  exact ⟨Int.mul_nonneg ha.1 hq.1, by omega⟩
theorem mulC_range {s : List UInt8} {q : Int} (hs : ∀ k, 0 ≤ dg s k ∧ dg s k ≤ 9) (hq : 0 ≤ q ∧ q ≤ 9) (k : Nat) : 0 ≤ mulC s q k ∧ mulC s q k ≤ 8 := by
  induction k with
  | zero => exact ⟨Int.le_refl 0, show (0 : Int) ≤ 8 by decide⟩
  | succ k ih =>
    have h := mul_le (hs k) hq
    show 0 ≤ (dg s k * q + mulC s q k) / 10 ∧ (dg s k * q + mulC s q k) / 10 ≤ 8
    omega

/-- The first for which it holds, or -1. -/
def fiP (p : Nat → Bool) (n : Nat) : Int := match (List.range n).find? p with
  | some i => i
  | none => -1
theorem fiP_here {p : Nat → Bool} {n k : Nat} (hk : k < n) (h : p k = true) (hb : ∀ j, j < k → p j = false) : fiP p n = k := by
  have : (List.range n).find? p = some k := by
    rw [List.find?_range_eq_some]
    exact ⟨h, by simpa using hk, fun j hj => by simp [hb j hj]⟩
  unfold fiP
  rw [this]
theorem fiP_none {p : Nat → Bool} {n : Nat} (h : ∀ j, j < n → p j = false) : fiP p n = -1 := by
  have : (List.range n).find? p = none := by
    rw [List.find?_eq_none]
    intro j hj
    simp [h j (by simpa using hj)]
  unfold fiP
  rw [this]
theorem fiP_all {p : Nat → Bool} {n : Nat} (h : fiP p n = -1) : ∀ j, j < n → p j = false := by
  unfold fiP at h
  cases e : (List.range n).find? p with
  | none =>
    rw [List.find?_eq_none] at e
    intro j hj
    have := e j (by simpa using hj)
    simpa using this
  | some i =>
    rw [e] at h
    exact absurd h (show (i : Int) ≠ -1 by omega)

/-- A column is right: by itself, and for what is carried to it. -/
def inD (x : Int) : Bool := decide (0 ≤ x ∧ x ≤ 9)
theorem inD_iff {x : Int} : inD x = true ↔ 0 ≤ x ∧ x ≤ 9 := by simp [inD]
def cin (F : Nat → Nat → Int) : Nat → Int
  | 0 => 0
  | i + 1 => F i 4
def rowIn (F : Nat → Nat → Int) (i : Nat) : Bool := inD (F i 0) && (inD (F i 1) && (inD (F i 2) && (inD (F i 3) && (inD (F i 4) && (F i 1 == F 0 1 && F i 0 * F i 1 + F i 2 == F i 3 + 10 * F i 4)))))
def rowAt (F : Nat → Nat → Int) (i : Nat) : Bool := F i 2 == cin F i && rowIn F i
def wrR (F : Nat → Nat → Int) (n : Nat) : Int := if 1 ≤ n ∧ n ≤ 9 then fiP (fun i => !rowAt F i) n else -2
theorem rowAt_iff {F : Nat → Nat → Int} {i : Nat} : rowAt F i = true ↔ F i 2 = cin F i ∧ (0 ≤ F i 0 ∧ F i 0 ≤ 9) ∧ (0 ≤ F i 1 ∧ F i 1 ≤ 9) ∧ (0 ≤ F i 2 ∧ F i 2 ≤ 9) ∧ (0 ≤ F i 3 ∧ F i 3 ≤ 9) ∧ (0 ≤ F i 4 ∧ F i 4 ≤ 9) ∧ F i 1 = F 0 1 ∧ F i 0 * F i 1 + F i 2 = F i 3 + 10 * F i 4 := by
  simp only [rowAt, rowIn, Bool.and_eq_true, beq_iff_eq, inD_iff]
theorem wrR_ok {F : Nat → Nat → Int} {n : Nat} (h : wrR F n = -1) : 1 ≤ n ∧ n ≤ 9 ∧ ∀ i, i < n → rowAt F i = true := by
  unfold wrR at h
  split at h
  · rename_i hn
    refine ⟨hn.1, hn.2, fun i hi => ?_⟩
    have := fiP_all h i hi
    simpa using this
  · omega
theorem wrR_no {F : Nat → Nat → Int} {n : Nat} (h : n < 1 ∨ 9 < n) : wrR F n = -2 := if_neg (by omega)
theorem wrR_here {F : Nat → Nat → Int} {n k : Nat} (h1 : 1 ≤ n) (h9 : n ≤ 9) (hk : k < n) (h : rowAt F k = false) (hb : ∀ j, j < k → rowAt F j = true) : wrR F n = k := by
  unfold wrR
  rw [if_pos ⟨h1, h9⟩]
  exact fiP_here hk (by simp [h]) fun j hj => by simp [hb j hj]
theorem wrR_right {F : Nat → Nat → Int} {n : Nat} (h1 : 1 ≤ n) (h9 : n ≤ 9) (hb : ∀ j, j < n → rowAt F j = true) : wrR F n = -1 := by
  unfold wrR
  rw [if_pos ⟨h1, h9⟩]
  exact fiP_none fun j hj => by simp [hb j hj]
theorem mul_right {s : List UInt8} {q : Int} (hs : ∀ k, 0 ≤ dg s k ∧ dg s k ≤ 9) (hq : 0 ≤ q ∧ q ≤ 9) (i : Nat) : rowAt (mulF s q) i = true := by
  have h1 := mul_le (hs i) hq
  have h2 := mulC_range hs hq i
  have h3 := mulC_range hs hq (i + 1)
  have e3 : mulC s q (i + 1) = (dg s i * q + mulC s q i) / 10 := rfl
  rw [rowAt_iff]
  refine ⟨?_, hs i, hq, ?_, ?_, ?_, rfl, ?_⟩
  · cases i <;> rfl
  · show 0 ≤ mulC s q i ∧ mulC s q i ≤ 9; omega
  · show 0 ≤ (dg s i * q + mulC s q i) % 10 ∧ (dg s i * q + mulC s q i) % 10 ≤ 9; omega
  · show 0 ≤ mulC s q (i + 1) ∧ mulC s q (i + 1) ≤ 9; omega
  · show dg s i * q + mulC s q i = (dg s i * q + mulC s q i) % 10 + 10 * mulC s q (i + 1); omega

/-- The places from the last one down; what columns write. -/
def dnI (n m : Nat) : List Nat := (List.range m).map fun j => n - 1 - j
theorem dnI_succ (n m : Nat) : dnI n (m + 1) = dnI n m ++ [n - 1 - m] := by simp [dnI, List.range_succ]
theorem dnI_length (n m : Nat) : (dnI n m).length = m := by simp [dnI]
def rwD (F : Nat → Nat → Int) (n m : Nat) : List Int := F (n - 1) 4 :: (dnI n m).map fun i => F i 3
theorem rwD_succ (F : Nat → Nat → Int) (n m : Nat) : rwD F n (m + 1) = rwD F n m ++ [F (n - 1 - m) 3] := by simp [rwD, dnI_succ]
theorem rwD_length (F : Nat → Nat → Int) (n m : Nat) : (rwD F n m).length = m + 1 := by simp [rwD, dnI_length]
theorem rwD_mem {F : Nat → Nat → Int} {n m : Nat} (hn : 1 ≤ n) (h : ∀ i, i < n → (0 ≤ F i 3 ∧ F i 3 ≤ 9) ∧ (0 ≤ F i 4 ∧ F i 4 ≤ 9)) : ∀ d ∈ rwD F n m, 0 ≤ d ∧ d ≤ 9 := by
  intro d hd
  simp only [rwD, List.mem_cons, dnI, List.map_map, List.mem_map, List.mem_range, Function.comp] at hd
  rcases hd with rfl | ⟨j, hj, rfl⟩
  · exact (h _ (by omega)).2
  · exact (h _ (by omega)).1
def coS (F : Nat → Nat → Int) (n : Nat) : ByteArray := plS (rwD F n n)
def coB (F : Nat → Nat → Int) (n : Nat) : Bool := plB (rwD F n n)
def rwS (F : Nat → Nat → Int) (n : Nat) : ByteArray := if wrR F n = -1 then coS F n else ByteArray.empty
def rwB (F : Nat → Nat → Int) (n : Nat) : Bool := if wrR F n = -1 then coB F n else false
theorem co_no {F : Nat → Nat → Int} {n : Nat} (h : coB F n = false) : coS F n = ByteArray.empty := by
  unfold coS plS
  unfold coB plB at h
  exact if_neg (by simpa using h)
theorem rwS_size (F : Nat → Nat → Int) (n : Nat) : (rwS F n).size ≤ 9 := by
  unfold rwS
  split
  · exact plS_size _
  · exact Nat.zero_le _
/-- The number that is read from the last column down. -/
def acV (f : Nat → Int) (n : Nat) (o : Int) : Nat → Int
  | 0 => o
  | m + 1 => 10 * acV f n o m + f (n - 1 - m)
theorem acV_eq (f : Nat → Int) (n : Nat) (o : Int) : ∀ m, m ≤ n → acV f n o m * 10 ^ (n - m) + rV f (n - m) = o * 10 ^ n + rV f n := by
  intro m
  induction m with
  | zero => intro _; rfl
  | succ m ih =>
    intro hm
    rw [← ih (by omega)]
    obtain ⟨k, hk⟩ : ∃ k, n - m = k + 1 := ⟨n - m - 1, by omega⟩
    rw [hk, show n - (m + 1) = k by omega]
    show (10 * acV f n o m + f (n - 1 - m)) * 10 ^ k + rV f k = acV f n o m * 10 ^ (k + 1) + (rV f k + 10 ^ k * f k)
    rw [show n - 1 - m = k by omega, Int.pow_succ, Int.add_mul, Int.mul_assoc, Int.mul_comm (f k), ← Int.mul_assoc (acV f n o m), Int.mul_comm 10]
    have e : acV f n o m * 10 ^ k * 10 = acV f n o m * (10 ^ k * 10) := Int.mul_assoc _ _ _
    have e2 : acV f n o m * (10 * 10 ^ k) = acV f n o m * (10 ^ k * 10) := by rw [Int.mul_comm 10]
    first
      | omega
      | (rw [Int.mul_comm 10]; omega)
theorem acV_all (f : Nat → Int) (n : Nat) (o : Int) : acV f n o n = o * 10 ^ n + rV f n := by
  have := acV_eq f n o n (Nat.le_refl _)
  rw [Nat.sub_self] at this
  rw [← this]
  show _ = acV f n o n * 1 + 0
  omega
theorem row_sum {F : Nat → Nat → Int} {n : Nat} (h : ∀ i, i < n → rowAt F i = true) (m : Nat) (hm : m ≤ n) : cin F m * 10 ^ m + rV (fun i => F i 3) m = rV (fun i => F i 0) m * F 0 1 := by
  induction m with
  | zero =>
    show (0 : Int) * 10 ^ 0 + 0 = 0 * F 0 1
    rw [Int.zero_mul, Int.zero_mul]; rfl
  | succ m ih =>
    have h1 := ih (by omega)
    obtain ⟨e1, _, _, _, _, _, e2, e3⟩ := rowAt_iff.1 (h m (by omega))
    rw [e2] at e3
    show F m 4 * 10 ^ (m + 1) + (rV (fun i => F i 3) m + 10 ^ m * F m 3) = (rV (fun i => F i 0) m + 10 ^ m * F m 0) * F 0 1
    rw [Int.add_mul, ← h1, ← e1]
    have e4 : (F m 0 * F 0 1 + F m 2) * 10 ^ m = (F m 3 + 10 * F m 4) * 10 ^ m := by rw [e3]
    rw [Int.add_mul, Int.add_mul] at e4
    have e5 : F m 4 * 10 ^ (m + 1) = 10 * F m 4 * 10 ^ m := by rw [Int.pow_succ, Int.mul_comm 10, Int.mul_assoc, Int.mul_comm 10]
    have e6 : 10 ^ m * F m 3 = F m 3 * 10 ^ m := Int.mul_comm _ _
    have e7 : 10 ^ m * F m 0 * F 0 1 = F m 0 * F 0 1 * 10 ^ m := by rw [Int.mul_assoc, Int.mul_comm]
    omega
end Go.Proofs.YtfmfjbphflkhiaaGreatDoor
