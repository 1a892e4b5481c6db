/- Plain law, no program in sight: taking away without a fault, its last borrow. -/
import Derived.Test.YtfmfjbphflkhiaaGreatDoorTkp
import Derived.Test.YtfmfjbphflkhiaaGreatDoorRecs
namespace Go.Proofs.YtfmfjbphflkhiaaGreatDoor
set_option linter.unusedVariables false
set_option linter.unusedSimpArgs false

/-- Digits by place, added up. -/
def rV (g : Nat → Int) : Nat → Int
  | 0 => 0
  | n + 1 => rV g n + 10 ^ n * g n
theorem rV_range (g : Nat → Int) (n : Nat) (h : ∀ k, 0 ≤ g k ∧ g k ≤ 9) : 0 ≤ rV g n ∧ rV g n < 10 ^ n := by
  induction n with
  | zero => exact ⟨Int.le_refl 0, show (0 : Int) < 1 by decide⟩
  | succ n ih =>
    have hg := h n
    have hp : (0 : Int) < 10 ^ n := Int.pow_pos (by decide)
    have h1 : 0 ≤ 10 ^ n * g n := Int.mul_nonneg (by omega) hg.1
    have h2 : 10 ^ n * g n ≤ 10 ^ n * 9 := Int.mul_le_mul_of_nonneg_left hg.2 (by omega)
    rw [Int.pow_succ]
    show 0 ≤ rV g n + 10 ^ n * g n ∧ rV g n + 10 ^ n * g n < _
    omega
theorem rV_congr {f g : Nat → Int} {n : Nat} (h : ∀ k, k < n → f k = g k) : rV f n = rV g n := by
  induction n with
  | zero => rfl
  | succ n ih =>
    show rV f n + _ = rV g n + _
    rw [ih fun k hk => h k (by omega), h n (by omega)]
theorem valR_take (ds : List Int) (n : Nat) (h : n ≤ ds.length) : valR (ds.take n) = rV (fun k => ds.getD k 0) n := by
  induction n with
  | zero => rfl
  | succ n ih =>
    have hn : n < ds.length := by omega
    rw [← List.take_append_getElem hn, valR_append, ih (by omega), List.length_take, Nat.min_eq_left (by omega)]
    show _ = rV (fun k => ds.getD k 0) n + 10 ^ n * ds.getD n 0
    rw [List.getD_eq_getElem?_getD, List.getElem?_eq_getElem hn]
    simp [valR]
theorem dg_out (l : List UInt8) (k : Nat) (h : l.length ≤ k) : dg l k = 0 := by
  unfold dg
  rw [if_neg (by omega)]
theorem val_rV (l : List UInt8) (n : Nat) (h : l.length ≤ n) : val l = rV (dg l) n := by
  have h0 : val l = rV (dg l) l.length := by
    unfold val
    have := valR_take (digs l) (digs l).length (Nat.le_refl _)
    rw [List.take_length] at this
    rw [this, digs_length]
    exact rV_congr fun k _ => digs_getD l k
  rw [h0]
  induction n with
  | zero => have : l.length = 0 := by omega
            rw [this]
  | succ n ih =>
    by_cases hn : l.length = n + 1
    · rw [hn]
    · have := ih (by omega)
      show _ = rV (dg l) n + 10 ^ n * dg l n
      rw [dg_out l n (by omega), Int.mul_zero, Int.add_zero]
      exact this
theorem tk_zero (s t : List UInt8) (k : Nat) : tkD s t 0 k = dg s k - dg t k - tkB s t 0 k + 10 * tkB s t 0 (k + 1) := by
  show (colP _ _ _ _ 0).1 = _ + 10 * (colP _ _ _ _ 0).2
  unfold colP
  have e1 : ¬ ((0 : Int) / 4 % 2 = 1 ∧ dg s k = 0 ∧ dg t k ≠ 0) := fun h => absurd h.1 (by decide)
  have e2 : ¬ ((0 : Int) / 8 % 2 = 1 ∧ dg t k = 0 ∧ decide (k < t.length) = true) := fun h => absurd h.1 (by decide)
  have e3 : ¬ ((0 : Int) % 2 = 1) := by decide
  rw [if_neg e1, if_neg e2, if_neg e3, if_pos (show (0 : Int) / 2 % 2 = 0 by decide)]
  split <;> (dsimp only; omega)
theorem tk_sum (s t : List UInt8) (n : Nat) : rV (tkD s t 0) n = rV (dg s) n - rV (dg t) n + 10 ^ n * tkB s t 0 n := by
  induction n with
  | zero => simp [rV, tkB]
  | succ n ih =>
    show rV (tkD s t 0) n + 10 ^ n * tkD s t 0 n = rV (dg s) n + 10 ^ n * dg s n - (rV (dg t) n + 10 ^ n * dg t n) + 10 ^ (n + 1) * tkB s t 0 (n + 1)
    rw [ih, tk_zero, Int.pow_succ]
    have e : (10 : Int) ^ n * (dg s n - dg t n - tkB s t 0 n + 10 * tkB s t 0 (n + 1)) = 10 ^ n * dg s n - 10 ^ n * dg t n - 10 ^ n * tkB s t 0 n + 10 ^ n * 10 * tkB s t 0 (n + 1) := by
      rw [Int.mul_add, Int.mul_sub, Int.mul_sub, ← Int.mul_assoc]
    rw [e]
    omega
/-- Nothing is borrowed at last. -/
theorem tk_last {s t : List UInt8} (h : takB s t = true) : tkB s t 0 s.length = 0 := by
  have hn := takB_num h
  have hv := (takB_val hn.1 hn.2).1 h
  have hl := takB_len h
  rw [val_rV s s.length (Nat.le_refl _), val_rV t s.length hl] at hv
  have hs := tk_sum s t s.length
  have hr := rV_range (tkD s t 0) s.length fun k => tkD_range hn.1 hn.2 0 k
  rcases tkB_01 hn.1 hn.2 0 s.length with h0 | h1
  · exact h0
  · rw [h1] at hs; omega
/-- The numbers of the transcript of taking away. -/
def tkF (s t : List UInt8) (i j : Nat) : Int :=
  if j = 0 then dg s i else if j = 1 then dg t i else if j = 2 then tkB s t 0 i else if j = 3 then tkD s t 0 i else tkB s t 0 (i + 1)
theorem recCells5_succ (F : Nat → Nat → Int) (n : Nat) : recCells 5 (IV F) (n + 1) = recCells 5 (IV F) n ++ [.int .i64 (F n 0), .int .i64 (F n 1), .int .i64 (F n 2), .int .i64 (F n 3), .int .i64 (F n 4)] := by
  rw [recCells_succ]; rfl
/-- What a right column is, by itself. -/
def colOk (F : Nat → Nat → Int) (i : Nat) : Prop := (0 ≤ F i 0 ∧ F i 0 ≤ 9) ∧ (0 ≤ F i 1 ∧ F i 1 ≤ 9) ∧ (0 ≤ F i 2 ∧ F i 2 ≤ 1) ∧ (0 ≤ F i 3 ∧ F i 3 ≤ 9) ∧ (0 ≤ F i 4 ∧ F i 4 ≤ 1) ∧ F i 0 + 10 * F i 4 = F i 1 + F i 2 + F i 3
theorem tk_colOk {s t : List UInt8} (hs : numB s = true) (ht : numB t = true) (i : Nat) : colOk (tkF s t) i := by
  have h1 := dg_range (numB_all hs) i
  have h2 := dg_range (numB_all ht) i
  have h3 := tkB_01 hs ht 0 i
  have h4 := tkB_01 hs ht 0 (i + 1)
  have h5 := tkD_range hs ht 0 i
  have h6 := tk_zero s t i
  unfold colOk
  show (0 ≤ dg s i ∧ dg s i ≤ 9) ∧ (0 ≤ dg t i ∧ dg t i ≤ 9) ∧ (0 ≤ tkB s t 0 i ∧ tkB s t 0 i ≤ 1) ∧ (0 ≤ tkD s t 0 i ∧ tkD s t 0 i ≤ 9) ∧ (0 ≤ tkB s t 0 (i + 1) ∧ tkB s t 0 (i + 1) ≤ 1) ∧ dg s i + 10 * tkB s t 0 (i + 1) = dg t i + tkB s t 0 i + tkD s t 0 i
  omega
end Go.Proofs.YtfmfjbphflkhiaaGreatDoor
