/- Plain law, no program in sight: adding, moving, rows and their total. -/
import Derived.Test.YtfmfjbphflkhiaaGreatDoorRowP
namespace Go.Proofs.YtfmfjbphflkhiaaGreatDoor
set_option linter.unusedVariables false
set_option linter.unusedSimpArgs false

/-- Adding: what is carried to a place; the column of a place. -/
def addC (a b : List UInt8) : Nat → Int
  | 0 => 0
  | k + 1 => (dg a k + dg b k + addC a b k) / 10
def addF (a b : List UInt8) : Nat → Nat → Int := fun k j => if j = 0 then dg a k else if j = 1 then dg b k else if j = 2 then addC a b k else if j = 3 then (dg a k + dg b k + addC a b k) % 10 else addC a b (k + 1)
theorem addC_range {a b : List UInt8} (ha : ∀ k, 0 ≤ dg a k ∧ dg a k ≤ 9) (hb : ∀ k, 0 ≤ dg b k ∧ dg b k ≤ 9) (k : Nat) : 0 ≤ addC a b k ∧ addC a b k ≤ 1 := by
  induction k with
  | zero => exact ⟨Int.le_refl 0, show (0 : Int) ≤ 1 by decide⟩
  | succ k ih =>
    have h1 := ha k
    have h2 := hb k
    show 0 ≤ (dg a k + dg b k + addC a b k) / 10 ∧ (dg a k + dg b k + addC a b k) / 10 ≤ 1
    omega
def addOk (F : Nat → Nat → Int) (i : Nat) : Prop := F i 2 = cin F i ∧ (0 ≤ F i 0 ∧ F i 0 ≤ 9) ∧ (0 ≤ F i 1 ∧ F i 1 ≤ 9) ∧ (0 ≤ F i 2 ∧ F i 2 ≤ 1) ∧ (0 ≤ F i 3 ∧ F i 3 ≤ 9) ∧ (0 ≤ F i 4 ∧ F i 4 ≤ 1) ∧ F i 0 + F i 1 + F i 2 = F i 3 + 10 * F i 4
theorem add_right {a b : List UInt8} (ha : ∀ k, 0 ≤ dg a k ∧ dg a k ≤ 9) (hb : ∀ k, 0 ≤ dg b k ∧ dg b k ≤ 9) (i : Nat) : addOk (addF a b) i := by
  have h1 := ha i
  have h2 := hb i
  have h3 := addC_range ha hb i
  have h4 := addC_range ha hb (i + 1)
  have e4 : addC a b (i + 1) = (dg a i + dg b i + addC a b i) / 10 := rfl
  refine ⟨by cases i <;> rfl, h1, h2, h3, ?_, h4, ?_⟩
  · show 0 ≤ (dg a i + dg b i + addC a b i) % 10 ∧ (dg a i + dg b i + addC a b i) % 10 ≤ 9; omega
  · show dg a i + dg b i + addC a b i = (dg a i + dg b i + addC a b i) % 10 + 10 * addC a b (i + 1); omega
theorem add_sum (a b : List UInt8) (n : Nat) : addC a b n * 10 ^ n + rV (fun i => addF a b i 3) n = rV (dg a) n + rV (dg b) n := by
  induction n with
  | zero => rfl
  | succ n ih =>
    have e4 : addC a b (n + 1) = (dg a n + dg b n + addC a b n) / 10 := rfl
    have e3 : addF a b n 3 = (dg a n + dg b n + addC a b n) % 10 := rfl
    have e5 : dg a n + dg b n + addC a b n = addF a b n 3 + 10 * addC a b (n + 1) := by omega
    show addC a b (n + 1) * 10 ^ (n + 1) + (rV (fun i => addF a b i 3) n + 10 ^ n * addF a b n 3) = rV (dg a) n + 10 ^ n * dg a n + (rV (dg b) n + 10 ^ n * dg b n)
    have e6 : 10 ^ n * (dg a n + dg b n + addC a b n) = 10 ^ n * (addF a b n 3 + 10 * addC a b (n + 1)) := by rw [e5]
    rw [Int.mul_add, Int.mul_add, Int.mul_add] at e6
    have e7 : addC a b (n + 1) * 10 ^ (n + 1) = 10 ^ n * (10 * addC a b (n + 1)) := by rw [Int.pow_succ, Int.mul_comm, Int.mul_assoc]
    have e8 : addC a b n * 10 ^ n = 10 ^ n * addC a b n := Int.mul_comm _ _
    omega
/-- The sum, where both are numerals. -/
def adN (a b : List UInt8) : Nat := max a.length b.length
def adS (a b : List UInt8) : ByteArray := coS (addF a b) (adN a b)
def adB (a b : List UInt8) : Bool := coB (addF a b) (adN a b)
/-- What a row writes, where both are digits. -/
def roS (s : List UInt8) (q : Int) : ByteArray := coS (mulF s q) s.length
def roB (s : List UInt8) (q : Int) : Bool := coB (mulF s q) s.length
/-- Moved to the left. -/
def mvB (l : List UInt8) (k : Nat) : Bool := numB l && (decide (l = [48]) || decide (k + l.length ≤ 9))
def mvL (l : List UInt8) (k : Nat) : List UInt8 := if l = [48] then l else l ++ List.replicate k 48
def mvS (l : List UInt8) (k : Nat) : ByteArray := if mvB l k = true then bStr (mvL l k) else ByteArray.empty
theorem mvB_len {l : List UInt8} {k : Nat} (h : mvB l k = true) : (mvL l k).length ≤ 9 := by
  simp only [mvB, Bool.and_eq_true, Bool.or_eq_true, decide_eq_true_eq] at h
  unfold mvL
  split
  · exact (numB_len h.1).2
  · rcases h.2 with h2 | h2
    · exact absurd h2 (by assumption)
    · rw [List.length_append, List.length_replicate]; omega
theorem mvS_size (l : List UInt8) (k : Nat) : (mvS l k).size ≤ 9 := by
  unfold mvS
  split
  · rename_i h; rw [bStr_size]; exact mvB_len h
  · exact Nat.zero_le _
theorem mvL_num {l : List UInt8} {k : Nat} (h : numB l = true) : numB (mvL l k) = decide ((mvL l k).length ≤ 9) := by
  unfold mvL
  split
  · rw [h]; exact (decide_eq_true (numB_len h).2).symm
  · rename_i hne
    have hl := numB_len h
    by_cases hk : (l ++ List.replicate k 48).length ≤ 9
    · rw [decide_eq_true hk]
      refine numB_mk (fun b hb => ?_) (by rw [List.length_append]; omega) hk ?_
      · rcases List.mem_append.1 hb with hb | hb
        · exact numB_all h b hb
        · have := (List.mem_replicate.1 hb).2; subst this; decide
      · have hh := numB_head h
        cases l with
        | nil => simp at hl
        | cons c r =>
          left
          show c ≠ 48
          rcases hh with hh | hh
          · exact hh
          · have hr : r = [] := List.eq_nil_of_length_eq_zero (by simpa using hh)
            subst hr
            exact fun e => hne (by rw [e])
    · rw [decide_eq_false hk]
      cases e : numB (l ++ List.replicate k 48) with
      | false => rfl
      | true => exact absurd (numB_len e).2 hk
/-- The row for a place; all rows; their total. -/
def rtS (s t : List UInt8) (k : Nat) : ByteArray := mvS (roS s (dg t k)).data.toList k
def rtB (s t : List UInt8) (k : Nat) : Bool := roB s (dg t k) && mvB (roS s (dg t k)).data.toList k
def rwsB (s t : List UInt8) : Bool := numB s && (numB t && (List.range t.length).all (rtB s t))
def ttS (X : Nat → ByteArray) : Nat → ByteArray
  | 0 => bStr [48]
  | k + 1 => adS (ttS X k).data.toList (X k).data.toList
def ttB (X : Nat → ByteArray) : Nat → Bool
  | 0 => true
  | k + 1 => ttB X k && adB (ttS X k).data.toList (X k).data.toList
theorem coS_size (F : Nat → Nat → Int) (n : Nat) : (coS F n).size ≤ 9 := plS_size _
end Go.Proofs.YtfmfjbphflkhiaaGreatDoor
