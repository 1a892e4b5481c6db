/- Plain facts on numerals: texts of digits as lists of bytes. No program. -/
import Derived.Below
namespace Go.Proofs.YtfmfjbphflkhiaaGreatDoor
set_option linter.unusedVariables false
set_option linter.unusedSimpArgs false

def isD (b : UInt8) : Bool := decide (48 ≤ b.toNat) && decide (b.toNat ≤ 57)
/-- Is it a numeral? -/
def numB (l : List UInt8) : Bool := l.all isD && (decide (1 ≤ l.length ∧ l.length ≤ 9) && (!(l.headD 0 == 48) || l.length == 1))
/-- The digit at a place, from the last one on. -/
def dg (l : List UInt8) (place : Nat) : Int := if place < l.length then ((l.getD (l.length - 1 - place) 0).toNat : Int) - 48 else 0
/-- The digits, from the last one on. -/
def digs (l : List UInt8) : List Int := l.reverse.map fun b => (b.toNat : Int) - 48
/-- The number that digits tell, the last place first. -/
def valR : List Int → Int
  | [] => 0
  | d :: ds => d + 10 * valR ds
def val (l : List UInt8) : Int := valR (digs l)

theorem numB_all {l : List UInt8} (h : numB l = true) : ∀ b ∈ l, 48 ≤ b.toNat ∧ b.toNat ≤ 57 := by
  unfold numB at h
  simp only [Bool.and_eq_true, List.all_eq_true] at h
  intro b hb
  have := h.1 b hb
  simpa [isD] using this
theorem numB_len {l : List UInt8} (h : numB l = true) : 1 ≤ l.length ∧ l.length ≤ 9 := by
  unfold numB at h
  simp only [Bool.and_eq_true, decide_eq_true_eq] at h
  exact h.2.1
theorem numB_head {l : List UInt8} (h : numB l = true) : l.headD 0 ≠ 48 ∨ l.length = 1 := by
  unfold numB at h
  simp only [Bool.and_eq_true, Bool.or_eq_true, Bool.not_eq_true', beq_eq_false_iff_ne, beq_iff_eq] at h
  exact h.2.2
theorem numB_mk {l : List UInt8} (h1 : ∀ b ∈ l, 48 ≤ b.toNat ∧ b.toNat ≤ 57) (h2 : 1 ≤ l.length) (h3 : l.length ≤ 9) (h4 : l.headD 0 ≠ 48 ∨ l.length = 1) : numB l = true := by
  unfold numB
  simp only [Bool.and_eq_true, List.all_eq_true, Bool.or_eq_true, Bool.not_eq_true', beq_eq_false_iff_ne, beq_iff_eq, decide_eq_true_eq]
  exact ⟨fun b hb => by simpa [isD] using h1 b hb, ⟨h2, h3⟩, h4⟩

theorem digs_length (l : List UInt8) : (digs l).length = l.length := by simp [digs]
theorem digs_getD (l : List UInt8) (k : Nat) : (digs l).getD k 0 = dg l k := by
  unfold dg digs
  by_cases h : k < l.length
  · rw [if_pos h, List.getD_eq_getElem?_getD, List.getElem?_map, List.getElem?_reverse h, List.getD_eq_getElem?_getD]
    rw [List.getElem?_eq_getElem (by omega)]
    rfl
  · rw [if_neg h, List.getD_eq_getElem?_getD, List.getElem?_eq_none (by simp; omega)]
    rfl
theorem dg_range {l : List UInt8} (h : ∀ b ∈ l, 48 ≤ b.toNat ∧ b.toNat ≤ 57) (k : Nat) : 0 ≤ dg l k ∧ dg l k ≤ 9 := by
  unfold dg
  split
  · rw [List.getD_eq_getElem?_getD, List.getElem?_eq_getElem (by omega)]
    have := h _ (List.getElem_mem (show l.length - 1 - k < l.length by omega))
    simp only [Option.getD_some]
    omega
  · omega
theorem digs_range {l : List UInt8} (h : ∀ b ∈ l, 48 ≤ b.toNat ∧ b.toNat ≤ 57) : ∀ d ∈ digs l, 0 ≤ d ∧ d ≤ 9 := by
  intro d hd
  simp only [digs, List.mem_map, List.mem_reverse] at hd
  obtain ⟨b, hb, rfl⟩ := hd
  have := h b hb
  omega

/-- What digits are worth is at least 0, and less than 10 to their number. -/
theorem valR_range : ∀ (ds : List Int), (∀ d ∈ ds, 0 ≤ d ∧ d ≤ 9) → 0 ≤ valR ds ∧ valR ds < 10 ^ ds.length := by
  intro ds
  induction ds with
  | nil => intro _; simp [valR]
  | cons d ds ih =>
    intro h
    have h1 := ih fun x hx => h x (List.mem_cons_of_mem _ hx)
    have h2 := h d List.mem_cons_self
    simp only [valR, List.length_cons, Int.pow_succ]
    omega
theorem valR_append : ∀ (a b : List Int), valR (a ++ b) = valR a + 10 ^ a.length * valR b := by
  intro a b
  induction a with
  | nil => simp [valR]
  | cons d a ih =>
    simp only [List.cons_append, valR, ih, List.length_cons, Int.pow_succ]
    rw [Int.mul_add, ← Int.add_assoc, ← Int.mul_assoc, Int.mul_comm 10 (10 ^ a.length)]
theorem valR_zeros (n : Nat) : valR (List.replicate n 0) = 0 := by
  induction n with
  | zero => rfl
  | succ n ih => simp [List.replicate_succ, valR, ih]
/-- Equal worth, equal length: equal digits. -/
theorem valR_inj : ∀ (a b : List Int), a.length = b.length → (∀ d ∈ a, 0 ≤ d ∧ d ≤ 9) → (∀ d ∈ b, 0 ≤ d ∧ d ≤ 9) → valR a = valR b → a = b := by
  intro a
  induction a with
  | nil => intro b hl _ _ _; exact (List.eq_nil_of_length_eq_zero (by simpa using hl.symm)).symm
  | cons d a ih =>
    intro b hl ha hb hv
    cases b with
    | nil => simp at hl
    | cons e b =>
      simp only [valR] at hv
      have h1 := ha d List.mem_cons_self
      have h2 := hb e List.mem_cons_self
      have hde : d = e := by omega
      have hvv : valR a = valR b := by omega
      rw [hde, ih b (by simpa using hl) (fun x hx => ha x (List.mem_cons_of_mem _ hx)) (fun x hx => hb x (List.mem_cons_of_mem _ hx)) hvv]

/-- The first difference tells. -/
def cmpL : List UInt8 → List UInt8 → Int
  | [], [] => 0
  | [], _ :: _ => -1
  | _ :: _, [] => 1
  | a :: as, b :: bs => if a = b then cmpL as bs else if a < b then -1 else 1
theorem cmpL_self (a : List UInt8) : cmpL a a = 0 := by
  induction a with
  | nil => rfl
  | cons x a ih => simp [cmpL, ih]
theorem cmpL_range (a b : List UInt8) : cmpL a b = -1 ∨ cmpL a b = 0 ∨ cmpL a b = 1 := by
  induction a generalizing b with
  | nil => cases b <;> simp [cmpL]
  | cons x a ih =>
    cases b with
    | nil => simp [cmpL]
    | cons y b =>
      simp only [cmpL]
      split
      · exact ih b
      · split <;> simp
/-- Which of two numerals tells more. -/
def ordI (s t : List UInt8) : Int := if !numB s || !numB t then -2 else if s.length = t.length then cmpL s t else if s.length < t.length then -1 else 1
theorem ordI_range (s t : List UInt8) : -2 ≤ ordI s t ∧ ordI s t ≤ 1 := by
  unfold ordI
  split
  · omega
  · split
    · have := cmpL_range s t; omega
    · split <;> omega
/-- Can t be taken away from s? -/
def takB (s t : List UInt8) : Bool := decide (0 ≤ ordI s t)
theorem takB_num {s t : List UInt8} (h : takB s t = true) : numB s = true ∧ numB t = true := by
  unfold takB ordI at h
  cases hs : numB s <;> cases ht : numB t <;> simp [hs, ht] at h ⊢
/-- Texts of one length, digit by digit from the front: as the numbers. -/
def valF : List UInt8 → Int → Int
  | [], n => n
  | b :: l, n => valF l (10 * n + ((b.toNat : Int) - 48))
theorem valF_eq : ∀ (l : List UInt8) (n : Int), valF l n = 10 ^ l.length * n + val l := by
  intro l
  induction l with
  | nil => intro n; simp [valF, val, digs, valR]
  | cons b l ih =>
    intro n
    rw [valF, ih]
    have e : val (b :: l) = val l + 10 ^ l.length * ((b.toNat : Int) - 48) := by
      unfold val digs
      rw [List.reverse_cons, List.map_append, valR_append]
      simp [valR]
    rw [e, List.length_cons, Int.pow_succ, Int.mul_add, ← Int.mul_assoc]
    omega
theorem val_cons (b : UInt8) (l : List UInt8) : val (b :: l) = 10 ^ l.length * ((b.toNat : Int) - 48) + val l := by
  have h1 := valF_eq (b :: l) 0
  have h2 := valF_eq l ((b.toNat : Int) - 48)
  simp only [valF] at h1
  rw [show (10 * (0 : Int) + ((b.toNat : Int) - 48)) = (b.toNat : Int) - 48 from by omega] at h1
  rw [h2] at h1
  simp only [Int.mul_zero, Int.zero_add] at h1
  exact h1.symm
theorem val_range {l : List UInt8} (h : ∀ b ∈ l, 48 ≤ b.toNat ∧ b.toNat ≤ 57) : 0 ≤ val l ∧ val l < 10 ^ l.length := by
  have := valR_range (digs l) (digs_range h)
  rwa [digs_length] at this
theorem cmpL_val : ∀ (s t : List UInt8), s.length = t.length → (∀ b ∈ s, 48 ≤ b.toNat ∧ b.toNat ≤ 57) → (∀ b ∈ t, 48 ≤ b.toNat ∧ b.toNat ≤ 57) → (0 ≤ cmpL s t ↔ val t ≤ val s) := by
  intro s
  induction s with
  | nil => intro t hl _ _; obtain rfl : t = [] := List.eq_nil_of_length_eq_zero (by simpa using hl.symm); simp [cmpL]
  | cons a s ih =>
    intro t hl hs ht
    cases t with
    | nil => simp at hl
    | cons b t =>
      have hl' : s.length = t.length := by simpa using hl
      have hs' := fun x hx => hs x (List.mem_cons_of_mem a hx)
      have ht' := fun x hx => ht x (List.mem_cons_of_mem b hx)
      have r1 := val_range hs'
      have r2 := val_range ht'
      rw [val_cons, val_cons, hl']
      rw [hl'] at r1
      simp only [cmpL]
      by_cases e : a = b
      · rw [if_pos e, ih t hl' hs' ht', e]; omega
      · rw [if_neg e]
        have hne : a.toNat ≠ b.toNat := fun h => e (UInt8.toNat_inj.1 h)
        have hp : (0 : Int) < 10 ^ t.length := by omega
        by_cases h : a < b
        · rw [if_pos h]
          have h' : a.toNat < b.toNat := UInt8.lt_iff_toNat_lt.1 h
          have : (10 : Int) ^ t.length * ((b.toNat : Int) - 48) ≥ 10 ^ t.length * ((a.toNat : Int) - 48) + 10 ^ t.length := by
            have : ((b.toNat : Int) - 48) ≥ ((a.toNat : Int) - 48) + 1 := by omega
            have h3 := Int.mul_le_mul_of_nonneg_left this (Int.le_of_lt hp)
            rw [Int.mul_add, Int.mul_one] at h3
            exact h3
          omega
        · rw [if_neg h]
          have h' : b.toNat < a.toNat := by
            have := mt UInt8.lt_iff_toNat_lt.2 h
            omega
          have : (10 : Int) ^ t.length * ((a.toNat : Int) - 48) ≥ 10 ^ t.length * ((b.toNat : Int) - 48) + 10 ^ t.length := by
            have : ((a.toNat : Int) - 48) ≥ ((b.toNat : Int) - 48) + 1 := by omega
            have h3 := Int.mul_le_mul_of_nonneg_left this (Int.le_of_lt hp)
            rw [Int.mul_add, Int.mul_one] at h3
            exact h3
          omega
/-- The first digit of a numeral of several digits is worth something. -/
theorem val_lower {l : List UInt8} (h : numB l = true) (hl : 1 < l.length) : 10 ^ (l.length - 1) ≤ val l := by
  cases l with
  | nil => simp at hl
  | cons b l =>
    have hh := numB_head h
    have hall := numB_all h
    simp only [List.headD_cons, List.length_cons] at hh hl
    have hb : b ≠ 48 := by
      rcases hh with h | h
      · exact h
      · omega
    have h1 := hall b List.mem_cons_self
    have h2 : b.toNat ≠ 48 := fun e => hb (UInt8.toNat_inj.1 e)
    have r := val_range fun x hx => hall x (List.mem_cons_of_mem b hx)
    have hp : (0 : Int) ≤ 10 ^ l.length := Int.le_of_lt (Int.pow_pos (by decide))
    rw [val_cons]
    have h3 : (10 : Int) ^ l.length * 1 ≤ 10 ^ l.length * ((b.toNat : Int) - 48) := Int.mul_le_mul_of_nonneg_left (by omega) hp
    simp only [List.length_cons, Nat.add_sub_cancel]
    omega
theorem pow_mono {a b : Nat} (h : a ≤ b) : (10 : Int) ^ a ≤ 10 ^ b := by
  obtain ⟨c, rfl⟩ : ∃ c, b = a + c := ⟨b - a, by omega⟩
  induction c with
  | zero => simp
  | succ c ih =>
    have h1 := ih (by omega)
    have h0 : (0 : Int) < 10 ^ (a + c) := Int.pow_pos (by decide)
    rw [← Nat.add_assoc, Int.pow_succ]
    omega
theorem takB_val {s t : List UInt8} (hs : numB s = true) (ht : numB t = true) : takB s t = true ↔ val t ≤ val s := by
  have ls := numB_len hs
  have lt := numB_len ht
  unfold takB ordI
  rw [hs, ht]
  simp only [Bool.not_true, Bool.or_self, Bool.false_eq_true, if_false, decide_eq_true_eq]
  by_cases hl : s.length = t.length
  · rw [if_pos hl]
    exact cmpL_val s t hl (numB_all hs) (numB_all ht)
  · rw [if_neg hl]
    by_cases h : s.length < t.length
    · rw [if_pos h]
      have h1 := val_lower ht (by omega)
      have h2 := val_range (numB_all hs)
      have h3 := pow_mono (show s.length ≤ t.length - 1 by omega)
      omega
    · rw [if_neg h]
      have h1 := val_lower hs (by omega)
      have h2 := val_range (numB_all ht)
      have h3 := pow_mono (show t.length ≤ s.length - 1 by omega)
      omega
theorem takB_len {s t : List UInt8} (h : takB s t = true) : t.length ≤ s.length := by
  have hn := takB_num h
  unfold takB ordI at h
  rw [hn.1, hn.2] at h
  simp only [Bool.not_true, Bool.or_self, Bool.false_eq_true, if_false, decide_eq_true_eq] at h
  by_cases e : s.length = t.length
  · omega
  · rw [if_neg e] at h
    by_cases h' : s.length < t.length
    · rw [if_pos h'] at h; omega
    · omega
end Go.Proofs.YtfmfjbphflkhiaaGreatDoor
