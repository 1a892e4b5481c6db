/- Plain laws: what rows, sums and totals are worth; the product; a numeral is told by its number; what checks out. -/
import Derived.Test.YtfmfjbphflkhiaaGreatDoorAdd
import Derived.Test.YtfmfjbphflkhiaaGreatDoorRowV
import Derived.Test.YtfmfjbphflkhiaaGreatDoorNeP
namespace Go.Proofs.YtfmfjbphflkhiaaGreatDoor
set_option linter.unusedVariables false
set_option linter.unusedSimpArgs false
open Go.RowKit

theorem ad_num {a b : ByteArray} (ha : numB a.data.toList = true) (hb : numB b.data.toList = true) (h : adB a.data.toList b.data.toList = true) : numB (adS a.data.toList b.data.toList).data.toList = true := by
  have hT := add_is_right ha hb
  exact plS_num (rwD_mem hT.1 (addRight_dig hT)) h
theorem mv_num {l : List UInt8} {k : Nat} (h : mvB l k = true) : numB (mvS l k).data.toList = true := by
  have hb := h
  simp only [mvB, Bool.and_eq_true] at hb
  unfold mvS
  rw [if_pos h, bStr_list, mvL_num hb.1]
  exact decide_eq_true (mvB_len h)
theorem rt_num {s t : List UInt8} {k : Nat} (h : rtB s t k = true) : numB (rtS s t k).data.toList = true := by
  simp only [rtB, Bool.and_eq_true] at h
  exact mv_num h.2
theorem rws_at {s t : List UInt8} (h : rwsB s t = true) : numB s = true ∧ numB t = true ∧ ∀ j, j < t.length → rtB s t j = true := by
  simp only [rwsB, Bool.and_eq_true, List.all_eq_true, List.mem_range] at h
  exact ⟨h.1, h.2.1, h.2.2⟩
theorem tt_num {X : Nat → ByteArray} {n : Nat} (hX : ∀ i, i < n → numB (X i).data.toList = true) : ∀ k, k ≤ n → ttB X k = true → numB (ttS X k).data.toList = true := by
  intro k
  induction k with
  | zero => intro _ _; rw [show (ttS X 0).data.toList = [48] from bStr_list _]; rfl
  | succ k ih =>
    intro hk h
    have h' : ttB X k = true ∧ adB (ttS X k).data.toList (X k).data.toList = true := by
      have : (ttB X k && adB (ttS X k).data.toList (X k).data.toList) = true := h
      simpa using this
    exact ad_num (ih (by omega) h'.1) (hX k (by omega)) h'.2
theorem tt_stop {X : Nat → ByteArray} {k : Nat} (h : ttB X k = false) : ∀ n, k ≤ n → ttB X n = false := by
  intro n
  induction n with
  | zero => intro hk; obtain rfl : k = 0 := by omega
            exact h
  | succ n ih =>
    intro hk
    by_cases e : k = n + 1
    · rw [← e]; exact h
    · show (ttB X n && adB (ttS X n).data.toList (X n).data.toList) = false
      rw [ih (by omega)]; rfl
theorem tt_size {X : Nat → ByteArray} (k : Nat) : (ttS X k).size ≤ 9 := by
  cases k with
  | zero => show (bStr [48]).size ≤ 9; decide
  | succ k => exact coS_size _ _
def ttR (X : Nat → ByteArray) (n : Nat) : ByteArray := if ttB X n = true then ttS X n else ByteArray.empty
theorem ttR_size (X : Nat → ByteArray) (n : Nat) : (ttR X n).size ≤ 9 := by
  unfold ttR
  split
  · exact tt_size _
  · exact Nat.zero_le _
def prB (s t : List UInt8) : Bool := rwsB s t && ttB (rtS s t) t.length
def prS (s t : List UInt8) : ByteArray := if prB s t = true then ttS (rtS s t) t.length else ByteArray.empty
theorem prS_size (s t : List UInt8) : (prS s t).size ≤ 9 := by
  unfold prS
  split
  · exact tt_size _
  · exact Nat.zero_le _
theorem valO_num {l : List UInt8} (h : numB l = true) : valO l = val l := if_pos h
theorem valO_range {l : List UInt8} (h : numB l = true) : 0 ≤ valO l ∧ valO l < 1000000000 := by
  have h1 := val_range (numB_all h)
  have h2 := pow_small l.length (numB_len h).2
  rw [valO_num h]; omega
/-- A row by a digit. -/
theorem ro_val {s : List UInt8} {q : Int} (hn : numB s = true) (hq : 0 ≤ q ∧ q ≤ 9) (hb : roB s q = true) : numB (roS s q).data.toList = true ∧ valO (roS s q).data.toList = val s * q := by
  have hl := numB_len hn
  have hv := row_val (F := mulF s q) hl.1 (fun j _ => mul_right (fun k => dg_range (numB_all hn) k) hq j) hb
  refine ⟨hv.1, ?_⟩
  rw [val_rV s s.length (Nat.le_refl _)]
  exact hv.2
theorem val_moved (l : List UInt8) (k : Nat) : val (l ++ List.replicate k 48) = val l * 10 ^ k := by
  induction k with
  | zero => rw [List.replicate_zero, List.append_nil, Int.pow_zero, Int.mul_one]
  | succ k ih =>
    rw [List.replicate_succ', ← List.append_assoc, val_F, valF_snoc, ← val_F, ih]
    have e : (((48 : UInt8).toNat : Int) - 48) = 0 := by decide
    rw [e, Int.add_zero, Int.pow_succ, Int.mul_comm 10, Int.mul_assoc]
theorem mv_val {l : List UInt8} {k : Nat} (h : mvB l k = true) : numB (mvS l k).data.toList = true ∧ valO (mvS l k).data.toList = val l * 10 ^ k := by
  have hn := mv_num h
  refine ⟨hn, ?_⟩
  rw [valO_num hn]
  unfold mvS
  rw [if_pos h, bStr_list]
  unfold mvL
  split
  · rename_i e
    rw [e, show val [48] = 0 from rfl, Int.zero_mul]
  · exact val_moved l k
def suV (X : Nat → ByteArray) : Nat → Int
  | 0 => 0
  | k + 1 => suV X k + valO (X k).data.toList
theorem su_range {X : Nat → ByteArray} {n : Nat} (hX : ∀ i, i < n → numB (X i).data.toList = true) : ∀ k, k ≤ n → 0 ≤ suV X k ∧ suV X k ≤ 1000000000 * k := by
  intro k
  induction k with
  | zero => intro _; exact ⟨Int.le_refl 0, Int.le_refl 0⟩
  | succ k ih =>
    intro hk
    have h1 := ih (by omega)
    have h2 := valO_range (hX k (by omega))
    show 0 ≤ suV X k + valO (X k).data.toList ∧ suV X k + valO (X k).data.toList ≤ _
    omega
theorem rt_val {s t : List UInt8} {k : Nat} (hn : numB s = true) (ht : numB t = true) (h : rtB s t k = true) : valO (rtS s t k).data.toList = val s * (10 ^ k * dg t k) := by
  simp only [rtB, Bool.and_eq_true] at h
  obtain ⟨h1, h2⟩ := ro_val hn (dg_range (numB_all ht) k) h.1
  obtain ⟨h3, h4⟩ := mv_val h.2
  show valO (mvS _ _).data.toList = _
  rw [h4, ← valO_num h1, h2, Int.mul_assoc, Int.mul_comm (dg t k)]
theorem su_rows {s t : List UInt8} (hn : numB s = true) (ht : numB t = true) (h : ∀ j, j < t.length → rtB s t j = true) : ∀ k, k ≤ t.length → suV (rtS s t) k = val s * rV (dg t) k := by
  intro k
  induction k with
  | zero => intro _; show (0 : Int) = val s * 0; rw [Int.mul_zero]
  | succ k ih =>
    intro hk
    show suV (rtS s t) k + valO (rtS s t k).data.toList = val s * (rV (dg t) k + 10 ^ k * dg t k)
    rw [ih (by omega), rt_val hn ht (h k (by omega)), Int.mul_add]
/-- All rows together are the product. -/
theorem rows_sum {s t : List UInt8} (h : rwsB s t = true) : suV (rtS s t) t.length = valO s * valO t := by
  obtain ⟨hs, ht, hr⟩ := rws_at h
  rw [su_rows hs ht hr t.length (Nat.le_refl _), valO_num hs, valO_num ht, val_rV t t.length (Nat.le_refl _)]
theorem ad_val {a b : ByteArray} (ha : numB a.data.toList = true) (hb : numB b.data.toList = true) (h : adB a.data.toList b.data.toList = true) : valO (adS a.data.toList b.data.toList).data.toList = valO a.data.toList + valO b.data.toList := by
  have hT := add_is_right ha hb
  have hv := (co_val hT.1 (addRight_dig hT) h).2
  show valO (coS (addF a.data.toList b.data.toList) (adN a.data.toList b.data.toList)).data.toList = _
  rw [hv, valO_num ha, valO_num hb, val_rV a.data.toList (adN a.data.toList b.data.toList) (Nat.le_max_left _ _), val_rV b.data.toList (adN a.data.toList b.data.toList) (Nat.le_max_right _ _), ← add_sum]
  have h1 := hT.1
  obtain ⟨m, hm⟩ : ∃ m, adN a.data.toList b.data.toList = m + 1 := ⟨adN a.data.toList b.data.toList - 1, by omega⟩
  rw [hm]; rfl
theorem tt_val {X : Nat → ByteArray} {n : Nat} (hX : ∀ i, i < n → numB (X i).data.toList = true) : ∀ k, k ≤ n → ttB X k = true → valO (ttS X k).data.toList = suV X k := by
  intro k
  induction k with
  | zero => intro _ _; rw [show (ttS X 0).data.toList = [48] from bStr_list _]; rfl
  | succ k ih =>
    intro hk h
    have h' : ttB X k = true ∧ adB (ttS X k).data.toList (X k).data.toList = true := by
      have : (ttB X k && adB (ttS X k).data.toList (X k).data.toList) = true := h
      simpa using this
    show valO (adS (ttS X k).data.toList (X k).data.toList).data.toList = suV X k + _
    rw [ad_val (tt_num hX k (by omega) h'.1) (hX k (by omega)) h'.2, ih (by omega) h'.1]
/-- The product. -/
theorem pr_val {s t : List UInt8} (h : prB s t = true) : numB (prS s t).data.toList = true ∧ valO (prS s t).data.toList = valO s * valO t := by
  have hb := h
  simp only [prB, Bool.and_eq_true] at hb
  obtain ⟨hs, ht, hr⟩ := rws_at hb.1
  have e : prS s t = ttS (rtS s t) t.length := if_pos h
  have hX : ∀ i, i < t.length → numB (rtS s t i).data.toList = true := fun i hi => rt_num (hr i hi)
  rw [e, ← rows_sum hb.1]
  exact ⟨tt_num hX _ (Nat.le_refl _) hb.2, tt_val hX _ (Nat.le_refl _) hb.2⟩
theorem pr_num {s t : List UInt8} (h : prB s t = true) : numB s = true ∧ numB t = true := by
  have hb := h
  simp only [prB, Bool.and_eq_true] at hb
  obtain ⟨hs, ht, hr⟩ := rws_at hb.1
  exact ⟨hs, ht⟩
theorem pr_no {s t : List UInt8} (h : prB s t = false) : prS s t = ⟨#[]⟩ := if_neg (by rw [h]; decide)
theorem num_len {a b : List UInt8} (ha : numB a = true) (hb : numB b = true) (h : val a = val b) : a.length = b.length := by
  have key : ∀ {a b : List UInt8}, numB a = true → numB b = true → val a = val b → ¬ a.length < b.length := by
    intro a b ha hb h hlt
    have h1 := numB_len ha
    have h2 := val_lower hb (by omega)
    have h3 := (val_range (numB_all ha)).2
    have h4 := pow_mono (show a.length ≤ b.length - 1 by omega)
    omega
  have h1 := key ha hb h
  have h2 := key hb ha h.symm
  omega
/-- A numeral is told by its number. -/
theorem num_inj {a b : List UInt8} (ha : numB a = true) (hb : numB b = true) (h : val a = val b) : a = b := by
  have hl := num_len ha hb h
  have hd : digs a = digs b := valR_inj _ _ (by rw [digs_length, digs_length, hl]) (digs_range (numB_all ha)) (digs_range (numB_all hb)) h
  have hd' : a.reverse.map (fun b => (b.toNat : Int) - 48) = b.reverse.map fun b => (b.toNat : Int) - 48 := hd
  have hi := (List.map_inj_right (f := fun b : UInt8 => (b.toNat : Int) - 48) (fun x y e => UInt8.toNat_inj.1 (by have e' : (x.toNat : Int) - 48 = (y.toNat : Int) - 48 := e; omega))).1 hd'
  exact List.reverse_inj.1 hi
theorem pr_back {s t : List UInt8} (h : prB s t = true) (h' : prB t s = true) : prS t s = prS s t := by
  obtain ⟨h1, h2⟩ := pr_val h
  obtain ⟨h3, h4⟩ := pr_val h'
  rw [valO_num h1] at h2
  rw [valO_num h3] at h4
  have := num_inj h3 h1 (by rw [h2, h4, Int.mul_comm])
  rw [← bStr_of (prS t s), this, bStr_of]
/-- Does it check out? -/
def chB (s t p : List UInt8) : Bool := numB s && (numB t && (numB p && (ninI s * ninI t % 9 == ninI p && eleI s * eleI t % 11 == eleI p)))
theorem ch_is {s t p : List UInt8} (hs : numB s = true) (ht : numB t = true) (hp : numB p = true) : chB s t p = (ninI s * ninI t % 9 == ninI p && eleI s * eleI t % 11 == eleI p) := by
  unfold chB
  rw [hs, ht, hp]; rfl
theorem ch_iff {s t p : List UInt8} (hs : numB s = true) (ht : numB t = true) (hp : numB p = true) : chB s t p = ((valO s * valO t - valO p) % 99 == 0) := by
  rw [ch_is hs ht hp, valO_num hs, valO_num ht, valO_num hp]
  unfold ninI eleI
  simp only [if_pos hs, if_pos ht, if_pos hp]
  rw [Bool.eq_iff_iff, Bool.and_eq_true, beq_iff_eq, beq_iff_eq, beq_iff_eq]
  exact checks
theorem ch_prod {s t : List UInt8} (h : prB s t = true) : chB s t (prS s t).data.toList = true := by
  obtain ⟨h1, h2⟩ := pr_val h
  obtain ⟨hs, ht⟩ := pr_num h
  rw [ch_iff hs ht h1, h2, Int.sub_self]; rfl
theorem nin_range {s : List UInt8} (hs : numB s = true) : 0 ≤ ninI s ∧ ninI s ≤ 8 := by
  unfold ninI
  rw [if_pos hs]; omega
theorem ele_range {s : List UInt8} (hs : numB s = true) : 0 ≤ eleI s ∧ eleI s ≤ 10 := by
  unfold eleI
  rw [if_pos hs]; omega
theorem prod_range {a b A B : Int} (ha : 0 ≤ a ∧ a ≤ A) (hb : 0 ≤ b ∧ b ≤ B) : 0 ≤ a * b ∧ a * b ≤ A * B :=
  ⟨Int.mul_nonneg ha.1 hb.1, Int.le_trans (Int.mul_le_mul_of_nonneg_right ha.2 hb.1) (Int.mul_le_mul_of_nonneg_left hb.2 (Int.le_trans ha.1 ha.2))⟩
end Go.Proofs.YtfmfjbphflkhiaaGreatDoor
