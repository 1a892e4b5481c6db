/- Words for lists of structs of k one-cell fields. -/
import Derived.Test.YtfmfjbphflkhiaaGreatDoorMem
namespace Go.Proofs.YtfmfjbphflkhiaaGreatDoor
set_option linter.unusedVariables false
set_option linter.unusedSimpArgs false
open Go.RowKit

/-- The slice value v leads to n records of k cells: the field j of the record i holds V i j. -/
def Recs (w : World) (B : Nat) (v : Value) (n k : Nat) (V : Nat → Nat → Value) : Prop :=
  ∃ A cap, v = .slice A n cap ∧ n ≤ cap ∧ cap ≤ maxLen ∧ (0 < n → ∃ b o, A = some ⟨b, o, none⟩ ∧ b < B ∧ ∀ i, i < n → ∀ j, j < k → w.cell? ⟨b, o + i * k + j, none⟩ = some (V i j))
section
variable {w w' : World} {B B' n k : Nat} {v : Value} {V U : Nat → Nat → Value}
theorem Recs.keep (h : Recs w B v n k V) (hk : ∀ b o, b < B → w'.cell? ⟨b, o, none⟩ = w.cell? ⟨b, o, none⟩) : Recs w' B v n k V := by
  obtain ⟨A, cap, rfl, h1, h2, h3⟩ := h
  refine ⟨A, cap, rfl, h1, h2, fun hm => ?_⟩
  obtain ⟨b, o, rfl, hb, hc⟩ := h3 hm
  exact ⟨b, o, rfl, hb, fun i hi j hj => (hk b _ hb).trans (hc i hi j hj)⟩
theorem Recs.mono (h : Recs w B v n k V) (hB : B ≤ B') : Recs w B' v n k V := by
  obtain ⟨A, cap, rfl, h1, h2, h3⟩ := h
  refine ⟨A, cap, rfl, h1, h2, fun hm => ?_⟩
  obtain ⟨b, o, rfl, hb, hc⟩ := h3 hm
  exact ⟨b, o, rfl, by omega, hc⟩
theorem Recs.below (h : Recs w B v n k V) (hb : Below B' w w') (hB : B ≤ B') : Recs w' B v n k V := h.keep fun b o hbB => hb.cell (p := ⟨b, o, none⟩) (by show b < B'; omega)
theorem Recs.grown (h : Recs w B v n k V) {row : Option Nat} (hg : w.grownBy w' row) (hB : B ≤ w.heap.size) (hr : ∀ k, row = some k → B ≤ k) : Recs w' B v n k V :=
  h.keep fun b o hb => World.cell?_of_block (hg.block b (by omega) (fun e => by have := hr b e.symm; omega))
theorem Recs.congr (h : Recs w B v n k V) (hVU : ∀ i, i < n → ∀ j, j < k → V i j = U i j) : Recs w B v n k U := by
  obtain ⟨A, cap, rfl, h1, h2, h3⟩ := h
  refine ⟨A, cap, rfl, h1, h2, fun hm => ?_⟩
  obtain ⟨b, o, rfl, hb, hc⟩ := h3 hm
  exact ⟨b, o, rfl, hb, fun i hi j hj => by rw [hc i hi j hj, hVU i hi j hj]⟩
theorem Recs.nil (w : World) (B k : Nat) (V : Nat → Nat → Value) : Recs w B (.slice none 0 0) 0 k V := ⟨none, 0, rfl, Nat.le_refl _, Nat.zero_le _, fun h => by omega⟩

/-- The cells of n records. -/
def recCells (k : Nat) (V : Nat → Nat → Value) (n : Nat) : List Value := (List.range (n * k)).map fun m => V (m / k) (m % k)
theorem recCells_length (k : Nat) (V : Nat → Nat → Value) (n : Nat) : (recCells k V n).length = n * k := by simp [recCells]
theorem rec_div {i j : Nat} (hj : j < k) : (i * k + j) / k = i ∧ (i * k + j) % k = j := by
  have hk : 0 < k := by omega
  constructor
  · rw [Nat.mul_comm, Nat.mul_add_div hk, Nat.div_eq_of_lt hj]; rfl
  · rw [Nat.mul_comm, Nat.mul_add_mod, Nat.mod_eq_of_lt hj]
theorem rec_lt {i j : Nat} (hi : i < n) (hj : j < k) : i * k + j < n * k := by
  have : (i + 1) * k ≤ n * k := Nat.mul_le_mul_right k hi
  rw [Nat.add_mul, Nat.one_mul] at this
  omega
theorem recCells_at {i j : Nat} (hi : i < n) (hj : j < k) : (recCells k V n)[i * k + j]? = some (V i j) := by
  have h := rec_div (i := i) hj
  simp [recCells, rec_lt hi hj, h.1, h.2]
theorem recCells_zero (k : Nat) (V : Nat → Nat → Value) : recCells k V 0 = [] := by simp [recCells]
theorem recCells_succ (k : Nat) (V : Nat → Nat → Value) (n : Nat) : recCells k V (n + 1) = recCells k V n ++ (List.range k).map (V n) := by
  unfold recCells
  rw [Nat.add_mul, Nat.one_mul, List.range_add, List.map_append, List.map_map]
  congr 1
  apply List.map_congr_left
  intro j hj
  have hj' : j < k := by simpa using hj
  have h := rec_div (i := n) hj'
  simp only [Function.comp]
  rw [h.1, h.2]
theorem recCells_congr (h : ∀ i, i < n → ∀ j, j < k → V i j = U i j) : recCells k V n = recCells k U n := by
  unfold recCells
  apply List.map_congr_left
  intro m hm
  have hm' : m < n * k := by simpa using hm
  have hk : 0 < k := by
    rcases Nat.eq_zero_or_pos k with e | e
    · rw [e, Nat.mul_zero] at hm'; omega
    · exact e
  exact h _ (Nat.div_lt_of_lt_mul (by rw [Nat.mul_comm]; exact hm')) _ (Nat.mod_lt _ hk)
def upd (V : Nat → Nat → Value) (i j : Nat) (u : Value) : Nat → Nat → Value := fun a b => if a = i ∧ b = j then u else V a b
theorem recCells_set {i j : Nat} (hi : i < n) (hj : j < k) (u : Value) : (recCells k V n).set (i * k + j) u = recCells k (upd V i j u) n := by
  apply List.ext_getElem?
  intro m
  rw [List.getElem?_set]
  have hk : 0 < k := by omega
  by_cases hm : m < n * k
  · have e := Nat.div_add_mod m k
    have hq : m / k < n := Nat.div_lt_of_lt_mul (by rw [Nat.mul_comm]; exact hm)
    have hr := Nat.mod_lt m hk
    have e' : m = (m / k) * k + m % k := by rw [Nat.mul_comm]; exact e.symm
    by_cases h : i * k + j = m
    · rw [if_pos h, recCells_length, if_pos (by omega)]
      have h1 := rec_div (i := i) hj
      rw [h] at h1
      rw [← h, recCells_at hi hj]
      simp [upd]
    · rw [if_neg h]
      rw [e', recCells_at hq hr, recCells_at hq hr]
      have : ¬ (m / k = i ∧ m % k = j) := fun hh => h (by rw [e', hh.1, hh.2])
      simp [upd, this]
  · rw [if_neg (by have := rec_lt hi hj; omega)]
    rw [List.getElem?_eq_none (by rw [recCells_length]; omega), List.getElem?_eq_none (by rw [recCells_length]; omega)]
theorem Recs.of_own {base : Nat} {e : TypeId} (h : Own w base e k v n (recCells k V n)) : Recs w w.heap.size v n k V := by
  by_cases hn : 0 < n
  · obtain ⟨g, cap, rfl, h1, h2, _, hg, hc, _⟩ := h.at_ hn
    refine ⟨_, cap, rfl, h1, h2, fun _ => ⟨g, 0, rfl, hg, fun i hi j hj => ?_⟩⟩
    rw [Nat.zero_add]
    exact hc _ _ (recCells_at hi hj)
  · obtain rfl : n = 0 := by omega
    rcases h.2 with ⟨rfl, _⟩ | ⟨g, cap, cur, rfl, _, _, hnc, hcm, _⟩
    · exact Recs.nil _ _ _ _
    · exact ⟨_, cap, rfl, hnc, hcm, fun h => by omega⟩
/-- A cell of a row of records is written by its owner. -/
theorem recs_set {base : Nat} {e : TypeId} {g cap i j : Nat} (h : Own w base e k (.slice (some ⟨g, 0, none⟩) n cap) n (recCells k V n)) (hi : i < n) (hj : j < k) (u : Value) :
    Own (w.setCell ⟨g, i * k + j, none⟩ u) base e k (.slice (some ⟨g, 0, none⟩) n cap) n (recCells k (upd V i j u) n) := by
  rw [← recCells_set hi hj]
  exact h.set_ _ (rec_lt hi hj) u
end
/-- From what is known of an argument. -/
theorem RecsIn.recs {P : Program} {w : World} {A : Option Addr} {len cap k : Nat} {Q : Nat → Value → Prop} (h : RecsIn P w A len cap k Q) (hk : 0 < k) : ∃ V : Nat → Nat → Value, Recs w w.heap.size (.slice A len cap) len k V ∧ ∀ i, i < len → ∀ j, j < k → Q j (V i j) := by
  obtain ⟨h1, h2, h3⟩ := h
  by_cases hl : 0 < len
  · obtain ⟨b, o, rfl, hb, hc⟩ := h3 hl
    refine ⟨fun i j => (w.cell? ⟨b, o + (i * k + j), none⟩).getD undef, ⟨_, cap, rfl, h1, h2, fun _ => ⟨b, o, rfl, hb, fun i hi j hj => ?_⟩⟩, fun i hi j hj => ?_⟩
    · obtain ⟨v, hv, _⟩ := hc i hi j hj
      show w.cell? ⟨b, o + i * k + j, none⟩ = some ((w.cell? ⟨b, o + (i * k + j), none⟩).getD undef)
      rw [Nat.add_assoc, hv]; rfl
    · obtain ⟨v, hv, hq⟩ := hc i hi j hj
      show Q j ((w.cell? ⟨b, o + (i * k + j), none⟩).getD undef)
      rw [hv]; exact hq
  · exact ⟨fun _ _ => undef, ⟨A, cap, rfl, h1, h2, fun h => by omega⟩, fun i hi => by omega⟩
/-- Integer fields. -/
theorem int_fields {n k : Nat} {V : Nat → Nat → Value} (h : ∀ i, i < n → ∀ j, j < k → IntField j (V i j)) :
    ∃ F : Nat → Nat → Int, (∀ i, i < n → ∀ j, j < k → V i j = .int .i64 (F i j)) ∧ ∀ i j, -9223372036854775808 ≤ F i j ∧ F i j ≤ 9223372036854775807 := by
  classical
  refine ⟨fun i j => if hh : i < n ∧ j < k then (h i hh.1 j hh.2).choose else 0, fun i hi j hj => ?_, fun i j => ?_⟩
  · simp only [hi, hj, and_self, dite_true]
    exact (h i hi j hj).choose_spec.1
  · by_cases hh : i < n ∧ j < k
    · simp only [hh, dite_true, and_self]
      exact (h i hh.1 j hh.2).choose_spec.2
    · simp only [hh, dite_false]; omega
theorem str_fields {n k : Nat} {V : Nat → Nat → Value} (h : ∀ i, i < n → ∀ j, j < k → StrField j (V i j)) :
    ∃ F : Nat → Nat → ByteArray, (∀ i, i < n → ∀ j, j < k → V i j = .string (F i j)) ∧ ∀ i j, (F i j).size ≤ maxLen := by
  classical
  refine ⟨fun i j => if hh : i < n ∧ j < k then (h i hh.1 j hh.2).choose else ByteArray.empty, fun i hi j hj => ?_, fun i j => ?_⟩
  · simp only [hi, hj, and_self, dite_true]
    exact (h i hi j hj).choose_spec.1
  · by_cases hh : i < n ∧ j < k
    · simp only [hh, dite_true, and_self]
      exact (h i hh.1 j hh.2).choose_spec.2
    · simp only [hh, dite_false]; decide
/-- Values of integer fields, of strings. -/
def IV (F : Nat → Nat → Int) : Nat → Nat → Value := fun i j => .int .i64 (F i j)
def SV (F : Nat → Nat → ByteArray) : Nat → Nat → Value := fun i j => .string (F i j)
/-- The first k records of one, the others of another. -/
def mix (V U : Nat → Nat → Value) (k : Nat) : Nat → Nat → Value := fun i j => if i < k then V i j else U i j
theorem mix_zero (V U : Nat → Nat → Value) : mix V U 0 = U := by funext i j; simp [mix]
theorem mix_all (V U : Nat → Nat → Value) (n k : Nat) : recCells k (mix V U n) n = recCells k V n := recCells_congr fun i hi j _ => by simp [mix, hi]
theorem mix_succ (V U : Nat → Nat → Value) (k : Nat) : mix V U (k + 1) = fun i j => if i = k then V i j else mix V U k i j := by
  funext i j
  unfold mix
  by_cases h : i = k
  · subst h; simp
  · have : (i < k + 1) = (i < k) := by apply propext; omega
    simp [h, this]
theorem zeroCells_recs (n k : Nat) (z0 : Value) (hk : 0 < k) (z : Value) (hz : z.cells = (List.replicate k z0).toArray) : (madeCells z.cells (n * k)).toList = recCells k (fun _ _ => z0) n := by
  apply List.ext_getElem?
  intro m
  unfold recCells madeCells
  rw [hz]
  by_cases h : m < n * k
  · simp [h, Nat.mod_lt _ hk]
  · simp [h]
/-- One record is written, field by field. -/
theorem put3 {w : World} {base : Nat} {e : TypeId} {g cap n i : Nat} {V U : Nat → Nat → Value} (h : Own w base e 3 (.slice (some ⟨g, 0, none⟩) n cap) n (recCells 3 (mix V U i) n)) (hi : i < n) :
    Own (((w.setCell ⟨g, i * 3, none⟩ (V i 0)).setCell ⟨g, i * 3 + 1, none⟩ (V i 1)).setCell ⟨g, i * 3 + 2, none⟩ (V i 2)) base e 3 (.slice (some ⟨g, 0, none⟩) n cap) n (recCells 3 (mix V U (i + 1)) n) := by
  have h1 := (recs_set (recs_set (recs_set h hi (show 0 < 3 by decide) (V i 0)) hi (show 1 < 3 by decide) (V i 1)) hi (show 2 < 3 by decide) (V i 2))
  rw [recCells_congr (U := mix V U (i + 1))] at h1
  · exact h1
  · intro a _ j hj
    rw [mix_succ]
    unfold upd
    by_cases ha : a = i
    · subst ha
      rcases (show j = 0 ∨ j = 1 ∨ j = 2 by omega) with rfl | rfl | rfl <;> simp
    · simp [ha]
/-- One record is written, field by field. -/
theorem put4 {w : World} {base : Nat} {e : TypeId} {g cap n i : Nat} {V U : Nat → Nat → Value} (h : Own w base e 4 (.slice (some ⟨g, 0, none⟩) n cap) n (recCells 4 (mix V U i) n)) (hi : i < n) :
    Own ((((w.setCell ⟨g, i * 4, none⟩ (V i 0)).setCell ⟨g, i * 4 + 1, none⟩ (V i 1)).setCell ⟨g, i * 4 + 2, none⟩ (V i 2)).setCell ⟨g, i * 4 + 3, none⟩ (V i 3)) base e 4 (.slice (some ⟨g, 0, none⟩) n cap) n (recCells 4 (mix V U (i + 1)) n) := by
  have h1 := (recs_set (recs_set (recs_set (recs_set h hi (show 0 < 4 by decide) (V i 0)) hi (show 1 < 4 by decide) (V i 1)) hi (show 2 < 4 by decide) (V i 2)) hi (show 3 < 4 by decide) (V i 3))
  rw [recCells_congr (U := mix V U (i + 1))] at h1
  · exact h1
  · intro a _ j hj
    rw [mix_succ]
    unfold upd
    by_cases ha : a = i
    · subst ha
      rcases (show j = 0 ∨ j = 1 ∨ j = 2 ∨ j = 3 by omega) with rfl | rfl | rfl | rfl <;> simp
    · simp [ha]
/-- One record is written, field by field. -/
theorem put5 {w : World} {base : Nat} {e : TypeId} {g cap n i : Nat} {V U : Nat → Nat → Value} (h : Own w base e 5 (.slice (some ⟨g, 0, none⟩) n cap) n (recCells 5 (mix V U i) n)) (hi : i < n) :
    Own (((((w.setCell ⟨g, i * 5, none⟩ (V i 0)).setCell ⟨g, i * 5 + 1, none⟩ (V i 1)).setCell ⟨g, i * 5 + 2, none⟩ (V i 2)).setCell ⟨g, i * 5 + 3, none⟩ (V i 3)).setCell ⟨g, i * 5 + 4, none⟩ (V i 4)) base e 5 (.slice (some ⟨g, 0, none⟩) n cap) n (recCells 5 (mix V U (i + 1)) n) := by
  have h1 := (recs_set (recs_set (recs_set (recs_set (recs_set h hi (show 0 < 5 by decide) (V i 0)) hi (show 1 < 5 by decide) (V i 1)) hi (show 2 < 5 by decide) (V i 2)) hi (show 3 < 5 by decide) (V i 3)) hi (show 4 < 5 by decide) (V i 4))
  rw [recCells_congr (U := mix V U (i + 1))] at h1
  · exact h1
  · intro a _ j hj
    rw [mix_succ]
    unfold upd
    by_cases ha : a = i
    · subst ha
      rcases (show j = 0 ∨ j = 1 ∨ j = 2 ∨ j = 3 ∨ j = 4 by omega) with rfl | rfl | rfl | rfl | rfl <;> simp
    · simp [ha]
end Go.Proofs.YtfmfjbphflkhiaaGreatDoor
