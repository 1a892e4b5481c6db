/- Plain facts on remainders and periods: no program. -/
import Derived.Maps.OwnSet
import Derived.Below
namespace Go.Proofs.Ytjhidenjlkdpeaa
set_option linter.unusedVariables false
set_option linter.unusedSimpArgs false
open Go.RowKit Go.Maps

/-- What is left after k digits. -/
def rm (a b : Int) : Nat → Int
  | 0 => a
  | k + 1 => 10 * rm a b k % b
theorem rm_succ (a b : Int) (k : Nat) : rm a b (k + 1) = 10 * rm a b k % b := rfl
theorem rm_range (a b : Int) (h0 : 0 ≤ a) (h1 : a < b) (k : Nat) : 0 ≤ rm a b k ∧ rm a b k < b := by
  cases k with
  | zero => exact ⟨h0, h1⟩
  | succ k => exact ⟨Int.emod_nonneg _ (by omega), Int.emod_lt_of_pos _ (by omega)⟩

/-- Different numbers below b are at most b. -/
theorem pigeon : ∀ (b m : Nat) (f : Nat → Int), (∀ i, i < m → 0 ≤ f i ∧ f i < b) → (∀ i j, i < j → j < m → f i ≠ f j) → m ≤ b := by
  intro b
  induction b with
  | zero =>
    intro m f h _
    cases m with
    | zero => exact Nat.le_refl _
    | succ m => have := h 0 (by omega); omega
  | succ b ih =>
    intro m f h hd
    by_cases hx : ∃ i, i < m ∧ f i = b
    · obtain ⟨i, hi, hfi⟩ := hx
      have key : m - 1 ≤ b := by
        refine ih (m - 1) (fun k => if k < i then f k else f (k + 1)) ?_ ?_
        · intro k hk
          by_cases hki : k < i
          · have h1 := h k (by omega); have h2 := hd k i hki hi
            simp only [hki, if_true]; omega
          · have h1 := h (k + 1) (by omega); have h2 := hd i (k + 1) (by omega) (by omega)
            simp only [hki, if_false]; omega
        · intro k j hkj hj
          by_cases hki : k < i
          · by_cases hji : j < i
            · simp only [hki, hji, if_true]; exact hd k j hkj (by omega)
            · simp only [hki, hji, if_true, if_false]; exact hd k (j + 1) (by omega) (by omega)
          · have hji : ¬ j < i := by omega
            simp only [hki, hji, if_false]; exact hd (k + 1) (j + 1) (by omega) (by omega)
      omega
    · have := ih m f (fun k hk => by have h1 := h k hk; have h2 : f k ≠ b := fun e => hx ⟨k, hk, e⟩; omega) hd
      omega

/-- The remainders up to m differ. -/
def Apart (a b : Int) (m : Nat) : Prop := ∀ i j, i < j → j < m → rm a b i ≠ rm a b j
theorem Apart.le {a b : Int} {m : Nat} (h : Apart a b m) (h0 : 0 ≤ a) (h1 : a < b) (hb : b ≤ 99) : m ≤ 99 := by
  have h2 := pigeon b.toNat m (rm a b) (fun i _ => by have := rm_range a b h0 h1 i; omega) h
  omega
theorem apart_one (a b : Int) : Apart a b 1 := fun i j h1 h2 => by omega
theorem apart_zero (a b : Int) : Apart a b 0 := fun i j h1 h2 => by omega
theorem Apart.succ {a b : Int} {m : Nat} (h : Apart a b m) (hn : ∀ j, j < m → rm a b j ≠ rm a b m) : Apart a b (m + 1) := by
  intro i j hij hj
  by_cases hm : j = m
  · subst hm; exact hn i hij
  · exact h i j hij (by omega)

/-- The period: p digits, then n again and again. -/
def IsPer (a b : Int) (p n : Nat) : Prop := 1 ≤ n ∧ rm a b p = rm a b (p + n) ∧ Apart a b (p + n)
theorem IsPer.unique {a b : Int} {p n p' n' : Nat} (h : IsPer a b p n) (h' : IsPer a b p' n') : p = p' ∧ n = n' := by
  obtain ⟨h1, h2, h3⟩ := h
  obtain ⟨k1, k2, k3⟩ := h'
  have e : p + n = p' + n' := by
    rcases Nat.lt_trichotomy (p + n) (p' + n') with hlt | he | hlt
    · exact absurd h2 (k3 p (p + n) (by omega) hlt)
    · exact he
    · exact absurd k2 (h3 p' (p' + n') (by omega) hlt)
  have ep : p = p' := by
    rcases Nat.lt_trichotomy p p' with hlt | he | hlt
    · exact absurd (h2.trans ((by rw [e] : rm a b (p + n) = rm a b (p' + n')).trans k2.symm)) (h3 p p' hlt (by omega))
    · exact he
    · exact absurd (k2.trans ((by rw [e] : rm a b (p' + n') = rm a b (p + n)).trans h2.symm)) (h3 p' p hlt (by omega))
  exact ⟨ep, by omega⟩
theorem IsPer.le {a b : Int} {p n : Nat} (h : IsPer a b p n) (h0 : 0 ≤ a) (h1 : a < b) : ((p + n : Nat) : Int) ≤ b := by
  have h2 := pigeon b.toNat (p + n) (rm a b) (fun i _ => by have := rm_range a b h0 h1 i; omega) h.2.2
  omega
theorem IsPer.again {a b : Int} {p n : Nat} (h : IsPer a b p n) : ∀ k, p ≤ k → rm a b k = rm a b (k + n) := by
  intro k hk
  induction k with
  | zero => obtain rfl : p = 0 := by omega
            exact h.2.1
  | succ k ih =>
    by_cases e : p = k + 1
    · subst e; exact h.2.1
    · have := ih (by omega)
      rw [rm_succ, show k + 1 + n = (k + n) + 1 from by omega, rm_succ, this]

/-- The map of what has been left. -/
def MD (a b : Int) (k : Nat) : DataW Unit := (List.range k).foldl (fun m i => m.put (.int .i64 (rm a b i)) (.lit (.int .i64 i))) (.map [])
theorem MD_succ (a b : Int) (k : Nat) : MD a b (k + 1) = (MD a b k).put (.int .i64 (rm a b k)) (.lit (.int .i64 k)) := by simp [MD, List.range_succ]
theorem MD_isMap (a b : Int) (k : Nat) : IsMap (MD a b k) := by
  induction k with
  | zero => exact isMap_empty
  | succ k ih => rw [MD_succ]; exact ih.put _ _
theorem MD_has (a b : Int) (k : Nat) (x : Int) : Maps.has (MD a b k) (.int .i64 x) = true ↔ ∃ i, i < k ∧ rm a b i = x := by
  induction k with
  | zero => simp [MD, Maps.has]
  | succ k ih =>
    rw [MD_succ]
    by_cases hx : rm a b k = x
    · subst hx
      rw [has_put_same (MD_isMap a b k) (by simp [WideAt.IsKeyLit])]
      simp only [true_iff]
      exact ⟨k, by omega, rfl⟩
    · rw [has_put_other (by intro e; injection e with _ e; exact hx e.symm), ih]
      constructor
      · rintro ⟨i, hi, e⟩; exact ⟨i, by omega, e⟩
      · rintro ⟨i, hi, e⟩
        by_cases hik : i = k
        · subst hik; exact absurd e hx
        · exact ⟨i, by omega, e⟩
theorem MD_at (a b : Int) (k p : Nat) (hp : p < k) (hd : Apart a b k) (z : DataW Unit) : (MD a b k).atKey (.int .i64 (rm a b p)) z = .lit (.int .i64 p) := by
  induction k with
  | zero => omega
  | succ k ih =>
    rw [MD_succ]
    by_cases hpk : p = k
    · subst hpk
      exact atKey_put_same (MD_isMap a b p) (by simp [WideAt.IsKeyLit]) _ _
    · rw [atKey_put_other (by intro e; injection e with _ e; exact hd p k (by omega) (by omega) e)]
      exact ih (by omega) fun i j hij hj => hd i j hij (by omega)
/-- A key that is there: where it stands. -/
theorem MD_hit {a b : Int} {k : Nat} (hd : Apart a b k) (h : Maps.has (MD a b k) (.int .i64 (rm a b k)) = true) {c : Int} (hc : (MD a b k).atKey (.int .i64 (rm a b k)) (.lit (.int .i64 0)) = .lit (.int .i64 c)) :
    ∃ p : Nat, c = p ∧ p < k ∧ IsPer a b p (k - p) := by
  obtain ⟨p, hp, e⟩ := (MD_has a b k _).1 h
  refine ⟨p, ?_, hp, ?_, ?_, ?_⟩
  · rw [← e, MD_at a b k p hp hd] at hc
    injection hc with hc; injection hc with _ hc; exact hc.symm
  · omega
  · rw [show p + (k - p) = k from by omega]; exact e
  · rw [show p + (k - p) = k from by omega]; exact hd
theorem MD_miss {a b : Int} {k : Nat} (hd : Apart a b k) (h : Maps.has (MD a b k) (.int .i64 (rm a b k)) = false) : Apart a b (k + 1) :=
  hd.succ fun j hj e => by
    have := (MD_has a b k (rm a b k)).2 ⟨j, hj, e⟩
    rw [h] at this; cases this
end Go.Proofs.Ytjhidenjlkdpeaa
