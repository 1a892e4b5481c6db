/- Plain law, no program in sight: a map that counts keys; texts joined. -/
import Derived.Test.YtfhefngpeknhlaaDoorTkq
import Derived.Maps.Views
import Derived.StringKeys
import Derived.Lib.Join
namespace Go.Proofs.YtfhefngpeknhlaaDoor
set_option linter.unusedVariables false
set_option linter.unusedSimpArgs false
open Go.Maps

/-- Has the key come among the first k? How often? How many different ones? -/
def hasK (K : Nat → List UInt8) (k : Nat) (l : List UInt8) : Bool := (List.range k).any fun j => K j == l
def cntK (K : Nat → List UInt8) (k : Nat) (l : List UInt8) : Nat := ((List.range k).filter fun j => K j == l).length
def dcK (K : Nat → List UInt8) : Nat → Nat
  | 0 => 0
  | k + 1 => dcK K k + (if hasK K k (K k) = true then 0 else 1)
theorem hasK_succ (K : Nat → List UInt8) (k : Nat) (l : List UInt8) : hasK K (k + 1) l = (hasK K k l || K k == l) := by simp [hasK, List.range_succ]
theorem cntK_succ (K : Nat → List UInt8) (k : Nat) (l : List UInt8) : cntK K (k + 1) l = cntK K k l + (if K k = l then 1 else 0) := by
  unfold cntK
  rw [List.range_succ, List.filter_append, List.length_append]
  congr 1
  by_cases h : K k = l
  · simp [h]
  · have : (K k == l) = false := beq_eq_false_iff_ne.2 h
    simp [this, h]
theorem cntK_le (K : Nat → List UInt8) (k : Nat) (l : List UInt8) : cntK K k l ≤ k := by
  unfold cntK
  exact Nat.le_trans (List.length_filter_le _ _) (by rw [List.length_range]; exact Nat.le_refl _)
theorem dcK_le (K : Nat → List UInt8) (k : Nat) : dcK K k ≤ k := by
  induction k with
  | zero => exact Nat.le_refl _
  | succ k ih =>
    show dcK K k + _ ≤ _
    split <;> omega
/-- What the map says when k keys have come. -/
def Lot (K : Nat → List UInt8) (k : Nat) (D : DataW Unit) : Prop :=
  Tidy D ∧ (∀ l, has D (.string l) = hasK K k l) ∧ (∀ l, D.atKey (.string l) (.lit (.int .i64 0)) = .lit (.int .i64 (cntK K k l : Nat))) ∧ size D = dcK K k
theorem Lot.zero (K : Nat → List UInt8) : Lot K 0 (.map []) := ⟨tidy_empty, fun _ => rfl, fun _ => rfl, rfl⟩
theorem Lot.step {K : Nat → List UInt8} {k : Nat} {D : DataW Unit} (h : Lot K k D) : Lot K (k + 1) (D.put (.string (K k)) (.lit (.int .i64 ((cntK K k (K k) : Nat) + 1)))) := by
  obtain ⟨h1, h2, h3, h4⟩ := h
  have hk : WideAt.IsKeyLit (.string (K k)) := trivial
  refine ⟨h1.put hk _, fun l => ?_, fun l => ?_, ?_⟩
  · rw [hasK_succ]
    by_cases e : l = K k
    · subst e; rw [has_put_same h1.isMap hk]; simp
    · rw [has_put_other (fun e' => e (by injection e')), h2 l]
      have : (K k == l) = false := beq_eq_false_iff_ne.2 fun e' => e e'.symm
      rw [this, Bool.or_false]
  · rw [cntK_succ]
    by_cases e : l = K k
    · subst e; rw [atKey_put_same h1.isMap hk, if_pos rfl]; rfl
    · rw [atKey_put_other (fun e' => e (by injection e')), h3 l, if_neg fun e' => e e'.symm]; rfl
  · rw [size_put h1, h2, h4]
    show _ = dcK K k + _
    split <;> rfl

/-- The answers to all exercises by a way; joined. -/
def ansT (S : Nat → Nat → ByteArray) (way : Int) : Nat → ByteArray := fun i => tkS (S i 0).data.toList (S i 1).data.toList way
def keyT (S : Nat → Nat → ByteArray) (n : Nat) (way : Int) : List UInt8 := Lib.join (((List.range n).map (ansT S way)).map (·.data.toList)) [32]
theorem split_at {a b x y : List UInt8} (ha : (32 : UInt8) ∉ a) (hb : (32 : UInt8) ∉ b) (h : a ++ 32 :: x = b ++ 32 :: y) : a = b ∧ x = y := by
  induction a generalizing b with
  | nil =>
    cases b with
    | nil => simpa using h
    | cons c b => simp at h; exact absurd (by rw [h.1]; simp) hb
  | cons d a ih =>
    cases b with
    | nil => simp at h; exact absurd (by rw [h.1]; simp) ha
    | cons c b =>
      simp only [List.cons_append, List.cons.injEq] at h
      obtain ⟨h1, h2⟩ := ih (fun hm => ha (List.mem_cons_of_mem _ hm)) (fun hm => hb (List.mem_cons_of_mem _ hm)) h.2
      exact ⟨by rw [h.1, h1], h2⟩
theorem join_inj : ∀ (xs ys : List (List UInt8)), xs.length = ys.length → (∀ x ∈ xs, (32 : UInt8) ∉ x) → (∀ y ∈ ys, (32 : UInt8) ∉ y) → Lib.join xs [32] = Lib.join ys [32] → xs = ys := by
  intro xs
  induction xs with
  | nil => intro ys hl _ _ _; exact (List.eq_nil_of_length_eq_zero (by simpa using hl.symm)).symm
  | cons x xs ih =>
    intro ys hl hx hy h
    cases ys with
    | nil => simp at hl
    | cons y ys =>
      have hl' : xs.length = ys.length := by simpa using hl
      cases xs with
      | nil =>
        obtain rfl : ys = [] := List.eq_nil_of_length_eq_zero (by simpa using hl'.symm)
        rw [Lib.join_one, Lib.join_one] at h
        rw [h]
      | cons x2 xs =>
        cases ys with
        | nil => simp at hl'
        | cons y2 ys =>
          have e1 : Lib.join (x :: x2 :: xs) [32] = x ++ 32 :: Lib.join (x2 :: xs) [32] := by rw [Lib.join_cons, Lib.join_cons]; simp [Lib.joinTail]
          have e2 : Lib.join (y :: y2 :: ys) [32] = y ++ 32 :: Lib.join (y2 :: ys) [32] := by rw [Lib.join_cons, Lib.join_cons]; simp [Lib.joinTail]
          rw [e1, e2] at h
          obtain ⟨h1, h2⟩ := split_at (hx x List.mem_cons_self) (hy y List.mem_cons_self) h
          rw [h1, ih (y2 :: ys) hl' (fun z hz => hx z (List.mem_cons_of_mem _ hz)) (fun z hz => hy z (List.mem_cons_of_mem _ hz)) h2]
theorem keyT_iff {S : Nat → Nat → ByteArray} {n : Nat} (hk : ∀ i, i < n → takB (S i 0).data.toList (S i 1).data.toList = true) (a b : Int) : keyT S n a = keyT S n b ↔ ∀ i, i < n → ansT S a i = ansT S b i := by
  have hno : ∀ (w : Int), ∀ x ∈ ((List.range n).map (ansT S w)).map (·.data.toList), (32 : UInt8) ∉ x := by
    intro w x hx hm
    simp only [List.mem_map, List.mem_range] at hx
    obtain ⟨_, ⟨i, hi, rfl⟩, rfl⟩ := hx
    have hn := takB_num (hk i hi)
    have := numB_all (tkS_num hn.1 hn.2 w).1 32 hm
    exact absurd this.1 (by decide)
  constructor
  · intro h i hi
    have := join_inj _ _ (by simp) (hno a) (hno b) h
    have h2 := congrArg (fun l : List (List UInt8) => l[i]?) this
    simp [hi] at h2
    rw [← bStr_of (ansT S a i), ← bStr_of (ansT S b i), h2]
  · intro h
    have : (List.range n).map (ansT S a) = (List.range n).map (ansT S b) := List.map_congr_left fun i hi => h i (by simpa using hi)
    unfold keyT
    rw [this]
theorem keyT_len {S : Nat → Nat → ByteArray} {n : Nat} (hn : n ≤ 6) (way : Int) : (keyT S n way).length ≤ 100 := by
  have h9 : ∀ i, (ansT S way i).data.toList.length ≤ 9 := fun i => by rw [Array.length_toList]; exact plS_size _
  have hl : ∀ l : List Nat, Lib.lens ((l.map (ansT S way)).map (·.data.toList)) ≤ 9 * l.length := by
    intro l
    induction l with
    | nil => simp [Lib.lens]
    | cons a l ih =>
      have := h9 a
      simp only [Lib.lens, List.map_cons, List.length_cons, List.sum_cons] at *
      omega
  unfold keyT
  cases n with
  | zero => simp [Lib.join_nil]
  | succ m =>
    have h1 := hl (List.range (m + 1))
    rw [List.range_succ_eq_map, List.map_cons, List.map_cons] at h1 ⊢
    rw [Lib.join_length]
    simp only [List.length_map, List.length_cons, List.length_nil, List.length_range] at *
    omega
end Go.Proofs.YtfhefngpeknhlaaDoor
