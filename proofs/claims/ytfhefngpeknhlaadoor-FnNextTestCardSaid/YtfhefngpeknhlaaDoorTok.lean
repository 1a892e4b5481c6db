/- The walks of TestsOk, of the program and of the reference. -/
import Derived.Test.YtfhefngpeknhlaaDoorOrd
import Derived.Test.YtfhefngpeknhlaaDoorRecs
import Derived.Deep.RegionHeld3
namespace Go.Proofs.YtfhefngpeknhlaaDoor
set_option linter.unusedVariables false
set_option linter.unusedSimpArgs false
open Go.RowKit

/-- Can the one be taken away? -/
def tokAt (S : Nat → Nat → ByteArray) (i : Nat) : Bool := takB (S i 0).data.toList (S i 1).data.toList
def tokB (S : Nat → Nat → ByteArray) (n : Nat) : Bool := decide (n ≤ 6) && (List.range n).all (tokAt S)
theorem tokB_big {S : Nat → Nat → ByteArray} {n : Nat} (h : 6 < n) : tokB S n = false := by
  have : ¬ n ≤ 6 := by omega
  simp [tokB, this]
theorem tokB_bad {S : Nat → Nat → ByteArray} {n k : Nat} (hk : k < n) (h : tokAt S k = false) : tokB S n = false := by
  cases e : tokB S n with
  | false => rfl
  | true =>
    simp only [tokB, Bool.and_eq_true, List.all_eq_true, List.mem_range] at e
    rw [e.2 k hk] at h
    exact h
theorem tokB_good {S : Nat → Nat → ByteArray} {n : Nat} (hn : n ≤ 6) (h : ∀ j, j < n → tokAt S j = true) : tokB S n = true := by
  simp only [tokB, Bool.and_eq_true, decide_eq_true_eq, List.all_eq_true, List.mem_range]
  exact ⟨hn, h⟩
theorem tokB_len {S : Nat → Nat → ByteArray} {n : Nat} (h : tokB S n = true) : n ≤ 6 := by
  simp only [tokB, Bool.and_eq_true, decide_eq_true_eq] at h; exact h.1
theorem tokB_at {S : Nat → Nat → ByteArray} {n i : Nat} (h : tokB S n = true) (hi : i < n) : tokAt S i = true := by
  simp only [tokB, Bool.and_eq_true, List.all_eq_true, List.mem_range] at h; exact h.2 i hi

set_option maxHeartbeats 4000000 in
theorem sTestsOk (w : World) (B : Nat) (v : Value) (n : Nat) (S : Nat → Nat → ByteArray) (hR : Recs w B v n 3 (SV S)) (hBw : B ≤ w.heap.size) (hS : ∀ i, i < n → ∀ j, j < 3 → (S i j).size ≤ maxLen) :
    Calls Tryd.prog 19 #[v] w fun e w' => e = .returned (.bool (tokB S n)) ∧ Below w.heap.size w w' := by
  obtain ⟨A, cap, rfl, hnc, hcm, hcell⟩ := hR
  unfold maxLen at hcm
  have Hc := Lib.hid hcell
  have HS := Lib.hid hS
  clear hcell hS
  go_enter Tryd.func19, Tryd.ntmps19
  go_wp2_with fail
  go_loopg [3] n (fun g s3 wr => ∃ k : Nat, g + k = n ∧ s3 = .int .i64 k ∧ Hid (∀ j, j < k → tokAt S j = true) ∧ Below w.heap.size w wr)
  case atStart => exact ⟨0, rfl, rfl, Lib.hid fun j hj => by omega, Below.refl _ _⟩
  case round =>
    obtain ⟨k, hk, rfl, Hok, hB⟩ := hrel
    by_cases hlt : k < n
    · obtain ⟨b, o, rfl, hb, hc⟩ := Hc.out (by omega)
      have hbw : b < w.heap.size := by omega
      have e0 := (hB.cell (p := ⟨b, o + k * 3, none⟩) hbw).trans (hc k hlt 0 (by omega))
      have e1 := (hB.cell (p := ⟨b, o + k * 3 + 1, none⟩) hbw).trans (hc k hlt 1 (by omega))
      simp only [SV] at e0 e1
      have s0 := HS.out k hlt 0 (by omega)
      have s1 := HS.out k hlt 1 (by omega)
      have HO := Lib.hid fun W => sOrder (S k 0) (S k 1) s0 s1 W
      have HT := Lib.hid (show tokAt S k = decide (0 ≤ ordI (S k 0).data.toList (S k 1).data.toList) from rfl)
      have HBad := Lib.hid (tokB_bad (S := S) hlt)
      clear hc s0 s1
      have i1 : (k : Int) < (n : Int) := by omega
      have w1' : b < wr.heap.size := by have := hB.size; omega
      have HB := Lib.hid hB
      clear hB
      generalize ordI (S k 0).data.toList (S k 1).data.toList = x at *
      go_wp2_with fail
      go_region_held3 (fun w' => w'.cell? ⟨b, o + k * 3, none⟩ = some (.string (S k 0)) ∧ w'.cell? ⟨b, o + k * 3 + 1, none⟩ = some (.string (S k 1)))
        (go_keep)
        (first | (go_at_call 60; refine (HO.out _).mono ?_; rintro e w2 ⟨rfl, q2⟩; have g0 := (q2.cell (p := ⟨b, o + k * 3, none⟩) w1').trans e0; have g1 := (q2.cell (p := ⟨b, o + k * 3 + 1, none⟩) w1').trans e1))
      have HB2 : Hid (Below w.heap.size w w2) := Lib.hid (by first | exact below_own HB.out q2 HB.out.size | exact below_own HB.out.drew q2 HB.out.size)
      by_cases hx : x < 0
      · have HF := Lib.hid (HBad.out (by rw [HT.out]; simp; omega))
        go_wp2
        go_ret
        exact ⟨by rw [HF.out]; rfl, HB2.out⟩
      · have hx' : 0 ≤ x := by omega
        have HG : Hid (tokAt S k = true) := Lib.hid (by rw [HT.out]; simpa using hx')
        clear hx
        go_wp2
        go_roundg (gk - 1)
        case measure => omega
        case rel => exact ⟨k + 1, by omega, by go_num, Lib.hid fun j hj => by
          by_cases e : j = k
          · subst e; exact HG.out
          · exact Hok.out j (by omega), HB2.out⟩
    · obtain rfl : k = n := by omega
      by_cases h6 : 6 < k
      · have HF := Lib.hid (tokB_big (S := S) h6)
        go_wp2
        go_ret
        exact ⟨by rw [HF.out]; exact congrArg (fun b => Ending.returned (.bool b)) (by simp; omega), hB⟩
      · have h6' : k ≤ 6 := by omega
        have HF := Lib.hid (tokB_good (S := S) h6' Hok.out)
        clear h6
        go_wp2
        go_ret
        exact ⟨by rw [HF.out]; exact congrArg (fun b => Ending.returned (.bool b)) (by simp; omega), hB⟩

/-- The first place of n that p holds at; -1. -/
def idxP (p : Nat → Bool) (n : Nat) : Int := match (List.range n).find? p with
  | some i => i
  | none => -1
theorem idxP_here {p : Nat → Bool} {n k : Nat} (hk : k < n) (h : p k = true) (hb : ∀ j, j < k → p j = false) : idxP p n = k := by
  have : (List.range n).find? p = some k := by
    rw [List.find?_range_eq_some]
    exact ⟨h, by simpa using hk, fun j hj => by simp [hb j hj]⟩
  unfold idxP
  rw [this]
theorem idxP_none {p : Nat → Bool} {n : Nat} (h : ∀ j, j < n → p j = false) : idxP p n = -1 := by
  have : (List.range n).find? p = none := by
    rw [List.find?_eq_none]
    intro j hj
    simp [h j (by simpa using hj)]
  unfold idxP
  rw [this]
theorem idxP_any (p : Nat → Bool) (n : Nat) : decide (0 ≤ idxP p n) = (List.range n).any p := by
  unfold idxP
  cases h : (List.range n).find? p with
  | none =>
    have h' := List.find?_eq_none.1 h
    have : (List.range n).any p = false := by rw [List.any_eq_false]; intro x hx; simpa using h' x hx
    rw [this]; rfl
  | some k =>
    have h1 := List.find?_some h
    have h2 := List.mem_of_find?_eq_some h
    have : (List.range n).any p = true := List.any_eq_true.2 ⟨k, h2, h1⟩
    rw [this]; simp
theorem idxP_range (p : Nat → Bool) (n : Nat) : -1 ≤ idxP p n ∧ idxP p n < n := by
  unfold idxP
  cases h : (List.range n).find? p with
  | none => simp; omega
  | some k =>
    have h2 := List.mem_of_find?_eq_some h
    simp at h2
    simp; omega

theorem tok1 (a b c : ByteArray) (ha : a.size ≤ maxLen) (hb : b.size ≤ maxLen) (w : World) : Calls Tryd.prog 86 #[.agg #[.string a, .string b, .string c]] w fun e w' => e = .returned (.bool (!takB a.data.toList b.data.toList)) ∧ Below w.heap.size w w' := by
  have HT := Lib.hid fun W => takes_any a b ha hb W
  clear ha hb
  generalize takB a.data.toList b.data.toList = x at *
  go_enter Tryd.func86, Tryd.ntmps86
  go_wp2_with fail
  refine (HT.out _).mono ?_
  rintro e w1 ⟨rfl, rfl⟩
  go_wp2_with fail
  go_ret
  exact ⟨rfl, (Below.refl _ _).alloc (Nat.le_refl _) _⟩

/-- The first place that a test fails at. -/
theorem idxTok (w : World) (B : Nat) (v : Value) (n : Nat) (S : Nat → Nat → ByteArray) (hR : Recs w B v n 3 (SV S)) (hBw : B ≤ w.heap.size) (hS : ∀ i, i < n → ∀ j, j < 3 → (S i j).size ≤ maxLen) :
    Calls Tryd.prog 110 #[v, .func (.func 86) #[] #[]] w fun e w' => e = .returned (.int .i64 (idxP (fun i => !tokAt S i) n)) ∧ Below w.heap.size w w' := by
  obtain ⟨A, cap, rfl, hnc, hcm, hcell⟩ := hR
  unfold maxLen at hcm
  have Hc := Lib.hid hcell
  have HS := Lib.hid hS
  clear hcell hS
  go_enter Tryd.func110, Tryd.ntmps110
  go_wp2_with fail
  go_loopg [5, 8] n (fun g s5 s8 wr => ∃ k : Nat, g + k = n ∧ s8 = .int .i64 k ∧ Hid (∀ j, j < k → (!tokAt S j) = false) ∧ Below w.heap.size w wr)
  case atStart => exact ⟨0, rfl, rfl, Lib.hid fun j hj => by omega, Below.refl _ _⟩
  case round =>
    obtain ⟨k, hk, rfl, Hok, hB⟩ := hrel
    by_cases hlt : k < n
    · obtain ⟨b, o, rfl, hb, hc⟩ := Hc.out (by omega)
      have hbw : b < w.heap.size := by omega
      have e0 := (hB.cell (p := ⟨b, o + k * 3, none⟩) hbw).trans (hc k hlt 0 (by omega))
      have e1 := (hB.cell (p := ⟨b, o + k * 3 + 1, none⟩) hbw).trans (hc k hlt 1 (by omega))
      have e2 := (hB.cell (p := ⟨b, o + k * 3 + 2, none⟩) hbw).trans (hc k hlt 2 (by omega))
      simp only [SV] at e0 e1 e2
      have HN := Lib.hid fun h => idxP_here (p := fun i => !tokAt S i) hlt h Hok.out
      have HT := Lib.hid (show tokAt S k = takB (S k 0).data.toList (S k 1).data.toList from rfl)
      clear hc
      go_wp2_with fail
      refine (tok1 (S k 0) (S k 1) (S k 2) (HS.out k hlt 0 (by omega)) (HS.out k hlt 1 (by omega)) _).mono ?_
      rintro e w1 ⟨rfl, b1⟩
      rw [← HT.out]
      have hB1 := below_own hB b1 hB.size
      clear hB b1 e0 e1 e2 HT
      cases ht : tokAt S k with
      | true =>
        have HK := Lib.hid ht
        clear ht
        go_wp2_with fail
        go_roundg (gk - 1)
        case measure => omega
        case rel => exact ⟨k + 1, by omega, by go_num, Lib.hid fun j hj => by
          by_cases e : j = k
          · subst e; rw [HK.out]; rfl
          · exact Hok.out j (by omega), hB1⟩
      | false =>
        have HF := Lib.hid (HN.out (by simp [ht]))
        clear ht
        go_wp2_with fail
        go_ret
        exact ⟨by rw [HF.out]; rfl, hB1⟩
    · obtain rfl : k = n := by omega
      have HF := Lib.hid (idxP_none Hok.out)
      go_wp2
      go_ret
      exact ⟨by rw [HF.out]; rfl, hB⟩

theorem contTok (w : World) (B : Nat) (v : Value) (n : Nat) (S : Nat → Nat → ByteArray) (hR : Recs w B v n 3 (SV S)) (hBw : B ≤ w.heap.size) (hS : ∀ i, i < n → ∀ j, j < 3 → (S i j).size ≤ maxLen) :
    Calls Tryd.prog 85 #[v, .func (.func 86) #[] #[]] w fun e w' => e = .returned (.bool ((List.range n).any fun i => !tokAt S i)) ∧ Below w.heap.size w w' := by
  have HI := Lib.hid (idxTok w B v n S hR hBw hS)
  have HA := Lib.hid (idxP_any (fun i => !tokAt S i) n)
  have hr := idxP_range (fun i => !tokAt S i) n
  obtain ⟨hr0, hr1⟩ := hr
  clear hR hS
  generalize idxP (fun i => !tokAt S i) n = x at *
  go_enter Tryd.func85, Tryd.ntmps85
  go_wp2_with fail
  refine HI.out.mono ?_
  rintro e w1 ⟨rfl, b1⟩
  go_wp2_with fail
  go_ret
  exact ⟨by rw [← HA.out]; rfl, b1⟩

theorem tokB_any (S : Nat → Nat → ByteArray) (n : Nat) (h : n ≤ 6) : tokB S n = !((List.range n).any fun i => !tokAt S i) := by
  simp only [tokB, h, decide_true, Bool.true_and]
  rw [List.all_eq_not_any_not]

set_option maxHeartbeats 1000000 in
theorem iTestsOk (w : World) (B : Nat) (v : Value) (n : Nat) (S : Nat → Nat → ByteArray) (hR : Recs w B v n 3 (SV S)) (hBw : B ≤ w.heap.size) (hS : ∀ i, i < n → ∀ j, j < 3 → (S i j).size ≤ maxLen) :
    Calls Tryd.prog 54 #[v] w fun e w' => e = .returned (.bool (tokB S n)) ∧ Below w.heap.size w w' := by
  have HC := Lib.hid (contTok w B v n S hR hBw hS)
  obtain ⟨A, cap, rfl, hnc, hcm, hcell⟩ := hR
  unfold maxLen at hcm
  clear hcell hS
  by_cases h6 : 6 < n
  · have HF := Lib.hid (tokB_big (S := S) h6)
    go_enter Tryd.func54, Tryd.ntmps54
    go_wp2_with fail
    go_ret
    exact ⟨by rw [HF.out]; rfl, Below.refl _ _⟩
  · have h6' : n ≤ 6 := by omega
    have HF := Lib.hid (tokB_any S n h6')
    clear h6
    generalize (List.range n).any (fun i => !tokAt S i) = x at *
    go_enter Tryd.func54, Tryd.ntmps54
    go_wp2_with fail
    refine HC.out.mono ?_
    rintro e w1 ⟨rfl, b1⟩
    go_wp2_with fail
    go_ret
    exact ⟨by rw [HF.out]; rfl, b1⟩
end Go.Proofs.YtfhefngpeknhlaaDoor
