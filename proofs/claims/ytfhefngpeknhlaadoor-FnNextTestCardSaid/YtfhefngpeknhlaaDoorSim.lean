/- The walks of SimplestFor, of the program and of the reference; its exact law. -/
import Derived.Test.YtfhefngpeknhlaaDoorWays
import Derived.Test.YtfhefngpeknhlaaDoorFaults
namespace Go.Proofs.YtfhefngpeknhlaaDoor
set_option linter.unusedVariables false
set_option linter.unusedSimpArgs false
open Go.RowKit

/-- The best of the first ones. -/
def bstL (xs : List Int) : Nat → Int
  | 0 => -1
  | k + 1 => if bstL xs k < 0 ∨ FaultsOf (xs.getD k 0) < FaultsOf (bstL xs k) then xs.getD k 0 else bstL xs k
theorem bstL_succ (xs : List Int) (k : Nat) : bstL xs (k + 1) = if bstL xs k < 0 ∨ FaultsOf (xs.getD k 0) < FaultsOf (bstL xs k) then xs.getD k 0 else bstL xs k := rfl
theorem bstL_neg {xs : List Int} {k : Nat} (h : bstL xs k < 0) : bstL xs (k + 1) = xs.getD k 0 := by rw [bstL_succ, if_pos (Or.inl h)]
def simI (xs : List Int) : Int := bstL xs xs.length
theorem bstL_range {xs : List Int} (h : ∀ j, j < xs.length → 0 ≤ xs.getD j 0 ∧ xs.getD j 0 ≤ 15) (k : Nat) (hk : k < xs.length) : 0 ≤ bstL xs (k + 1) ∧ bstL xs (k + 1) ≤ 15 := by
  have hx := h k hk
  induction k with
  | zero =>
    rw [@bstL_neg xs 0 (show (-1 : Int) < 0 by decide)]
    exact hx
  | succ k ih =>
    have i1 := ih (by omega) (h k (by omega))
    rw [bstL_succ]
    split
    · exact hx
    · exact i1
theorem bstL_first (xs : List Int) : bstL xs 1 = xs.getD 0 0 := @bstL_neg xs 0 (show (-1 : Int) < 0 by decide)
theorem bstL_yes {xs : List Int} {k : Nat} (h : FaultsOf (xs.getD k 0) < FaultsOf (bstL xs k)) : bstL xs (k + 1) = xs.getD k 0 := by
  rw [bstL_succ, if_pos (Or.inr h)]
theorem bstL_no {xs : List Int} {k : Nat} (h0 : 0 ≤ bstL xs k) (h : ¬ FaultsOf (xs.getD k 0) < FaultsOf (bstL xs k)) : bstL xs (k + 1) = bstL xs k := by
  rw [bstL_succ, if_neg (fun h' => h'.elim (fun h => by omega) h)]
theorem wayL_range (S : Nat → Nat → ByteArray) (n : Nat) : ∀ j, j < (wayL S n).length → 0 ≤ (wayL S n).getD j 0 ∧ (wayL S n).getD j 0 ≤ 15 := by
  intro j hj
  have hm : (wayL S n).getD j 0 ∈ wayL S n := by rw [List.getD_eq_getElem?_getD, List.getElem?_eq_getElem hj]; exact List.getElem_mem hj
  generalize (wayL S n).getD j 0 = x at *
  simp only [wayL, whL, List.mem_map, List.mem_filter, List.mem_range] at hm
  obtain ⟨i, ⟨hi, _⟩, rfl⟩ := hm
  omega
def SimP (xs : List Int) (w : World) (e : Ending) (w' : World) : Prop := e = .returned (.tuple #[.int .i64 (simI xs), .bool (decide (0 ≤ simI xs))]) ∧ Below w.heap.size w w'

set_option maxRecDepth 20000 in
set_option maxHeartbeats 4000000 in
theorem iSimple (w : World) (B : Nat) (v : Value) (n : Nat) (S : Nat → Nat → ByteArray) (hR : Recs w B v n 3 (SV S)) (hBw : B ≤ w.heap.size) (hS : ∀ i, i < n → ∀ j, j < 3 → (S i j).size ≤ maxLen) :
    Calls Tryd.prog 47 #[v] w (SimP (wayL S n) w) := by
  have HW := Lib.hid (iWays w B v n S hR hBw hS)
  have hr := wayL_range S n
  have hl : (wayL S n).length ≤ 16 := whL_length _ _
  clear hS hR
  generalize wayL S n = xs at *
  have HB := Lib.hid fun k hk => bstL_range hr k hk
  have HR := Lib.hid hr
  clear hr
  go_enter Tryd.func47, Tryd.ntmps47
  go_wp2_with fail
  refine HW.out.mono ?_
  rintro e w1 ⟨v1, rfl, o1, b1⟩
  obtain ⟨A1, cap, rfl, l1, m1, r1⟩ := IntSl.of_own o1
  have R1 := Lib.hid r1
  clear r1 o1
  unfold maxLen at m1
  by_cases hz : xs.length = 0
  · have HZ : Hid (simI xs = -1) := Lib.hid (by unfold simI; rw [hz]; rfl)
    rw [hz] at *
    go_wp2_with fail
    go_ret2
    exact ⟨by rw [HZ.out]; rfl, b1⟩
  have hz' : 0 < xs.length := by omega
  have e0 : ((xs.length : Int) == 0) = false := by rw [beq_eq_false_iff_ne]; omega
  obtain ⟨b, o, rfl, hb, hc⟩ := R1.out hz'
  have c0 : w1.cell? ⟨b, o + 0, none⟩ = some (.int .i64 (xs.getD 0 0)) := hc 0 hz'
  rw [Nat.add_zero] at c0
  clear hz
  have HC := Lib.hid hc
  obtain ⟨y0, hy0⟩ : ∃ y, xs.getD 0 0 = y := ⟨_, rfl⟩
  rw [hy0] at c0
  have HY0 := Lib.hid hy0
  clear hc R1 hy0
  go_wp2_with fail
  go_loopg [5, 7, 18] xs.length (fun g s5 s7 s18 wr => ∃ k : Nat, ∃ x : Int, g + k = xs.length ∧ s18 = .int .i64 k ∧ s5 = .int .i64 x ∧ Hid (x = if k = 0 then xs.getD 0 0 else bstL xs k) ∧ w1 = wr)
  case atStart => exact ⟨0, _, rfl, rfl, rfl, Lib.hid HY0.out.symm, rfl⟩
  case round =>
    obtain ⟨k, x, hk, rfl, rfl, HX, rfl⟩ := hrel
    by_cases hlt : k < xs.length
    · have c1 := HC.out k hlt
      have HY : Hid (∀ y : Int, (FaultsOf (xs.getD k 0) < FaultsOf x → y = xs.getD k 0) → (¬ FaultsOf (xs.getD k 0) < FaultsOf x → y = x) → y = bstL xs (k + 1)) := Lib.hid fun y hy1 hy2 => by
        have h := HX.out
        by_cases k0 : k = 0
        · subst k0
          rw [if_pos rfl] at h
          subst h
          rw [hy2 (by omega), bstL_first]
        · rw [if_neg k0] at h
          have hx0 := (HB.out (k - 1) (by omega)).1
          rw [show k - 1 + 1 = k by omega, ← h] at hx0
          by_cases hf : FaultsOf (xs.getD k 0) < FaultsOf x
          · rw [hy1 hf]; rw [h] at hf; exact (bstL_yes hf).symm
          · rw [hy2 hf]; rw [h] at hf hx0 ⊢; exact (bstL_no hx0 hf).symm
      have hx1 := HR.out k hlt
      clear HX
      generalize xs.getD k 0 = y at *
      generalize hf1 : FaultsOf y = f1 at *
      generalize hf2 : FaultsOf x = f2 at *
      have C1 := Lib.hid fun W => iFaults y W
      have C2 := Lib.hid fun W => iFaults x W
      rw [hf1] at C1
      rw [hf2] at C2
      clear hf1 hf2
      by_cases hf : f1 < f2
      · have HE := Lib.hid (HY.out y (fun _ => rfl) (fun h => absurd hf h))
        go_wp2_with fail
        refine (C1.out _).mono ?_
        rintro e w2 ⟨rfl, rfl⟩
        go_wp2_with fail
        refine (C2.out _).mono ?_
        rintro e w2 ⟨rfl, rfl⟩
        go_wp2_with fail
        go_roundg (gk - 1)
        case measure => omega
        case rel => exact ⟨k + 1, y, by omega, by go_num, rfl, Lib.hid (by rw [if_neg (by omega)]; exact HE.out), rfl⟩
      · have HE := Lib.hid (HY.out x (fun h => absurd h hf) (fun _ => rfl))
        go_wp2_with fail
        refine (C1.out _).mono ?_
        rintro e w2 ⟨rfl, rfl⟩
        go_wp2_with fail
        refine (C2.out _).mono ?_
        rintro e w2 ⟨rfl, rfl⟩
        go_wp2_with fail
        go_roundg (gk - 1)
        case measure => omega
        case rel => exact ⟨k + 1, x, by omega, by go_num, rfl, Lib.hid (by rw [if_neg (by omega)]; exact HE.out), rfl⟩
    · obtain rfl : k = xs.length := by omega
      have HE : Hid (x = simI xs) := Lib.hid (by rw [HX.out, if_neg (by omega)]; rfl)
      have hx0 := (HB.out (xs.length - 1) (by omega)).1
      rw [show xs.length - 1 + 1 = xs.length by omega] at hx0
      have HD : Hid (decide (0 ≤ simI xs) = true) := Lib.hid (decide_eq_true hx0)
      go_wp2_with fail
      go_ret2
      exact ⟨by rw [HD.out, ← HE.out]; rfl, b1⟩

set_option maxRecDepth 20000 in
set_option maxHeartbeats 4000000 in
theorem sSimple (w : World) (B : Nat) (v : Value) (n : Nat) (S : Nat → Nat → ByteArray) (hR : Recs w B v n 3 (SV S)) (hBw : B ≤ w.heap.size) (hS : ∀ i, i < n → ∀ j, j < 3 → (S i j).size ≤ maxLen) :
    Calls Tryd.prog 46 #[v] w (SimP (wayL S n) w) := by
  have HW := Lib.hid (sWays w B v n S hR hBw hS)
  have hr := wayL_range S n
  have hl : (wayL S n).length ≤ 16 := whL_length _ _
  clear hS hR
  generalize wayL S n = xs at *
  have HB := Lib.hid fun k hk => bstL_range hr k hk
  have HR := Lib.hid hr
  clear hr
  go_enter Tryd.func46, Tryd.ntmps46
  go_wp2_with fail
  refine HW.out.mono ?_
  rintro e w1 ⟨v1, rfl, o1, b1⟩
  obtain ⟨A1, cap, rfl, l1, m1, r1⟩ := IntSl.of_own o1
  have R1 := Lib.hid r1
  clear r1 o1
  unfold maxLen at m1
  go_wp2_with fail
  go_loopg [4, 6] xs.length (fun g s4 s6 wr => ∃ k : Nat, ∃ x : Int, g + k = xs.length ∧ s6 = .int .i64 k ∧ s4 = .int .i64 x ∧ Hid (x = bstL xs k) ∧ w1 = wr)
  case atStart => exact ⟨0, _, rfl, rfl, rfl, Lib.hid rfl, rfl⟩
  case round =>
    obtain ⟨k, x, hk, rfl, rfl, HX, rfl⟩ := hrel
    by_cases hlt : k < xs.length
    · obtain ⟨b, o, rfl, hb, hc⟩ := R1.out (by omega)
      have c1 := hc k hlt
      clear hc
      have hx1 := HR.out k hlt
      have HU : Hid (x < 0 → bstL xs (k + 1) = xs.getD k 0) := Lib.hid fun h => by
        rw [HX.out] at h
        exact bstL_neg h
      have HV : Hid (FaultsOf (xs.getD k 0) < FaultsOf x → bstL xs (k + 1) = xs.getD k 0) := Lib.hid fun h => by rw [HX.out] at h; exact bstL_yes h
      have HW2 : Hid (0 ≤ x → ¬ FaultsOf (xs.getD k 0) < FaultsOf x → bstL xs (k + 1) = x) := Lib.hid fun h0 h => by
        have e := HX.out
        rw [e] at h h0
        rw [e]
        exact bstL_no h0 h
      clear HX
      generalize xs.getD k 0 = y at *
      generalize hf1 : FaultsOf y = f1 at *
      generalize hf2 : FaultsOf x = f2 at *
      have C1 := Lib.hid fun W => sFaults y W
      have C2 := Lib.hid fun W => sFaults x W
      rw [hf1] at C1
      rw [hf2] at C2
      clear hf1 hf2
      by_cases hx : x < 0
      · have HE := Lib.hid (HU.out hx)
        clear HU HV HW2
        go_wp2_with fail
        go_roundg (gk - 1)
        case measure => omega
        case rel => exact ⟨k + 1, y, by omega, by go_num, rfl, Lib.hid HE.out.symm, rfl⟩
      have hx' : 0 ≤ x := by omega
      clear hx
      by_cases hf : f1 < f2
      · have HE := Lib.hid (HV.out hf)
        clear HU HV HW2
        go_wp2_with fail
        refine (C1.out _).mono ?_
        rintro e w2 ⟨rfl, rfl⟩
        go_wp2_with fail
        refine (C2.out _).mono ?_
        rintro e w2 ⟨rfl, rfl⟩
        go_wp2_with fail
        go_roundg (gk - 1)
        case measure => omega
        case rel => exact ⟨k + 1, y, by omega, by go_num, rfl, Lib.hid HE.out.symm, rfl⟩
      · have HE := Lib.hid (HW2.out hx' hf)
        clear HU HV HW2
        go_wp2_with fail
        refine (C1.out _).mono ?_
        rintro e w2 ⟨rfl, rfl⟩
        go_wp2_with fail
        refine (C2.out _).mono ?_
        rintro e w2 ⟨rfl, rfl⟩
        go_wp2_with fail
        go_roundg (gk - 1)
        case measure => omega
        case rel => exact ⟨k + 1, x, by omega, by go_num, rfl, Lib.hid HE.out.symm, rfl⟩
    · obtain rfl : k = xs.length := by omega
      have HE : Hid (x = simI xs) := Lib.hid HX.out
      clear HX
      by_cases hx0 : 0 ≤ x
      · have HD : Hid (decide (0 ≤ simI xs) = true) := Lib.hid (by rw [← HE.out]; exact decide_eq_true hx0)
        go_wp2_with fail
        go_ret2
        exact ⟨by rw [HD.out, ← HE.out]; rfl, b1⟩
      · have HD : Hid (decide (0 ≤ simI xs) = false) := Lib.hid (by rw [← HE.out]; exact decide_eq_false hx0)
        go_wp2_with fail
        go_ret2
        exact ⟨by rw [HD.out, ← HE.out]; rfl, b1⟩

set_option maxRecDepth 20000 in
set_option maxHeartbeats 2000000 in
theorem law_ExactSimplestFor (A : Option Addr) (len cap : Nat) (w : World) (hin : RecsIn Tryd.prog w A len cap 3 StrField) :
    Calls Tryd.prog 11 #[.slice A len cap] w fun e w' => e = .returned (.bool true) ∧ Below w.heap.size w w' := by
  obtain ⟨S, hR, hS⟩ := tests_in hin
  have HS := Lib.hid hS
  have CI := Lib.hid fun W B v hRw hBW => iSimple W B v len S hRw hBW hS
  have CS := Lib.hid fun W B v hRw hBW => sSimple W B v len S hRw hBW hS
  clear hin hS
  generalize wayL S len = xs at *
  unfold SimP at CI CS
  generalize decide (0 ≤ simI xs) = sb at *
  generalize simI xs = si at *
  go_enter Tryd.func11, Tryd.ntmps11
  go_wp2_with fail
  refine (szTestS_any _ _ _ len S _ hR (Nat.le_refl _) HS.out (by omega) (by omega)).mono ?_
  rintro e w0 ⟨r, rfl, hr0, hr1, hr2, b0⟩
  by_cases hbig : r < 0
  · go_wp2_with fail
    go_ret
    exact ⟨rfl, b0⟩
  have hpos : 0 ≤ r := by omega
  have hs : len ≤ 1048576 := hr2 hpos
  clear hbig hr2
  have hR0 := hR.below b0 (Nat.le_refl _)
  go_wp2_with fail
  refine (toTestS_any _ _ _ _ S hR0 b0.size hs).mono ?_
  rintro e w1 ⟨v1, rfl, o1, b1⟩
  have hB1 := below_own b0 b1 b0.size
  go_wp2_with fail
  refine (CS.out _ _ v1 (Recs.of_own o1) (Nat.le_refl _)).mono ?_
  rintro e w2 ⟨rfl, b2⟩
  have hB2 := below_own hB1 b2 hB1.size
  have hR2 := hR.below hB2 (Nat.le_refl _)
  have hs2 := hB2.size
  clear o1 b1 b2 b0 hB1 hR0
  go_wp2_with fail
  refine (toTestS_any _ _ _ _ S hR2 (by omega) hs).mono ?_
  rintro e w3 ⟨v3, rfl, o3, b3⟩
  have hB3 := below_own hB2 b3 hs2
  go_wp2_with fail
  refine (CI.out _ _ v3 (Recs.of_own o3) (Nat.le_refl _)).mono ?_
  rintro e w4 ⟨rfl, b4⟩
  have hB4 := below_own hB3 b4 hB3.size
  have s4 := (Recs.of_own o3).below b4 (Nat.le_refl _)
  have hR4 := hR.below hB4 (Nat.le_refl _)
  have hs4 := hB4.size
  have hs34 := b4.size
  clear hR hR2 o3 b3 b4
  go_wp2_with fail
  refine (toTestS_any _ _ _ _ S hR4 (by omega) hs).mono ?_
  rintro e w5 ⟨v5, rfl, o5, b5⟩
  have hB5 := below_own hB4 b5 hs4
  have s5 := s4.below b5 (by omega)
  go_wp2_with fail
  refine (eqTestS_t _ w5.heap.size _ _ len S (s5.mono (by have := b5.size; omega)) (Recs.of_own o5) (Nat.le_refl _)).mono ?_
  rintro e w6 ⟨rfl, b6⟩
  go_wp2_with fail
  go_ret
  exact ⟨rfl, below_own hB5 b6 hB5.size⟩
end Go.Proofs.YtfhefngpeknhlaaDoor
