/- The law on SimplestFor: none that explains has fewer faults. -/
import Derived.Test.YtfhefngpeknhlaaDoorWaysL
import Derived.Test.YtfhefngpeknhlaaDoorSim
import Derived.Test.YtfhefngpeknhlaaDoorSco
namespace Go.Proofs.YtfhefngpeknhlaaDoor
set_option linter.unusedVariables false
set_option linter.unusedSimpArgs false
open Go.RowKit

theorem bst_min {xs : List Int} (h : ∀ j, j < xs.length → 0 ≤ xs.getD j 0 ∧ xs.getD j 0 ≤ 15) (k : Nat) (hk : k < xs.length) :
    (∃ j, j < xs.length ∧ bstL xs (k + 1) = xs.getD j 0) ∧ ∀ j, j < k + 1 → FaultsOf (bstL xs (k + 1)) ≤ FaultsOf (xs.getD j 0) := by
  induction k with
  | zero =>
    rw [bstL_first]
    exact ⟨⟨0, hk, rfl⟩, fun j hj => by obtain rfl : j = 0 := by omega
                                        exact Int.le_refl _⟩
  | succ k ih =>
    obtain ⟨⟨j0, hj0, e0⟩, i2⟩ := ih (by omega)
    have h0 := (bstL_range h k (by omega)).1
    by_cases hf : FaultsOf (xs.getD (k + 1) 0) < FaultsOf (bstL xs (k + 1))
    · rw [bstL_yes hf]
      refine ⟨⟨k + 1, hk, rfl⟩, fun j hj => ?_⟩
      by_cases e : j = k + 1
      · subst e; exact Int.le_refl _
      · have := i2 j (by omega); omega
    · rw [bstL_no h0 hf]
      refine ⟨⟨j0, hj0, e0⟩, fun j hj => ?_⟩
      by_cases e : j = k + 1
      · subst e; omega
      · exact i2 j (by omega)
theorem faults_zero {x : Int} (h0 : 0 ≤ x) (h1 : x ≤ 15) (h : FaultsOf x ≤ 0) : x = 0 := by
  rcases way_cases h0 h1 with rfl | rfl | rfl | rfl | rfl | rfl | rfl | rfl | rfl | rfl | rfl | rfl | rfl | rfl | rfl | rfl <;> first | rfl | exact absurd h (by decide)
theorem cnt_all (S : Nat → Nat → ByteArray) (n : Nat) : cntE S n = n ↔ ∀ j, j < n → expAt S 0 j = true := by
  unfold cntE
  constructor
  · intro h j hj
    have : ((List.range n).filter (expAt S 0)).length = (List.range n).length := by rw [h, List.length_range]
    exact (List.length_filter_eq_length_iff.1 this) j (List.mem_range.2 hj)
  · intro h
    have : ((List.range n).filter (expAt S 0)).length = (List.range n).length := List.length_filter_eq_length_iff.2 fun j hj => h j (List.mem_range.1 hj)
    rw [this, List.length_range]
theorem sim_law (S : Nat → Nat → ByteArray) (n : Nat) : ((wayL S n).length = 0 → simI (wayL S n) = -1) ∧ (0 < (wayL S n).length → 0 ≤ simI (wayL S n) ∧ simI (wayL S n) ≤ 15 ∧ expB S n (simI (wayL S n)) = true ∧
    (∀ j, j < (wayL S n).length → ¬ FaultsOf ((wayL S n).getD j 0) < FaultsOf (simI (wayL S n))) ∧ (simI (wayL S n) = 0 ↔ scoI S n = (n : Int))) := by
  refine ⟨fun h => by unfold simI; rw [h]; rfl, fun h => ?_⟩
  have hr := wayL_range S n
  obtain ⟨⟨j0, hj0, e0⟩, hmin⟩ := bst_min hr ((wayL S n).length - 1) (by omega)
  rw [show (wayL S n).length - 1 + 1 = (wayL S n).length by omega] at e0 hmin
  have hs : simI (wayL S n) = (wayL S n).getD j0 0 := e0
  have hm : simI (wayL S n) ∈ wayL S n := by rw [hs, List.getD_eq_getElem?_getD, List.getElem?_eq_getElem hj0]; exact List.getElem_mem hj0
  have hin := wayL_in hm
  have hr0 := hr j0 hj0
  rw [← hs] at hr0
  refine ⟨hr0.1, hr0.2, hin.1, fun j hj => ?_, ?_⟩
  · have := hmin j hj
    show ¬ _ < FaultsOf (bstL _ _)
    omega
  · obtain ⟨hk, _, _, hall⟩ := expB_all hin.1
    have hsc : scoI S n = (cntE S n : Int) := by simp [scoI, hk]
    rw [hsc]
    constructor
    · intro hz
      rw [hz] at hall
      have := (cnt_all S n).2 hall
      omega
    · intro hc
      have hc' := (cnt_all S n).1 (by omega)
      have hx : expB S n (0 : Nat) = true := expB_good hk (by omega) (by omega) hc'
      have hm0 := wayL_mem (S := S) (n := n) (k := 0) (by omega) hx
      obtain ⟨j, hj, ej⟩ := List.getElem_of_mem hm0
      have hmj := hmin j hj
      rw [List.getD_eq_getElem?_getD, List.getElem?_eq_getElem hj] at hmj
      simp only [Option.getD_some] at hmj
      rw [ej] at hmj
      exact faults_zero hr0.1 hr0.2 hmj

set_option maxRecDepth 20000 in
set_option maxHeartbeats 4000000 in
/-- The law on SimplestFor. -/
theorem law_SimplestFor (A : Option Addr) (len cap : Nat) (w : World) (hc : CodeIn w A len cap) :
    Calls Tryd.prog 12 #[.slice A len cap] w fun e w' => e = .returned (.bool true) ∧ Below w.heap.size w w' := by
  have hlc := hc.1
  have hcm := hc.2.1
  unfold maxLen at hcm
  by_cases hbig : 1048576 < len
  · go_enter Tryd.func12, Tryd.ntmps12
    go_wp2_with fail
    go_ret
    exact ⟨rfl, Below.refl _ _⟩
  have hbig' : len ≤ 1048576 := by omega
  clear hbig
  go_enter Tryd.func12, Tryd.ntmps12
  go_wp2_with fail
  refine (draw_Simple A len cap _ hc).mono ?_
  rintro e w1 ⟨v, n, S, rfl, hn, hS, o1, b1⟩
  clear hc
  have HS : Hid (∀ i, i < n → ∀ j, j < 3 → (S i j).size ≤ maxLen) := Lib.hid fun i _ j _ => by have := hS i j; unfold maxLen; omega
  have hR1 := Recs.of_own o1
  obtain ⟨A1, cap1, rfl, hnc, hcm1, _⟩ := id hR1
  have HR1 := Lib.hid hR1
  unfold maxLen at hcm1
  have CI := Lib.hid fun W hR hB => iSimple W w1.heap.size (.slice A1 n cap1) n S hR hB HS.out
  have CS := Lib.hid fun W hR hB => sSimple W w1.heap.size (.slice A1 n cap1) n S hR hB HS.out
  have CW := Lib.hid fun W hR hB => iWays W w1.heap.size (.slice A1 n cap1) n S hR hB HS.out
  have CE := Lib.hid fun W (way : Int) hR hB => iExplains W w1.heap.size (.slice A1 n cap1) n S way hR hB HS.out
  have CX := Lib.hid fun W hR hB => iScore W w1.heap.size (.slice A1 n cap1) n S hR hB HS.out
  obtain ⟨hl1, hl2⟩ := sim_law S n
  have hl5 : (wayL S n).length ≤ 16 := whL_length _ _
  have HL1 := Lib.hid hl1
  have HL2 := Lib.hid hl2
  clear hS o1 hR1 hl1 hl2
  generalize wayL S n = xs at *
  unfold SimP at CI CS
  generalize hsb : decide (0 ≤ simI xs) = sb at *
  have HSb := Lib.hid hsb
  clear hsb
  generalize simI xs = si at *
  go_wp2_with fail
  refine (CI.out _ HR1.out (Nat.le_refl _)).mono ?_
  rintro e w2 ⟨rfl, b2⟩
  have hB2 := below_own b1 b2 b1.size
  have HR2 := Lib.hid (HR1.out.below b2 (Nat.le_refl _))
  have hs2 := b2.size
  clear b1 b2 HR1
  go_wp2_with fail
  refine (CS.out _ HR2.out hs2).mono ?_
  rintro e w3 ⟨rfl, b3⟩
  have hB3 := below_own hB2 b3 hB2.size
  have HR3 := Lib.hid (HR2.out.below b3 hs2)
  have hs3 : w1.heap.size ≤ w3.heap.size := by have := b3.size; omega
  clear hB2 b3 HR2
  go_wp2_with fail
  refine (CW.out _ HR3.out hs3).mono ?_
  rintro e w4 ⟨v4, rfl, o4, b4⟩
  have hB4 := below_own hB3 b4 hB3.size
  have HR4 := Lib.hid (HR3.out.below b4 hs3)
  have s4 := IntSl.of_own o4
  have hs4 : w1.heap.size ≤ w4.heap.size := by have := b4.size; omega
  clear hB3 b4 HR3 o4
  obtain ⟨A', cap', rfl, hnc', hcm', hcell⟩ := s4
  have Hc := Lib.hid hcell
  unfold maxLen at hcm'
  clear hcell
  by_cases hz : xs.length = 0
  · have hsi := HL1.out hz
    have hsb : sb = false := by rw [← HSb.out, hsi]; rfl
    subst hsi hsb
    rw [hz]
    go_wp2_with (go_at_call 20; refine (alive_any _).mono ?_; rintro e w' ⟨rfl, rfl⟩)
    go_ret
    exact ⟨rfl, hB4⟩
  · obtain ⟨h0, h15, hx, hmin, hzero⟩ := HL2.out (by omega)
    have hsb : sb = true := by rw [← HSb.out]; exact decide_eq_true h0
    subst hsb
    have CE0 := Lib.hid fun W => CE.out W si
    rw [hx] at CE0
    have HM := Lib.hid hmin
    have hz' : 0 < xs.length := by omega
    obtain ⟨b, o, rfl, hb, hc⟩ := Hc.out hz'
    have HC := Lib.hid hc
    clear hx hmin hz hc HL1 HL2 Hc HSb CI CS CW CE
    go_wp2_with fail
    go_loopg [9] xs.length (fun g s9 wr => ∃ k : Nat, g + k = xs.length ∧ s9 = .int .i64 k ∧ w4 = wr)
    case atStart => exact ⟨0, rfl, rfl, rfl⟩
    case round =>
      obtain ⟨k, hk', rfl, rfl⟩ := hrel
      by_cases hlt : k < xs.length
      · have e1 := HC.out k hlt
        have hf := HM.out k hlt
        have hki : (k : Int) < (xs.length : Int) := by omega
        generalize xs.getD k 0 = x at *
        have C1 := Lib.hid fun W => iFaults x W
        have C2 := Lib.hid fun W => iFaults si W
        generalize FaultsOf x = f1 at *
        generalize FaultsOf si = f2 at *
        go_wp2_with fail
        refine (C1.out _).mono ?_
        rintro e w5 ⟨rfl, rfl⟩
        go_wp2_with fail
        refine (C2.out _).mono ?_
        rintro e w5 ⟨rfl, rfl⟩
        go_wp2_with fail
        go_roundg (gk - 1)
        case measure => omega
        case rel => exact ⟨k + 1, by omega, by go_num, rfl⟩
      · obtain rfl : k = xs.length := by omega
        go_wp2_with fail
        refine (CE0.out _ HR4.out hs4).mono ?_
        rintro e w5 ⟨rfl, b5⟩
        have hB5 := below_own hB4 b5 hB4.size
        have HR5 := Lib.hid (HR4.out.below b5 hs4)
        have hs5 : w1.heap.size ≤ w5.heap.size := by have := b5.size; omega
        by_cases hs0 : si = 0
        · have hsc := hzero.1 hs0
          have e1 : (si == 0) = true := by rw [beq_iff_eq]; exact hs0
          have e2 : (scoI S n == (n : Int)) = true := by rw [beq_iff_eq]; exact hsc
          generalize scoI S n = sc at *
          clear hzero hs0 hsc
          go_wp2_with fail
          refine (CX.out _ HR5.out hs5).mono ?_
          rintro e w6 ⟨rfl, b6⟩
          have hB6 := below_own hB5 b6 hB5.size
          go_wp2_with fail
          go_ret
          exact ⟨rfl, hB6⟩
        · have e1 : (si == 0) = false := by rw [beq_eq_false_iff_ne]; exact hs0
          have e2 : (scoI S n == (n : Int)) = false := by rw [beq_eq_false_iff_ne]; exact fun e => hs0 (hzero.2 e)
          generalize scoI S n = sc at *
          clear hzero hs0
          go_wp2_with fail
          refine (CX.out _ HR5.out hs5).mono ?_
          rintro e w6 ⟨rfl, b6⟩
          have hB6 := below_own hB5 b6 hB5.size
          go_wp2_with fail
          go_ret
          exact ⟨rfl, hB6⟩
end Go.Proofs.YtfhefngpeknhlaaDoor
