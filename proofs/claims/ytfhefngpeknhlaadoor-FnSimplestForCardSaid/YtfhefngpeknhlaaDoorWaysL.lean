/- The law on WaysFor: more exercises leave fewer ways. -/
import Derived.Test.YtfhefngpeknhlaaDoorLst
import Derived.Test.YtfhefngpeknhlaaDoorWays
import Derived.Test.YtfhefngpeknhlaaDoorSilL
namespace Go.Proofs.YtfhefngpeknhlaaDoor
set_option linter.unusedVariables false
set_option linter.unusedSimpArgs false
open Go.RowKit

theorem filt_le {p q : Nat → Bool} (h : ∀ i, p i = true → q i = true) : ∀ l : List Nat, (l.filter p).length ≤ (l.filter q).length
  | [] => Nat.le_refl _
  | a :: l => by
    have ih := filt_le h l
    rw [List.filter_cons, List.filter_cons]
    split
    · rename_i hp
      rw [if_pos (h a hp)]
      simpa using ih
    · split
      · simp only [List.length_cons]; omega
      · exact ih
theorem wayL_in {S : Nat → Nat → ByteArray} {n : Nat} {x : Int} (h : x ∈ wayL S n) : expB S n x = true ∧ ∃ k : Nat, k < 16 ∧ x = k := by
  simp only [wayL, whL, List.mem_map, List.mem_filter, List.mem_range] at h
  obtain ⟨i, ⟨hi, he⟩, rfl⟩ := h
  exact ⟨he, i, hi, rfl⟩
theorem wayL_mem {S : Nat → Nat → ByteArray} {n k : Nat} (hk : k < 16) (h : expB S n k = true) : (k : Int) ∈ wayL S n := whL_mem hk h
theorem way_law (S : Nat → Nat → ByteArray) (n : Nat) : (tokB S n = false → wayL S n = []) ∧ (tokB S n = true → n = 0 → (wayL S n).length = 16) ∧
    (∀ j, j < (wayL S n).length → expB S n ((wayL S n).getD j 0) = true ∧ (wayL S n).getD j 0 ∈ wayL S (n - 1)) ∧ (wayL S n).length ≤ (wayL S (n - 1)).length := by
  refine ⟨fun h => whL_none fun j => expB_none h, fun h h0 => ?_, fun j hj => ?_, ?_⟩
  · subst h0
    unfold wayL whL
    rw [List.length_map, List.filter_eq_self.2, List.length_range]
    intro k hk
    exact expB_good h (by omega) (by have := List.mem_range.1 hk; omega) fun j hj => by omega
  · have hm : (wayL S n).getD j 0 ∈ wayL S n := by rw [List.getD_eq_getElem?_getD, List.getElem?_eq_getElem hj]; exact List.getElem_mem hj
    generalize (wayL S n).getD j 0 = x at *
    obtain ⟨he, k, hk, rfl⟩ := wayL_in hm
    exact ⟨he, wayL_mem hk (expB_head he (by omega))⟩
  · unfold wayL whL
    rw [List.length_map, List.length_map]
    exact filt_le (fun i hi => expB_head hi (by omega)) _

set_option maxRecDepth 20000 in
set_option maxHeartbeats 4000000 in
/-- The law on WaysFor. -/
theorem law_WaysFor (A : Option Addr) (len cap : Nat) (w : World) (hc : CodeIn w A len cap) :
    Calls Tryd.prog 4 #[.slice A len cap] w fun e w' => e = .returned (.bool true) ∧ Below w.heap.size w w' := by
  have hlc := hc.1
  have hcm := hc.2.1
  unfold maxLen at hcm
  by_cases hbig : 1048576 < len
  · go_enter Tryd.func4, Tryd.ntmps4
    go_wp2_with fail
    go_ret
    exact ⟨rfl, Below.refl _ _⟩
  have hbig' : len ≤ 1048576 := by omega
  clear hbig
  go_enter Tryd.func4, Tryd.ntmps4
  go_wp2_with fail
  refine (draw_Ways A len cap _ hc).mono ?_
  rintro e w1 ⟨v, n, S, rfl, hn, hS, o1, b1⟩
  clear hc
  have HS : Hid (∀ m, ∀ i, i < m → ∀ j, j < 3 → (S i j).size ≤ maxLen) := Lib.hid fun _ i _ j _ => by have := hS i j; unfold maxLen; omega
  have hR1 := Recs.of_own o1
  obtain ⟨A1, cap1, rfl, hnc, hcm1, _⟩ := id hR1
  have HR1 := Lib.hid hR1
  unfold maxLen at hcm1
  have CI := Lib.hid fun W hR hB => iWays W w1.heap.size (.slice A1 n cap1) n S hR hB (HS.out n)
  have CP := Lib.hid fun W hR hB => iWays W w1.heap.size (.slice A1 (n - 1) cap1) (n - 1) S hR hB (HS.out (n - 1))
  have CS := Lib.hid fun W hR hB => sWays W w1.heap.size (.slice A1 n cap1) n S hR hB (HS.out n)
  have CT := Lib.hid fun W hR hB => sTestsOk W w1.heap.size (.slice A1 n cap1) n S hR hB (HS.out n)
  have CE := Lib.hid fun W (way : Int) hR hB => iExplains W w1.heap.size (.slice A1 n cap1) n S way hR hB (HS.out n)
  obtain ⟨hl1, hl2, hl3, hl4⟩ := way_law S n
  have hl5 : (wayL S n).length ≤ 16 := whL_length _ _
  have hl6 : (wayL S (n - 1)).length ≤ 16 := whL_length _ _
  have HL1 := Lib.hid hl1
  have HL2 := Lib.hid hl2
  have HL3 := Lib.hid hl3
  clear hS o1 hR1 hl1 hl2 hl3
  generalize wayL S n = xs at *
  generalize wayL S (n - 1) = ys at *
  go_wp2_with fail
  refine (CI.out _ HR1.out (Nat.le_refl _)).mono ?_
  rintro e w2 ⟨v2, rfl, o2, b2⟩
  have s2 := IntSl.of_own o2
  have hB2 := below_own b1 b2 b1.size
  have HR2 := Lib.hid (HR1.out.below b2 (Nat.le_refl _))
  have hs2 := b2.size
  clear b1 b2 HR1 o2
  go_wp2_with fail
  refine (CS.out _ HR2.out hs2).mono ?_
  rintro e w3 ⟨v3, rfl, o3, b3⟩
  have hB3 := below_own hB2 b3 hB2.size
  have HR3 := Lib.hid (HR2.out.below b3 hs2)
  have s3 := s2.below b3 (Nat.le_refl _)
  have hs23 := b3.size
  have hs3 : w1.heap.size ≤ w3.heap.size := by omega
  clear hB2 b3 HR2 s2
  go_wp2_with fail
  refine (sameInts _ w3.heap.size _ _ xs (s3.mono hs23) (IntSl.of_own o3)).mono ?_
  rintro e w4 ⟨rfl, b4⟩
  have hB4 := below_own hB3 b4 hB3.size
  have HR4 := Lib.hid (HR3.out.below b4 hs3)
  have s4 := s3.below b4 hs23
  have hs34 := b4.size
  have hs4 : w1.heap.size ≤ w4.heap.size := by omega
  clear hB3 b4 HR3 s3 o3
  go_wp2_with fail
  refine (CT.out _ HR4.out hs4).mono ?_
  rintro e w5 ⟨rfl, b5⟩
  have hB5 := below_own hB4 b5 hB4.size
  have HR5 := Lib.hid (HR4.out.below b5 hs4)
  have s5 := s4.below b5 (by omega)
  have hs45 := b5.size
  have hs5 : w1.heap.size ≤ w5.heap.size := by omega
  clear hB4 b5 HR4 s4
  obtain ⟨A', cap', rfl, hnc', hcm', hcell⟩ := s5
  have Hc := Lib.hid hcell
  unfold maxLen at hcm'
  clear hcell
  cases hk : tokB S n with
  | false =>
    have hx := HL1.out hk
    subst hx
    go_wp2_with (go_at_call 20; refine (alive_any _).mono ?_; rintro e w' ⟨rfl, rfl⟩)
    go_ret
    exact ⟨rfl, hB5⟩
  | true =>
    by_cases hz : n = 0
    · have hx := HL2.out hk hz
      have e0 : ((n : Int) == 0) = true := by rw [beq_iff_eq]; omega
      have e1 : ((xs.length : Int) == 16) = true := by rw [beq_iff_eq]; omega
      go_wp2_with fail
      go_ret
      exact ⟨rfl, hB5⟩
    · have e0 : ((n : Int) == 0) = false := by rw [beq_eq_false_iff_ne]; omega
      have hz' : 0 < n := by omega
      have HRp := Lib.hid (recs_head HR5.out (n - 1) (by omega))
      have hn1 : (n : Int) - 1 = ((n - 1 : Nat) : Int) := by omega
      have C2 := Lib.hid (CP.out w5 HRp.out hs5)
      clear hz HRp
      obtain ⟨n1, hn1'⟩ : ∃ m, n - 1 = m := ⟨_, rfl⟩
      rw [hn1'] at C2 hn1
      go_wp2_with fail
      refine C2.out.mono ?_
      rintro e w6 ⟨v6, rfl, o6, b6⟩
      have hB6 := below_own hB5 b6 hB5.size
      have HR6 := Lib.hid (HR5.out.below b6 hs5)
      have s6 := IntSl.of_own o6
      have HC6 : Hid (∀ j, j < xs.length → ∃ b o, A' = some ⟨b, o, none⟩ ∧ w6.cell? ⟨b, o + j, none⟩ = some (.int .i64 (xs.getD j 0)) ∧ b < w6.heap.size) := Lib.hid fun j hj => by
        obtain ⟨b, o, e, hb, hc⟩ := Hc.out (by omega)
        refine ⟨b, o, e, ?_, by have := b6.size; omega⟩
        exact (b6.cell (p := ⟨b, o + j, none⟩) (by show b < w5.heap.size; omega)).trans (hc j hj)
      have hs6 : w1.heap.size ≤ w6.heap.size := by have := b6.size; omega
      have l6 : ∃ A6 cap6, v6 = .slice A6 ys.length cap6 ∧ cap6 ≤ 9223372036854775807 := by
        obtain ⟨A6, c6, e, _, hm, _⟩ := s6
        exact ⟨A6, c6, e, by unfold maxLen at hm; omega⟩
      obtain ⟨A6, cap6, rfl, hcm6⟩ := l6
      have H6 := Lib.hid s6
      clear hB5 b6 HR5 hs5 o6 s6 C2 Hc CP CI CS CT
      go_wp2_with fail
      go_loopg [6] xs.length (fun g s6 wr => ∃ k : Nat, g + k = xs.length ∧ s6 = .int .i64 k ∧ Below w6.heap.size w6 wr)
      case atStart => exact ⟨0, rfl, rfl, Below.refl _ _⟩
      case round =>
        obtain ⟨k, hk', rfl, hB⟩ := hrel
        by_cases hlt : k < xs.length
        · obtain ⟨b, o, rfl, hcl, hbl⟩ := HC6.out k hlt
          have e1 := (hB.cell (p := ⟨b, o + k, none⟩) hbl).trans hcl
          have hr := HR6.out.below hB hs6
          obtain ⟨hx1, hx2⟩ := HL3.out k hlt
          have CX := Lib.hid (CE.out wr (xs.getD k 0) hr (by have := hB.size; omega))
          rw [hx1] at CX
          have hki : (k : Int) < (xs.length : Int) := by omega
          have HB := Lib.hid hB
          have CH := Lib.hid fun W hW => hasInt_any W w6.heap.size (.slice A6 ys.length cap6) ys (xs.getD k 0) hW
          rw [decide_eq_true hx2] at CH
          have hwb : b < wr.heap.size := by have := hB.size; omega
          clear hB hr hcl hx1 hx2
          generalize xs.getD k 0 = x at *
          go_wp2_with fail
          refine CX.out.mono ?_
          rintro e w7 ⟨rfl, b7⟩
          have e2 := (b7.cell (p := ⟨b, o + k, none⟩) hwb).trans e1
          have hB7 := below_own HB.out b7 HB.out.size
          have h6 := H6.out.below hB7 (Nat.le_refl _)
          clear e1
          go_wp2_with fail
          refine (CH.out _ h6).mono ?_
          rintro e w8 ⟨rfl, rfl⟩
          go_wp2_with fail
          go_roundg (gk - 1)
          case measure => omega
          case rel => exact ⟨k + 1, by omega, by go_num, hB7⟩
        · obtain rfl : k = xs.length := by omega
          have hle : ¬ ((ys.length : Int) < (xs.length : Int)) := by omega
          go_wp2_with fail
          go_ret
          exact ⟨by first | rfl | (simp <;> omega), below_own hB6 hB hB6.size⟩
end Go.Proofs.YtfhefngpeknhlaaDoor
