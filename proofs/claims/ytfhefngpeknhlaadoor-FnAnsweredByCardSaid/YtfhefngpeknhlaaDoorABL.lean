/- The law on AnsweredBy: answers are those of the way. -/
import Derived.Test.YtfhefngpeknhlaaDoorLst
import Derived.Test.YtfhefngpeknhlaaDoorAnsI
import Derived.Test.YtfhefngpeknhlaaDoorSco
import Derived.BigQuiet
namespace Go.Proofs.YtfhefngpeknhlaaDoor
set_option linter.unusedVariables false
set_option linter.unusedSimpArgs false
open Go.RowKit

set_option maxRecDepth 20000 in
set_option maxHeartbeats 4000000 in
theorem sameTests_t (w : World) (B : Nat) (v1 v2 : Value) (n : Nat) (F : Nat → Nat → ByteArray) (h1 : Recs w B v1 n 3 (SV F)) (h2 : Recs w B v2 n 3 (SV F)) :
    Calls Tryd.prog 17 #[v1, v2] w fun e w' => e = .returned (.bool true) ∧ Below w.heap.size w w' := by
  obtain ⟨A1, c1, rfl, l1, m1, r1⟩ := h1
  obtain ⟨A2, c2, rfl, l2, m2, r2⟩ := h2
  have R1 := Lib.hid r1
  have R2 := Lib.hid r2
  clear r1 r2
  unfold maxLen at m1 m2
  go_enter Tryd.func17, Tryd.ntmps17
  go_wp2_with fail
  go_loopg [5] n (fun g s5 wr => ∃ k q : Nat, g + k = n ∧ s5 = .int .i64 k ∧ wr = w.drewN q)
  case atStart => exact ⟨0, 0, rfl, rfl, rfl⟩
  case round =>
    obtain ⟨k, q, hk, rfl, rfl⟩ := hrel
    by_cases hlt : k < n
    · obtain ⟨b1, o1, rfl, hb1, hc1⟩ := R1.out (by omega)
      obtain ⟨b2, o2, rfl, hb2, hc2⟩ := R2.out (by omega)
      have e0 : w.cell? ⟨b1, o1 + k * 3, none⟩ = _ := hc1 k hlt 0 (by omega)
      have e1 := hc1 k hlt 1 (by omega)
      have e2 := hc1 k hlt 2 (by omega)
      have f0 : w.cell? ⟨b2, o2 + k * 3, none⟩ = _ := hc2 k hlt 0 (by omega)
      have f1 := hc2 k hlt 1 (by omega)
      have f2 := hc2 k hlt 2 (by omega)
      simp only [SV] at e0 e1 e2 f0 f1 f2
      clear hc1 hc2
      have i0 : (0 : Int) ≤ (k : Int) := by omega
      have i1 : (k : Int) < (n : Int) := by omega
      generalize F k 0 = x0 at *
      generalize F k 1 = x1 at *
      generalize F k 2 = x2 at *
      go_wp2_with fail
      go_quiet (fail)
      go_wp2_with fail
      go_roundg (gk - 1)
      case measure => omega
      case rel => exact ⟨k + 1, q + nq, by omega, by go_num, by first | rfl | (rw [World.drewN_drewN])⟩
    · obtain rfl : k = n := by omega
      go_wp2_with fail
      go_ret
      exact ⟨rfl, below_drewN (Below.refl _ _) _⟩

theorem sco_right {S : Nat → Nat → ByteArray} {n : Nat} (hk : tokB S n = true) : scoI (abS S 0) n = (n : Int) := by
  have h1 : scoI (abS S 0) n = (cntE (abS S 0) n : Int) := by simp [scoI, tokB_ab, hk]
  have h2 : cntE (abS S 0) n = n := by
    unfold cntE
    rw [List.filter_eq_self.2, List.length_range]
    intro j _
    show decide (tkS (S j 0).data.toList (S j 1).data.toList 0 = tkS (S j 0).data.toList (S j 1).data.toList 0) = true
    exact decide_eq_true rfl
  rw [h1, h2]

set_option maxRecDepth 20000 in
theorem draw_Answered (A : Option Addr) (len cap : Nat) (w : World) (hc : CodeIn w A len cap) : Calls Tryd.prog 15 #[.slice A len cap] w (DrawTI w) := by
  go_enter Tryd.func15, Tryd.ntmps15
  go_wp2_with fail
  refine (draw_Explains A len cap _ hc).mono ?_
  rintro e w1 ⟨v, n, S, way, rfl, hn, hS, hw0, hw1, o1, b1⟩
  go_wp2_with fail
  go_ret2
  exact ⟨v, n, S, way, rfl, hn, hS, hw0, hw1, o1, b1⟩

set_option maxRecDepth 20000 in
set_option maxHeartbeats 4000000 in
/-- The law on AnsweredBy. -/
theorem law_AnsweredBy (A : Option Addr) (len cap : Nat) (w : World) (hc : CodeIn w A len cap) :
    Calls Tryd.prog 3 #[.slice A len cap] w fun e w' => e = .returned (.bool true) ∧ Below w.heap.size w w' := by
  have hlc := hc.1
  have hcm := hc.2.1
  unfold maxLen at hcm
  by_cases hbig : 1048576 < len
  · go_enter Tryd.func3, Tryd.ntmps3
    go_wp2_with fail
    go_ret
    exact ⟨rfl, Below.refl _ _⟩
  have hbig' : len ≤ 1048576 := by omega
  clear hbig
  go_enter Tryd.func3, Tryd.ntmps3
  go_wp2_with fail
  refine (draw_Answered A len cap _ hc).mono ?_
  rintro e w1 ⟨v, n, S, way, rfl, hn, hS, hw0, hw1, o1, b1⟩
  clear hc
  have HS : Hid (∀ i, i < n → ∀ j, j < 3 → (S i j).size ≤ maxLen) := Lib.hid fun i _ j _ => by have := hS i j; unfold maxLen; omega
  have HSa : Hid (∀ i, i < n → ∀ j, j < 3 → (abS S 0 i j).size ≤ maxLen) := Lib.hid fun i _ j _ => by have := abS_size S 0 110 (by decide) i j (hS i j); unfold maxLen; omega
  have hR1 := Recs.of_own o1
  obtain ⟨A1, cap1, rfl, hnc, hcm1, _⟩ := id hR1
  have HR1 := Lib.hid hR1
  unfold maxLen at hcm1
  have CA := Lib.hid fun W (way : Int) hR hB => iAnswered W w1.heap.size (.slice A1 n cap1) n S way hR hB HS.out
  have CS := Lib.hid fun W hR hB => sAnswered W w1.heap.size (.slice A1 n cap1) n S way hR hB HS.out
  have CT := Lib.hid fun W hR hB => sTestsOk W w1.heap.size (.slice A1 n cap1) n S hR hB HS.out
  have HN := Lib.hid fun h => abN_no (S := S) (n := n) (way := way) h
  have HY := Lib.hid fun h h0 h1 => abN_ok (S := S) (n := n) (way := way) h h0 h1
  have HG : Hid (∀ i, abS S way i 0 = S i 0 ∧ abS S way i 1 = S i 1) := Lib.hid fun i => ⟨rfl, rfl⟩
  have hm6 := abN_le S n way
  have C1 := Lib.hid (CA.out w1 way HR1.out (Nat.le_refl _))
  clear hS o1 hR1
  generalize abN S n way = m at *
  generalize abS S way = G at *
  go_wp2_with fail
  refine C1.out.mono ?_
  rintro e w2 ⟨v2, rfl, o2, b2⟩
  have hB2 := below_own b1 b2 b1.size
  have HR2 := Lib.hid (HR1.out.below b2 (Nat.le_refl _))
  have hs2 := b2.size
  have r2 := Recs.of_own o2
  clear b1 b2 HR1 o2 C1
  go_wp2_with fail
  refine (CS.out _ HR2.out hs2).mono ?_
  rintro e w3 ⟨v3, rfl, o3, b3⟩
  have hB3 := below_own hB2 b3 hB2.size
  have HR3 := Lib.hid (HR2.out.below b3 hs2)
  have r3 := r2.below b3 (Nat.le_refl _)
  have hs23 := b3.size
  have hs3 : w1.heap.size ≤ w3.heap.size := by omega
  have t3 := Recs.of_own (Own.of_row o3)
  clear hB2 b3 HR2 r2 o3
  go_wp2_with fail
  refine (sameTests_t _ w3.heap.size _ _ m G (r3.mono hs23) t3).mono ?_
  rintro e w4 ⟨rfl, b4⟩
  have hB4 := below_own hB3 b4 hB3.size
  have HR4 := Lib.hid (HR3.out.below b4 hs3)
  have r4 := r3.below b4 hs23
  have hs34 := b4.size
  have hs4 : w1.heap.size ≤ w4.heap.size := by omega
  clear hB3 b4 HR3 r3 t3
  go_wp2_with fail
  refine (CT.out _ HR4.out hs4).mono ?_
  rintro e w5 ⟨rfl, b5⟩
  have hB5 := below_own hB4 b5 hB4.size
  have HR5 := Lib.hid (HR4.out.below b5 hs4)
  have r5 := r4.below b5 (by omega)
  have hs45 := b5.size
  have hs5 : w1.heap.size ≤ w5.heap.size := by omega
  clear hB4 b5 HR4 r4
  obtain ⟨A', cap', rfl, hnc', hcm', hcell⟩ := r5
  have Hc := Lib.hid hcell
  unfold maxLen at hcm'
  clear hcell
  cases hk : tokB S n with
  | false =>
    have hm0 := HN.out (.inl hk)
    subst hm0
    go_wp2_with (go_at_call 20; refine (alive_any _).mono ?_; rintro e w' ⟨rfl, rfl⟩)
    go_ret
    exact ⟨rfl, hB5⟩
  | true =>
    by_cases hlo : way < 0
    · have hm0 := HN.out (.inr (.inl hlo))
      subst hm0
      go_wp2_with (go_at_call 20; refine (alive_any _).mono ?_; rintro e w' ⟨rfl, rfl⟩)
      go_ret
      exact ⟨rfl, hB5⟩
    have hlo' : 0 ≤ way := by omega
    clear hlo
    by_cases hhi : 16 ≤ way
    · have hm0 := HN.out (.inr (.inr (by omega)))
      subst hm0
      go_wp2_with (go_at_call 20; refine (alive_any _).mono ?_; rintro e w' ⟨rfl, rfl⟩)
      go_ret
      exact ⟨rfl, hB5⟩
    have hhi' : way < 16 := by omega
    clear hhi
    have hm0 := HY.out hk hlo' (by omega)
    subst hm0
    have HA0 := Lib.hid (abN_ok (S := S) (n := m) (way := 0) hk (by decide) (by decide))
    have HX := Lib.hid (sco_right hk)
    have C0 := Lib.hid fun W => CA.out W 0
    rw [HA0.out] at C0
    clear hk HN HY CS CT CA
    go_wp2_with fail
    go_loopg [6] m (fun g s6 wr => ∃ k q : Nat, g + k = m ∧ s6 = .int .i64 k ∧ wr = w5.drewN q)
    case atStart => exact ⟨0, 0, rfl, rfl, rfl⟩
    case round =>
      obtain ⟨k, q, hk', rfl, rfl⟩ := hrel
      by_cases hlt : k < m
      · obtain ⟨b, o, rfl, hb, hc⟩ := Hc.out (by omega)
        obtain ⟨_, _, hv, _, _, hcell⟩ := HR5.out
        cases hv
        obtain ⟨b', o', rfl, hb', hc'⟩ := hcell (by omega)
        have e0 : w5.cell? ⟨b, o + k * 3, none⟩ = _ := hc k hlt 0 (by omega)
        have e1 := hc k hlt 1 (by omega)
        have f0 : w5.cell? ⟨b', o' + k * 3, none⟩ = _ := hc' k hlt 0 (by omega)
        have f1 := hc' k hlt 1 (by omega)
        simp only [SV] at e0 e1 f0 f1
        rw [(HG.out k).1] at e0
        rw [(HG.out k).2] at e1
        have i0 : (0 : Int) ≤ (k : Int) := by omega
        have i1 : (k : Int) < (m : Int) := by omega
        clear hc hc' hcell
        generalize S k 0 = x0 at *
        generalize S k 1 = x1 at *
        go_wp2_with fail
        go_quiet (fail)
        go_wp2_with fail
        go_roundg (gk - 1)
        case measure => omega
        case rel => exact ⟨k + 1, q + nq, by omega, by go_num, by first | rfl | (rw [World.drewN_drewN])⟩
      · obtain rfl : k = m := by omega
        have hBq : Below w.heap.size w (w5.drewN q) := below_drewN hB5 q
        have HRq : Recs (w5.drewN q) w1.heap.size (.slice A1 k cap1) k 3 (SV S) := HR5.out.keep fun _ _ _ => rfl
        have hsq : w1.heap.size ≤ (w5.drewN q).heap.size := hs5
        have C6 := Lib.hid (C0.out _ HRq hsq)
        generalize w5.drewN q = wq at *
        clear HRq HR5 Hc
        go_wp2_with fail
        refine C6.out.mono ?_
        rintro e w6 ⟨v6, rfl, o6, b6⟩
        have hB6 := below_own hBq b6 hBq.size
        have C7 := Lib.hid (iScore w6 w6.heap.size v6 k (abS S 0) (Recs.of_own o6) (Nat.le_refl _) HSa.out)
        rw [HX.out] at C7
        clear o6
        go_wp2_with fail
        refine C7.out.mono ?_
        rintro e w7 ⟨rfl, b7⟩
        have hB7 := below_own hB6 b7 hB6.size
        go_wp2_with fail
        go_ret
        exact ⟨rfl, hB7⟩
end Go.Proofs.YtfhefngpeknhlaaDoor
